/- The law on RowCost holds. -/
import Derived.Test.YthkfbmboiabolaaDigit
import Derived.Test.YthkfbmboiabolaaCell
import Derived.Test.YthkfbmboiabolaaRowOk
import Derived.Test.YthkfbmboiabolaaFuncI
import Derived.Test.YthkfbmboiabolaaCRowCost
namespace Go.Proofs.Ythkfbmboiabolaa
open Go.RowKit
set_option linter.unusedVariables false

/-- A number that is none of a cell's. -/
def badZ (dn b : Int) : Bool := !(decide (0 ≤ b ∧ b ≤ dn - 1))
theorem badZ_t {dn b : Int} (h : badZ dn b = true) : b < 0 ∨ dn - 1 < b := by
  unfold badZ at h
  simp only [Bool.not_eq_true', decide_eq_false_iff_not] at h
  omega
theorem badZ_f {dn b : Int} (h : badZ dn b = false) : 0 ≤ b ∧ b ≤ dn - 1 := by
  unfold badZ at h
  simpa using h
/-- What the first cells of a row cost. -/
noncomputable def rcTo (wn dn p0 p1 : Nat) (bs : List Nat) (y : Nat) (zs : List Int) : Nat → Nat
  | 0 => nrm (bs.getD (cellN wn ((0 : Nat) : Int) (y : Int) * dn + (zs.getD 0 0).toNat) 0)
  | x + 1 => fop .add (fop .add (rcTo wn dn p0 p1 bs y zs x) (nrm (priceX p0 p1 (zs.getD x 0) (zs.getD (x + 1) 0)))) (nrm (bs.getD (cellN wn ((x + 1 : Nat) : Int) (y : Int) * dn + (zs.getD (x + 1) 0).toNat) 0))
theorem Box2.c0 {w : World} {g : Nat} {a b : Value} (h : Box2 w g a b) : w.cell? ⟨g, 0, none⟩ = some a := h.1
theorem Box2.c1 {w : World} {g : Nat} {a b : Value} (h : Box2 w g a b) : w.cell? ⟨g, 1, none⟩ = some b := h.2
theorem any_getD {p : Int → Bool} {zs : List Int} (h : zs.any p = false) {i : Nat} (hi : i < zs.length) : p (zs.getD i 0) = false := by
  have := List.any_eq_false.1 h (zs.getD i 0) (by simp [List.getD, hi])
  simpa using this
theorem rc1_any (gv : Nat) (z0 z1 z2 b : Int) (s : Value) (U : World) (h1 : 1 ≤ z2) (h8 : z2 ≤ 8) (hB : Box4 U gv (.int .i64 z0) (.int .i64 z1) (.int .i64 z2) s) :
    Calls Try.prog 51 #[.int .i64 b, .pointer (some ⟨gv, 0, none⟩)] U fun e U' => e = .returned (.bool (badZ z2 b)) ∧ Ext U U' := by
  have hw : IntKind.i64.wrap (z2 - 1) = z2 - 1 := wrap_small _ (by omega) (by omega)
  obtain ⟨b0, b1, b2, b3⟩ := hB
  cases hb : badZ z2 b with
  | true =>
    have HN := Lib.hid (badZ_t hb)
    clear hb
    go_enter Try.func51, Try.ntmps51
    go_wp2_with fail
    refine (implIn_no b 0 (z2 - 1) _ HN.out).mono ?_
    rintro e w' ⟨rfl, rfl⟩
    go_wp2
    go_ret
    exact ⟨rfl, Ext.refl _⟩
  | false =>
    have HN := Lib.hid (badZ_f hb)
    clear hb
    go_enter Try.func51, Try.ntmps51
    go_wp2_with fail
    refine (implIn_yes b 0 (z2 - 1) _ HN.out.1 HN.out.2).mono ?_
    rintro e w' ⟨rfl, rfl⟩
    go_wp2
    go_ret
    exact ⟨rfl, Ext.refl _⟩
theorem implRowCost_no1 (z0 z1 z2 : Int) (A : Option Addr) (n c : Nat) (p0 p1 : Nat) (y : Int) (Az : Option Addr) (nz cz : Nat) (zs : List Int) (U : World) (hnm : n ≤ maxLen) (hzm : nz ≤ maxLen) (hno : ¬ ROk z0 z1 z2 n p0 p1 y) :
    Calls Try.prog 20 #[.agg #[.int .i64 z0, .int .i64 z1, .int .i64 z2, .slice A n c], .agg #[.float .f32 p0, .float .f32 p1], .int .i64 y, .slice Az nz cz] U fun e U' => ∃ r, e = .returned (.tuple #[.float .f32 r, .bool false]) ∧ Is r 0 ∧ Ext U U' := by
  have HN := Lib.hid hno
  clear hno
  go_enter Try.func20, Try.ntmps20
  go_wp2_with fail
  refine calls_at (X := fun w' => Ext U w' ∧ Box4 w' U.heap.size (.int .i64 z0) (.int .i64 z1) (.int .i64 z2) (.slice A n c) ∧ Box2 w' (U.heap.size + 1) (fl p0) (fl p1)) ⟨((Ext.refl _).alloc _).alloc _, ⟨by simp [go_sem], by simp [go_sem], by simp [go_sem], by simp [go_sem]⟩, ⟨by simp [go_sem], by simp [go_sem]⟩⟩ ?_
  rintro w0 ⟨hE, hb, hq⟩
  refine (rowOk_no z0 z1 z2 A n c p0 p1 y hnm HN.out _).mono ?_
  rintro e w1 ⟨rfl, hx⟩
  replace hE := hE.trans hx
  replace hb := hb.ext hx
  replace hq := hq.ext hx
  clear hx
  have ⟨p0', p1', p2', p3'⟩ := hb
  have ⟨q0', q1'⟩ := hq
  go_wp2
  go_ret2
  exact ⟨_, rfl, Is.zero, hE⟩
theorem implRowCost_no2 (z0 z1 z2 : Int) (A : Option Addr) (n c : Nat) (p0 p1 : Nat) (y : Int) (Az : Option Addr) (nz cz : Nat) (zs : List Int) (U : World) (hnm : n ≤ maxLen) (hzm : nz ≤ maxLen) (hok : ROk z0 z1 z2 n p0 p1 y) (hno : (nz : Int) ≠ z0) :
    Calls Try.prog 20 #[.agg #[.int .i64 z0, .int .i64 z1, .int .i64 z2, .slice A n c], .agg #[.float .f32 p0, .float .f32 p1], .int .i64 y, .slice Az nz cz] U fun e U' => ∃ r, e = .returned (.tuple #[.float .f32 r, .bool false]) ∧ Is r 0 ∧ Ext U U' := by
  have HN := Lib.hid hok
  have hne : ((nz : Int) != z0) = true := by simpa using hno
  clear hok hno
  go_enter Try.func20, Try.ntmps20
  go_wp2_with fail
  refine calls_at (X := fun w' => Ext U w' ∧ Box4 w' U.heap.size (.int .i64 z0) (.int .i64 z1) (.int .i64 z2) (.slice A n c) ∧ Box2 w' (U.heap.size + 1) (fl p0) (fl p1)) ⟨((Ext.refl _).alloc _).alloc _, ⟨by simp [go_sem], by simp [go_sem], by simp [go_sem], by simp [go_sem]⟩, ⟨by simp [go_sem], by simp [go_sem]⟩⟩ ?_
  rintro w0 ⟨hE, hb, hq⟩
  refine (rowOk_yes z0 z1 z2 A n c p0 p1 y hnm HN.out _).mono ?_
  rintro e w1 ⟨rfl, hx⟩
  replace hE := hE.trans hx
  replace hb := hb.ext hx
  replace hq := hq.ext hx
  clear hx
  have ⟨p0', p1', p2', p3'⟩ := hb
  have ⟨q0', q1'⟩ := hq
  go_wp2
  go_ret2
  exact ⟨_, rfl, Is.zero, hE⟩
theorem implRowCost_no3 (z0 z1 z2 : Int) (A : Option Addr) (n c : Nat) (p0 p1 : Nat) (y : Int) (Az : Option Addr) (nz cz : Nat) (zs : List Int) (U : World) (hnm : n ≤ maxLen) (hzm : nz ≤ maxLen) (hr : ReadsI U Az nz zs) (hok : ROk z0 z1 z2 n p0 p1 y) (hw : (nz : Int) = z0) (hno : zs.any (badZ z2) = true) :
    Calls Try.prog 20 #[.agg #[.int .i64 z0, .int .i64 z1, .int .i64 z2, .slice A n c], .agg #[.float .f32 p0, .float .f32 p1], .int .i64 y, .slice Az nz cz] U fun e U' => ∃ r, e = .returned (.tuple #[.float .f32 r, .bool false]) ∧ Is r 0 ∧ Ext U U' := by
  have HN := Lib.hid hok
  have hne : ((nz : Int) != z0) = false := by simpa using hw
  have HC := Lib.hid (fun (W : World) (hE : Ext U W) (hB : Box4 W U.heap.size (.int .i64 z0) (.int .i64 z1) (.int .i64 z2) (.slice A n c)) => (by have t := ContainsFuncI_any Az nz cz zs (badZ z2) 51 #[.pointer (some ⟨U.heap.size, 0, none⟩)] W hzm (hr.ext hE) (by kernel_rfl) (fun b W' hx => rc1_any U.heap.size z0 z1 z2 b _ W' hok.1.2.1 hok.1.2.2.1 (hB.ext hx)); rw [hno] at t; exact t : Calls Try.prog 50 #[.slice Az nz cz, .func (.func 51) #[] #[.pointer (some ⟨U.heap.size, 0, none⟩)]] W fun e W' => e = .returned (.bool true) ∧ Ext W W'))
  clear hok hw hno hr
  go_enter Try.func20, Try.ntmps20
  go_wp2_with fail
  refine calls_at (X := fun w' => Ext U w' ∧ Box4 w' U.heap.size (.int .i64 z0) (.int .i64 z1) (.int .i64 z2) (.slice A n c) ∧ Box2 w' (U.heap.size + 1) (fl p0) (fl p1)) ⟨((Ext.refl _).alloc _).alloc _, ⟨by simp [go_sem], by simp [go_sem], by simp [go_sem], by simp [go_sem]⟩, ⟨by simp [go_sem], by simp [go_sem]⟩⟩ ?_
  rintro w0 ⟨hE, hb, hq⟩
  refine (rowOk_yes z0 z1 z2 A n c p0 p1 y hnm HN.out _).mono ?_
  rintro e w1 ⟨rfl, hx⟩
  replace hE := hE.trans hx
  replace hb := hb.ext hx
  replace hq := hq.ext hx
  clear hx
  have ⟨p0', p1', p2', p3'⟩ := hb
  have ⟨q0', q1'⟩ := hq
  go_wp2_with fail
  clear p0' p1' p2' p3' q0' q1'
  refine (HC.out _ hE hb).mono ?_
  rintro e w2 ⟨rfl, hx⟩
  replace hE := hE.trans hx
  replace hb := hb.ext hx
  replace hq := hq.ext hx
  clear hx
  have ⟨p0', p1', p2', p3'⟩ := hb
  have ⟨q0', q1'⟩ := hq
  go_wp2
  go_ret2
  exact ⟨_, rfl, Is.zero, hE⟩
set_option maxHeartbeats 8000000 in
set_option maxRecDepth 8000 in
theorem implRowCost_yes (wn hn dn gb off n c : Nat) (bs : List Nat) (p0 p1 : Nat) (yn : Nat) (gz oz cz : Nat) (zs : List Int) (h0 : p0 < 4294967296) (h1 : p1 < 4294967296) (U : World) (hl : Lies U gb off bs) (hlen : bs.length = n) (hw : Words bs) (hnc : n ≤ c) (hcm : c ≤ maxLen) (hlz : LiesI U gz oz zs) (hlenz : zs.length = wn) (hzm : wn ≤ maxLen) (hok : ROk wn hn dn n p0 p1 yn) (hall : zs.any (badZ dn) = false) :
    Calls Try.prog 20 #[.agg #[.int .i64 wn, .int .i64 hn, .int .i64 dn, .slice (some ⟨gb, off, none⟩) n c], .agg #[.float .f32 p0, .float .f32 p1], .int .i64 yn, .slice (some ⟨gz, oz, none⟩) wn cz] U fun e U' => ∃ r, e = .returned (.tuple #[.float .f32 r, .bool true]) ∧ Is r (rcTo wn dn p0 p1 bs yn zs (wn - 1)) ∧ Ext U U' := by
  have hv := hok.1
  have hd8 : dn ≤ 8 := by have := hv.2.2.1; omega
  have hd0 : 0 < dn := by have := hv.2.1; omega
  have hw24 : wn ≤ 24 := by have := hv.1.2.1; omega
  have hw1 : 1 ≤ wn := by have := hv.1.1; omega
  have hh24 : hn ≤ 24 := by have := hv.1.2.2.2.1; omega
  have hyn : (yn : Int) ≤ (hn : Int) - 1 := hok.2.2.2
  have hnm : n ≤ maxLen := Nat.le_trans hnc hcm
  have hne : ((wn : Int) != (wn : Int)) = false := by simp
  have HOK := Lib.hid hok
  have HZ := Lib.hid (fun (i : Nat) (hi : i < wn) => (by
    have h3 := badZ_f (any_getD hall (i := i) (by omega))
    exact ⟨by have := Int.toNat_of_nonneg h3.1; omega, by omega⟩ : zs.getD i 0 = ((zs.getD i 0).toNat : Int) ∧ (zs.getD i 0).toNat < dn))
  have HZC := Lib.hid (fun (W : World) (hE : Ext U W) (i : Nat) (hi : i < wn) => (hlz.ext hE) i (by omega))
  have HCV := Lib.hid (fun (W : World) (hE : Ext U W) (x e : Nat) (hx : x < wn) (he : e < dn) => (by
    have hck := cell_k hv (x := (x : Int)) (y := (yn : Int)) ⟨by omega, by omega⟩ ⟨by omega, by omega⟩
    have t := (hl.ext hE) (cellN wn (x : Int) (yn : Int) * dn + e) (by omega)
    rw [← Nat.add_assoc] at t
    exact t : W.cell? ⟨gb, off + cellN wn (x : Int) (yn : Int) * dn + e, none⟩ = some (fl (bs.getD (cellN wn (x : Int) (yn : Int) * dn + e) 0))))
  have HWD := Lib.hid hw
  have HC := Lib.hid (fun (W : World) (hE : Ext U W) (hB : Box4 W U.heap.size (.int .i64 wn) (.int .i64 hn) (.int .i64 dn) (.slice (some ⟨gb, off, none⟩) n c)) => (by have t := ContainsFuncI_any (some ⟨gz, oz, none⟩) wn cz zs (badZ dn) 51 #[.pointer (some ⟨U.heap.size, 0, none⟩)] W hzm ⟨hlenz, fun _ => ⟨gz, oz, rfl, hlz.ext hE⟩⟩ (by kernel_rfl) (fun b W' hx => rc1_any U.heap.size wn hn dn b _ W' hv.2.1 hv.2.2.1 (hB.ext hx)); rw [hall] at t; exact t : Calls Try.prog 50 #[.slice (some ⟨gz, oz, none⟩) wn cz, .func (.func 51) #[] #[.pointer (some ⟨U.heap.size, 0, none⟩)]] W fun e W' => e = .returned (.bool false) ∧ Ext W W'))
  have HCC := Lib.hid (fun (W : World) (hB : Box4 W U.heap.size (.int .i64 wn) (.int .i64 hn) (.int .i64 dn) (.slice (some ⟨gb, off, none⟩) n c)) (x : Nat) (hx : x < wn) => cellC_any U.heap.size wn hn dn gb off n c (x : Int) (yn : Int) W hB hnc hcm hv ⟨by omega, by omega⟩ ⟨by omega, by omega⟩)
  unfold maxLen at hzm
  clear hl hlen hw hnc hcm hlz hlenz hok hall hv hd0 hh24 hyn
  go_enter Try.func20, Try.ntmps20
  go_wp2_with fail
  refine calls_at (X := fun w' => Ext U w' ∧ Box4 w' U.heap.size (.int .i64 wn) (.int .i64 hn) (.int .i64 dn) (.slice (some ⟨gb, off, none⟩) n c) ∧ Box2 w' (U.heap.size + 1) (fl p0) (fl p1)) ⟨((Ext.refl _).alloc _).alloc _, ⟨by simp [go_sem], by simp [go_sem], by simp [go_sem], by simp [go_sem]⟩, ⟨by simp [go_sem], by simp [go_sem]⟩⟩ ?_
  rintro w0 ⟨hE, hb, hq⟩
  refine (rowOk_yes wn hn dn (some ⟨gb, off, none⟩) n c p0 p1 yn hnm HOK.out _).mono ?_
  rintro e w1 ⟨rfl, hx⟩
  replace hE := hE.trans hx
  replace hb := hb.ext hx
  replace hq := hq.ext hx
  clear hx
  have ⟨p0', p1', p2', p3'⟩ := hb
  have ⟨q0', q1'⟩ := hq
  go_wp2_with fail
  clear p0' p1' p2' p3' q0' q1'
  refine (HC.out _ hE hb).mono ?_
  rintro e w2 ⟨rfl, hx⟩
  replace hE := hE.trans hx
  replace hb := hb.ext hx
  replace hq := hq.ext hx
  clear hx
  have ⟨p0', p1', p2', p3'⟩ := hb
  have ⟨q0', q1'⟩ := hq
  have zA := HZ.out 0 (by omega)
  have zcA := HZC.out _ hE 0 (by omega)
  obtain ⟨VA, hVA⟩ : ∃ V, (zs.getD 0 0).toNat = V := ⟨_, rfl⟩
  rw [hVA] at zA
  rw [zA.1] at zcA
  have QVA := Lib.hid hVA
  have ZVA := Lib.hid zA.1
  have gzA := zA.2
  clear hVA zA
  rw [Nat.add_zero] at zcA
  have cvA := HCV.out _ hE 0 VA (by omega) gzA
  have wvA := wd_at HWD.out (cellN wn ((0 : Nat) : Int) (yn : Int) * dn + VA)
  have dk0 : (0 : Int) ≤ (VA : Int) := by omega
  have dk1 : (VA : Int) < (dn : Int) := by omega
  obtain ⟨BA, hBA⟩ : ∃ B, bs.getD (cellN wn ((0 : Nat) : Int) (yn : Int) * dn + VA) 0 = B := ⟨_, rfl⟩
  rw [hBA] at cvA wvA
  have QBA := Lib.hid hBA
  clear hBA
  obtain ⟨kA, hkA⟩ : ∃ k, cellN wn ((0 : Nat) : Int) (yn : Int) * dn = k := ⟨_, rfl⟩
  have KC := Lib.hid (fun (W : World) (hx : Ext w2 W) => (by have t := HCC.out W (hb.ext hx) 0 (by omega); rw [hkA] at t; exact t : Calls Try.prog 52 #[.pointer (some ⟨U.heap.size, 0, none⟩), .int .i64 0, .int .i64 (yn : Int)] W fun e W' => e = .returned (.slice (some ⟨gb, off + kA, none⟩) dn dn) ∧ Ext W W'))
  rw [hkA] at cvA
  clear hkA
  have n0 : (0 : Int) < (wn : Int) := by omega
  go_wp2_with fail
  refine region_wx 7 [] (by kernel_rfl) (by kernel_rfl) ?_
  simp only [List.take_succ_cons, List.take_zero, List.drop_succ_cons, List.drop_zero]
  repeat ((first | refine wx_skip rfl ?_ | refine wx_nilCheck rfl rfl _ rfl _ rfl ?_ | (refine wx_float rfl rfl _ _ _ _ _ _ _ rfl rfl rfl rfl ?_; intro r hr) | (refine wx_k rfl rfl rfl (fun K hK => ?_); go_big_quiet_op; refine hK _ ?_; clear hK K) | (refine wx_call rfl rfl 52 _ _ rfl (by kernel_rfl) (by kernel_rfl) (.slice (some ⟨gb, off + kA, none⟩) dn dn) (fun W hW hF => ?_) ?_; go_simp; (with_reducible refine (KC.out W hW).mono ?_); rintro e w' h; exact h)); (try simp only [Act.put, List.setIfInBounds_toArray, List.set_cons_zero, List.set_cons_succ]); (try simp only [List.tail_nil]))
  refine wx_nil (fun W hW hF => ?_)
  replace hE := hE.trans hW
  replace hb := hb.ext hW
  replace hq := hq.ext hW
  clear hF hW cvA zcA p0' p1' p2' p3' q0' q1' KC
  go_wp2_with fail
  go_loopw [10, 11] (fun s xv wr => ∃ (x m r : Nat), x = m + 1 ∧ x ≤ wn ∧ xv = .int .i64 x ∧ s = .float .f32 r ∧ Is r (rcTo wn dn p0 p1 bs yn zs m) ∧ Ext W wr) (fun _ xv _ => wn - (intOf xv).toNat)
  case atStart => exact ⟨1, 0, BA, rfl, hw1, rfl, rfl, by rw [rcTo, QVA.out, QBA.out]; exact ⟨wvA, rfl⟩, Ext.refl _⟩
  case round =>
    obtain ⟨x, m, s, hxm, hx, rfl, rfl, hs, hX⟩ := hrel
    by_cases hlt : x < wn
    · have hlt' : (x : Int) < (wn : Int) := by omega
      have a0 : IntKind.i64.wrap ((x : Int) - 1) = (m : Int) := by rw [show (x : Int) - 1 = (m : Int) by omega]; exact wrap_small _ (by omega) (by omega)
      have a1 : IntKind.i64.wrap ((x : Int) + 1) = (x : Int) + 1 := wrap_small _ (by omega) (by omega)
      have x0 : (0 : Int) ≤ (x : Int) := by omega
      have m0 : (0 : Int) ≤ (m : Int) := by omega
      have m1 : (m : Int) < (wn : Int) := by omega
      have hmw : m < wn := by omega
      have HXM := Lib.hid hxm
      clear hxm
      replace hE := hE.trans hX
      replace hb := hb.ext hX
      replace hq := hq.ext hX
      have zP := HZ.out m (by omega)
      have zcP := HZC.out _ hE m (by omega)
      obtain ⟨VP, hVP⟩ : ∃ V, (zs.getD m 0).toNat = V := ⟨_, rfl⟩
      rw [hVP] at zP
      rw [zP.1] at zcP
      have QVP := Lib.hid hVP
      have ZVP := Lib.hid zP.1
      have gzP := zP.2
      clear hVP zP
      have zQ := HZ.out x (by omega)
      have zcQ := HZC.out _ hE x (by omega)
      obtain ⟨VQ, hVQ⟩ : ∃ V, (zs.getD x 0).toNat = V := ⟨_, rfl⟩
      rw [hVQ] at zQ
      rw [zQ.1] at zcQ
      have QVQ := Lib.hid hVQ
      have ZVQ := Lib.hid zQ.1
      have gzQ := zQ.2
      clear hVQ zQ
      have ⟨q0', q1'⟩ := hq
      go_wp2_with fail
      refine region_wx 13 [] (by kernel_rfl) (by kernel_rfl) ?_
      simp only [List.take_succ_cons, List.take_zero, List.drop_succ_cons, List.drop_zero]
      repeat ((first | refine wx_skip rfl ?_ | refine wx_nilCheck rfl rfl _ rfl _ rfl ?_ | (refine wx_float rfl rfl _ _ _ _ _ _ _ rfl rfl rfl rfl ?_; intro r hr) | (refine wx_k rfl rfl rfl (fun K hK => ?_); go_big_quiet_op; refine hK _ ?_; clear hK K) | (refine wx_call rfl rfl 53 _ _ rfl (by kernel_rfl) (by kernel_rfl) (.float .f32 (priceX p0 p1 (VP : Int) (VQ : Int))) (fun W hW hF => ?_) ?_; go_simp; (with_reducible refine (price_any p0 p1 (VP : Int) (VQ : Int) W (by omega) (by omega) (by omega) (by omega)).mono ?_); rintro e w' h; exact h)); (try simp only [Act.put, List.setIfInBounds_toArray, List.set_cons_zero, List.set_cons_succ]); (try simp only [List.tail_nil]))
      refine wx_nil (fun W hW hF => ?_)
      have T1 := Is.op hs ⟨priceX_lt h0 h1 (VP : Int) (VQ : Int), rfl⟩ hr
      replace hE := hE.trans hW
      replace hb := hb.ext hW
      replace zcQ := cell_ext zcQ hW
      replace hX := hX.trans hW
      clear hF hW q0' q1' hr zcP hq
      have cvQ := HCV.out _ hE x VQ (by omega) gzQ
      have wvQ := wd_at HWD.out (cellN wn ((x : Nat) : Int) (yn : Int) * dn + VQ)
      have dk0 : (0 : Int) ≤ (VQ : Int) := by omega
      have dk1 : (VQ : Int) < (dn : Int) := by omega
      obtain ⟨BQ, hBQ⟩ : ∃ B, bs.getD (cellN wn ((x : Nat) : Int) (yn : Int) * dn + VQ) 0 = B := ⟨_, rfl⟩
      rw [hBQ] at cvQ wvQ
      have QBQ := Lib.hid hBQ
      clear hBQ
      obtain ⟨kQ, hkQ⟩ : ∃ k, cellN wn ((x : Nat) : Int) (yn : Int) * dn = k := ⟨_, rfl⟩
      have KC := Lib.hid (fun (W2 : World) (hx : Ext W W2) => (by have t := HCC.out W2 (hb.ext hx) x hlt; rw [hkQ] at t; exact t : Calls Try.prog 52 #[.pointer (some ⟨U.heap.size, 0, none⟩), .int .i64 (x : Int), .int .i64 (yn : Int)] W2 fun e W' => e = .returned (.slice (some ⟨gb, off + kQ, none⟩) dn dn) ∧ Ext W2 W'))
      rw [hkQ] at cvQ
      clear hkQ
      go_wp2_with fail
      refine region_wx 11 [] (by kernel_rfl) (by kernel_rfl) ?_
      simp only [List.take_succ_cons, List.take_zero, List.drop_succ_cons, List.drop_zero]
      repeat ((first | refine wx_skip rfl ?_ | refine wx_nilCheck rfl rfl _ rfl _ rfl ?_ | (refine wx_float rfl rfl _ _ _ _ _ _ _ rfl rfl rfl rfl ?_; intro r hr) | (refine wx_k rfl rfl rfl (fun K hK => ?_); go_big_quiet_op; refine hK _ ?_; clear hK K) | (refine wx_call rfl rfl 52 _ _ rfl (by kernel_rfl) (by kernel_rfl) (.slice (some ⟨gb, off + kQ, none⟩) dn dn) (fun W hW hF => ?_) ?_; go_simp; (with_reducible refine (KC.out W hW).mono ?_); rintro e w' h; exact h)); (try simp only [Act.put, List.setIfInBounds_toArray, List.set_cons_zero, List.set_cons_succ]); (try simp only [List.tail_nil]))
      refine wx_nil (fun W hW hF => ?_)
      have T2 := Is.op T1 (nrm_word wvQ) hr
      go_wp2
      go_roundw
      case rel =>
        refine ⟨x + 1, m + 1, _, by have := HXM.out; omega, by omega, by go_num, rfl, ?_, hX.trans hW⟩
        rw [rcTo, ← HXM.out, ZVP.out, ZVQ.out, Int.toNat_natCast, QBQ.out]
        exact T2
      case measure => simp [intOf]; omega
    · have e1 : m = wn - 1 := by omega
      rw [e1] at hs
      go_wp2
      go_ret2
      exact ⟨s, rfl, hs, hE.trans hX⟩
theorem specRowCost_no1 (z0 z1 z2 : Int) (A : Option Addr) (n c : Nat) (p0 p1 : Nat) (y : Int) (Az : Option Addr) (nz cz : Nat) (zs : List Int) (U : World) (hnm : n ≤ maxLen) (hzm : nz ≤ maxLen) (hv : ¬ VVol z0 z1 z2 n) :
    Calls Try.prog 17 #[.agg #[.int .i64 z0, .int .i64 z1, .int .i64 z2, .slice A n c], .agg #[.float .f32 p0, .float .f32 p1], .int .i64 y, .slice Az nz cz] U fun e U' => ∃ r, e = .returned (.tuple #[.float .f32 r, .bool false]) ∧ Is r 0 ∧ Ext U U' := by
  have HV := Lib.hid hv
  clear hv
  go_enter Try.func17, Try.ntmps17
  go_wp2_with fail
  refine calls_at (X := fun w' => Ext U w' ∧ Box4 w' U.heap.size (.int .i64 z0) (.int .i64 z1) (.int .i64 z2) (.slice A n c) ∧ Box2 w' (U.heap.size + 1) (fl p0) (fl p1)) ⟨((Ext.refl _).alloc _).alloc _, ⟨by simp [go_sem], by simp [go_sem], by simp [go_sem], by simp [go_sem]⟩, ⟨by simp [go_sem], by simp [go_sem]⟩⟩ ?_
  rintro w0 ⟨hE, hb, hq⟩
  refine (l03Is_not _ _ _ _ _ _ _ _ hnm hb.1 hb.2.1 hb.2.2.1 hb.2.2.2 HV.out).mono ?_
  rintro e w1 ⟨rfl, hx⟩
  replace hE := hE.trans hx
  replace hb := hb.ext hx
  replace hq := hq.ext hx
  clear hx
  have ⟨p0', p1', p2', p3'⟩ := hb
  have ⟨q0', q1'⟩ := hq
  go_wp2
  go_ret2
  exact ⟨_, rfl, Is.zero, hE⟩
theorem specRowCost_no2 (z0 z1 z2 : Int) (A : Option Addr) (n c : Nat) (p0 p1 : Nat) (y : Int) (Az : Option Addr) (nz cz : Nat) (zs : List Int) (U : World) (hnm : n ≤ maxLen) (hzm : nz ≤ maxLen) (hv : VVol z0 z1 z2 n) (hp : ¬ PV p0 p1) :
    Calls Try.prog 17 #[.agg #[.int .i64 z0, .int .i64 z1, .int .i64 z2, .slice A n c], .agg #[.float .f32 p0, .float .f32 p1], .int .i64 y, .slice Az nz cz] U fun e U' => ∃ r, e = .returned (.tuple #[.float .f32 r, .bool false]) ∧ Is r 0 ∧ Ext U U' := by
  have HV := Lib.hid hv
  have a1 : IntKind.i64.wrap (z1 - 1) = z1 - 1 := wrap_small _ (by have := hv.1.2.2.1; omega) (by have := hv.1.2.2.2.1; omega)
  have HP := Lib.hid hp
  clear hv hp
  go_enter Try.func17, Try.ntmps17
  go_wp2_with fail
  refine calls_at (X := fun w' => Ext U w' ∧ Box4 w' U.heap.size (.int .i64 z0) (.int .i64 z1) (.int .i64 z2) (.slice A n c) ∧ Box2 w' (U.heap.size + 1) (fl p0) (fl p1)) ⟨((Ext.refl _).alloc _).alloc _, ⟨by simp [go_sem], by simp [go_sem], by simp [go_sem], by simp [go_sem]⟩, ⟨by simp [go_sem], by simp [go_sem]⟩⟩ ?_
  rintro w0 ⟨hE, hb, hq⟩
  refine (l03Is_yes _ _ _ _ _ _ _ _ hnm hb.1 hb.2.1 hb.2.2.1 hb.2.2.2 HV.out).mono ?_
  rintro e w1 ⟨rfl, hx⟩
  replace hE := hE.trans hx
  replace hb := hb.ext hx
  replace hq := hq.ext hx
  clear hx
  have ⟨p0', p1', p2', p3'⟩ := hb
  have ⟨q0', q1'⟩ := hq
  go_wp2_with fail
  clear p0' p1' p2' p3' q0' q1'
  refine (l04Is_no _ p0 p1 _ hq.1 hq.2 HP.out).mono ?_
  rintro e w2 ⟨rfl, hx⟩
  replace hE := hE.trans hx
  replace hb := hb.ext hx
  replace hq := hq.ext hx
  clear hx
  have ⟨p0', p1', p2', p3'⟩ := hb
  have ⟨q0', q1'⟩ := hq
  go_wp2
  go_ret2
  exact ⟨_, rfl, Is.zero, hE⟩
theorem specRowCost_no3 (z0 z1 z2 : Int) (A : Option Addr) (n c : Nat) (p0 p1 : Nat) (y : Int) (Az : Option Addr) (nz cz : Nat) (zs : List Int) (U : World) (hnm : n ≤ maxLen) (hzm : nz ≤ maxLen) (hv : VVol z0 z1 z2 n) (hp : PV p0 p1) (hy : y < 0 ∨ z1 - 1 < y) :
    Calls Try.prog 17 #[.agg #[.int .i64 z0, .int .i64 z1, .int .i64 z2, .slice A n c], .agg #[.float .f32 p0, .float .f32 p1], .int .i64 y, .slice Az nz cz] U fun e U' => ∃ r, e = .returned (.tuple #[.float .f32 r, .bool false]) ∧ Is r 0 ∧ Ext U U' := by
  have HV := Lib.hid hv
  have a1 : IntKind.i64.wrap (z1 - 1) = z1 - 1 := wrap_small _ (by have := hv.1.2.2.1; omega) (by have := hv.1.2.2.2.1; omega)
  have HP := Lib.hid hp
  have HY := Lib.hid hy
  clear hv hp hy
  go_enter Try.func17, Try.ntmps17
  go_wp2_with fail
  refine calls_at (X := fun w' => Ext U w' ∧ Box4 w' U.heap.size (.int .i64 z0) (.int .i64 z1) (.int .i64 z2) (.slice A n c) ∧ Box2 w' (U.heap.size + 1) (fl p0) (fl p1)) ⟨((Ext.refl _).alloc _).alloc _, ⟨by simp [go_sem], by simp [go_sem], by simp [go_sem], by simp [go_sem]⟩, ⟨by simp [go_sem], by simp [go_sem]⟩⟩ ?_
  rintro w0 ⟨hE, hb, hq⟩
  refine (l03Is_yes _ _ _ _ _ _ _ _ hnm hb.1 hb.2.1 hb.2.2.1 hb.2.2.2 HV.out).mono ?_
  rintro e w1 ⟨rfl, hx⟩
  replace hE := hE.trans hx
  replace hb := hb.ext hx
  replace hq := hq.ext hx
  clear hx
  have ⟨p0', p1', p2', p3'⟩ := hb
  have ⟨q0', q1'⟩ := hq
  go_wp2_with fail
  clear p0' p1' p2' p3' q0' q1'
  refine (l04Is_yes _ p0 p1 _ hq.1 hq.2 HP.out).mono ?_
  rintro e w2 ⟨rfl, hx⟩
  replace hE := hE.trans hx
  replace hb := hb.ext hx
  replace hq := hq.ext hx
  clear hx
  have ⟨p0', p1', p2', p3'⟩ := hb
  have ⟨q0', q1'⟩ := hq
  go_wp2_with fail
  refine (l00In_no y 0 (z1 - 1) _ HY.out).mono ?_
  rintro e w3 ⟨rfl, rfl⟩
  go_wp2
  go_ret2
  exact ⟨_, rfl, Is.zero, hE⟩
theorem specRowCost_no4 (z0 z1 z2 : Int) (A : Option Addr) (n c : Nat) (p0 p1 : Nat) (y : Int) (Az : Option Addr) (nz cz : Nat) (zs : List Int) (U : World) (hnm : n ≤ maxLen) (hzm : nz ≤ maxLen) (hv : VVol z0 z1 z2 n) (hp : PV p0 p1) (hy : 0 ≤ y ∧ y ≤ z1 - 1) (hne : (nz : Int) ≠ z0) :
    Calls Try.prog 17 #[.agg #[.int .i64 z0, .int .i64 z1, .int .i64 z2, .slice A n c], .agg #[.float .f32 p0, .float .f32 p1], .int .i64 y, .slice Az nz cz] U fun e U' => ∃ r, e = .returned (.tuple #[.float .f32 r, .bool false]) ∧ Is r 0 ∧ Ext U U' := by
  have HV := Lib.hid hv
  have a1 : IntKind.i64.wrap (z1 - 1) = z1 - 1 := wrap_small _ (by have := hv.1.2.2.1; omega) (by have := hv.1.2.2.2.1; omega)
  have HP := Lib.hid hp
  have HY := Lib.hid hy
  have hnb : ((nz : Int) != z0) = true := by simpa using hne
  clear hv hp hy hne
  go_enter Try.func17, Try.ntmps17
  go_wp2_with fail
  refine calls_at (X := fun w' => Ext U w' ∧ Box4 w' U.heap.size (.int .i64 z0) (.int .i64 z1) (.int .i64 z2) (.slice A n c) ∧ Box2 w' (U.heap.size + 1) (fl p0) (fl p1)) ⟨((Ext.refl _).alloc _).alloc _, ⟨by simp [go_sem], by simp [go_sem], by simp [go_sem], by simp [go_sem]⟩, ⟨by simp [go_sem], by simp [go_sem]⟩⟩ ?_
  rintro w0 ⟨hE, hb, hq⟩
  refine (l03Is_yes _ _ _ _ _ _ _ _ hnm hb.1 hb.2.1 hb.2.2.1 hb.2.2.2 HV.out).mono ?_
  rintro e w1 ⟨rfl, hx⟩
  replace hE := hE.trans hx
  replace hb := hb.ext hx
  replace hq := hq.ext hx
  clear hx
  have ⟨p0', p1', p2', p3'⟩ := hb
  have ⟨q0', q1'⟩ := hq
  go_wp2_with fail
  clear p0' p1' p2' p3' q0' q1'
  refine (l04Is_yes _ p0 p1 _ hq.1 hq.2 HP.out).mono ?_
  rintro e w2 ⟨rfl, hx⟩
  replace hE := hE.trans hx
  replace hb := hb.ext hx
  replace hq := hq.ext hx
  clear hx
  have ⟨p0', p1', p2', p3'⟩ := hb
  have ⟨q0', q1'⟩ := hq
  go_wp2_with fail
  refine (l00In_yes y 0 (z1 - 1) _ HY.out.1 HY.out.2).mono ?_
  rintro e w3 ⟨rfl, rfl⟩
  go_wp2
  go_ret2
  exact ⟨_, rfl, Is.zero, hE⟩
set_option maxHeartbeats 8000000 in
theorem specRowCost_no5 (z0 z1 z2 : Int) (A : Option Addr) (n c : Nat) (p0 p1 : Nat) (y : Int) (gz oz : Nat) (nz cz : Nat) (zs : List Int) (U : World) (hnm : n ≤ maxLen) (hzm : nz ≤ maxLen) (hlz : LiesI U gz oz zs) (hlenz : zs.length = nz) (hv : VVol z0 z1 z2 n) (hp : PV p0 p1) (hy : 0 ≤ y ∧ y ≤ z1 - 1) (hz0 : (nz : Int) = z0) (hno : zs.any (badZ z2) = true) :
    Calls Try.prog 17 #[.agg #[.int .i64 z0, .int .i64 z1, .int .i64 z2, .slice A n c], .agg #[.float .f32 p0, .float .f32 p1], .int .i64 y, .slice (some ⟨gz, oz, none⟩) nz cz] U fun e U' => ∃ r, e = .returned (.tuple #[.float .f32 r, .bool false]) ∧ Is r 0 ∧ Ext U U' := by
  have HV := Lib.hid hv
  have a1 : IntKind.i64.wrap (z1 - 1) = z1 - 1 := wrap_small _ (by have := hv.1.2.2.1; omega) (by have := hv.1.2.2.2.1; omega)
  have HP := Lib.hid hp
  have HY := Lib.hid hy
  have hd0 : 1 ≤ z2 := hv.2.1
  have hd8 : z2 ≤ 8 := hv.2.2.1
  have hn24 : nz ≤ 24 := by have := hv.1.2.1; omega
  have a2 : IntKind.i64.wrap (z2 - 1) = z2 - 1 := wrap_small _ (by omega) (by omega)
  have hnb : ((nz : Int) != z0) = false := by simpa using hz0
  have HZC := Lib.hid (fun (W : World) (hE : Ext U W) (i : Nat) (hi : i < nz) => (hlz.ext hE) i (by omega))
  have HNO := Lib.hid hno
  have HLZ := Lib.hid hlenz
  clear hv hp hy hz0 hno hlz hlenz
  go_enter Try.func17, Try.ntmps17
  go_wp2_with fail
  refine calls_at (X := fun w' => Ext U w' ∧ Box4 w' U.heap.size (.int .i64 z0) (.int .i64 z1) (.int .i64 z2) (.slice A n c) ∧ Box2 w' (U.heap.size + 1) (fl p0) (fl p1)) ⟨((Ext.refl _).alloc _).alloc _, ⟨by simp [go_sem], by simp [go_sem], by simp [go_sem], by simp [go_sem]⟩, ⟨by simp [go_sem], by simp [go_sem]⟩⟩ ?_
  rintro w0 ⟨hE, hb, hq⟩
  refine (l03Is_yes _ _ _ _ _ _ _ _ hnm hb.1 hb.2.1 hb.2.2.1 hb.2.2.2 HV.out).mono ?_
  rintro e w1 ⟨rfl, hx⟩
  replace hE := hE.trans hx
  replace hb := hb.ext hx
  replace hq := hq.ext hx
  clear hx
  have ⟨p0', p1', p2', p3'⟩ := hb
  have ⟨q0', q1'⟩ := hq
  go_wp2_with fail
  clear p0' p1' p2' p3' q0' q1'
  refine (l04Is_yes _ p0 p1 _ hq.1 hq.2 HP.out).mono ?_
  rintro e w2 ⟨rfl, hx⟩
  replace hE := hE.trans hx
  replace hb := hb.ext hx
  replace hq := hq.ext hx
  clear hx
  have ⟨p0', p1', p2', p3'⟩ := hb
  have ⟨q0', q1'⟩ := hq
  go_wp2_with fail
  refine (l00In_yes y 0 (z1 - 1) _ HY.out.1 HY.out.2).mono ?_
  rintro e w3 ⟨rfl, rfl⟩
  go_wp2_with fail
  go_loopw [10] (fun iv wr => ∃ i : Nat, i ≤ nz ∧ iv = .int .i64 i ∧ (∀ j, j < i → badZ z2 (zs.getD j 0) = false) ∧ Ext U wr ∧ Box4 wr U.heap.size (.int .i64 z0) (.int .i64 z1) (.int .i64 z2) (.slice A n c) ∧ Box2 wr (U.heap.size + 1) (fl p0) (fl p1)) (fun iv _ => nz - (intOf iv).toNat)
  case atStart => exact ⟨0, Nat.zero_le _, rfl, fun j hj => by omega, hE, hb, hq⟩
  case round =>
    clear hE hb hq p0' p1' p2' p3' q0' q1'
    obtain ⟨i, hi, rfl, hgood, hE, hb, hq⟩ := hrel
    have HGD := Lib.hid hgood
    clear hgood
    have ⟨p0', p1', p2', p3'⟩ := hb
    have ⟨q0', q1'⟩ := hq
    by_cases hlt : i < nz
    · have hlt' : (i : Int) < (nz : Int) := by omega
      have i0 : (0 : Int) ≤ (i : Int) := by omega
      have a4 : IntKind.i64.wrap ((i : Int) + 1) = (i : Int) + 1 := wrap_small _ (by omega) (by omega)
      have zc := HZC.out _ hE i hlt
      obtain ⟨b, hbb⟩ : ∃ b, zs.getD i 0 = b := ⟨_, rfl⟩
      rw [hbb] at zc
      cases hbz : badZ z2 b with
      | true =>
        have HBD := Lib.hid (badZ_t hbz)
        clear hbz hbb
        go_wp2_with fail
        refine region_wx0 [] (by kernel_rfl) (by kernel_rfl) ?_
        repeat ((first | refine wx_skip rfl ?_ | refine wx_nilCheck rfl rfl _ rfl _ rfl ?_ | (refine wx_float rfl rfl _ _ _ _ _ _ _ rfl rfl rfl rfl ?_; intro r hr) | (refine wx_k rfl rfl rfl (fun K hK => ?_); go_big_quiet_op; refine hK _ ?_; clear hK K) | (refine wx_call rfl rfl 39 _ _ rfl (by kernel_rfl) (by kernel_rfl) (.bool false) (fun W hW hF => ?_) ?_; go_simp; (with_reducible refine (callsExt (l00In_no b 0 ((z2 : Int) - 1) W HBD.out)).mono ?_); rintro e w' h; exact h)); (try simp only [Act.put, List.setIfInBounds_toArray, List.set_cons_zero, List.set_cons_succ]); (try simp only [List.tail_nil]))
        refine wx_nil (fun W hW hF => ?_)
        go_wp2
        go_ret2
        exact ⟨_, rfl, Is.zero, hE.trans hW⟩
      | false =>
        have HBD := Lib.hid (badZ_f hbz)
        have HBZ := Lib.hid hbz
        have HBB := Lib.hid hbb
        clear hbz hbb
        go_wp2_with fail
        refine region_wx0 [] (by kernel_rfl) (by kernel_rfl) ?_
        repeat ((first | refine wx_skip rfl ?_ | refine wx_nilCheck rfl rfl _ rfl _ rfl ?_ | (refine wx_float rfl rfl _ _ _ _ _ _ _ rfl rfl rfl rfl ?_; intro r hr) | (refine wx_k rfl rfl rfl (fun K hK => ?_); go_big_quiet_op; refine hK _ ?_; clear hK K) | (refine wx_call rfl rfl 39 _ _ rfl (by kernel_rfl) (by kernel_rfl) (.bool true) (fun W hW hF => ?_) ?_; go_simp; (with_reducible refine (callsExt (l00In_yes b 0 ((z2 : Int) - 1) W HBD.out.1 HBD.out.2)).mono ?_); rintro e w' h; exact h)); (try simp only [Act.put, List.setIfInBounds_toArray, List.set_cons_zero, List.set_cons_succ]); (try simp only [List.tail_nil]))
        refine wx_nil (fun W hW hF => ?_)
        go_wp2
        go_roundw
        case rel => exact ⟨i + 1, by omega, by go_num, fun j hj => by
          rcases Nat.lt_or_ge j i with h | h
          · exact HGD.out j h
          · have : j = i := by omega
            subst this; rw [HBB.out]; exact HBZ.out, hE.trans hW, hb.ext hW, hq.ext hW⟩
        case measure => simp [intOf]; omega
    · have e1 : nz ≤ i := by omega
      clear hi
      have h3 := HNO.out
      obtain ⟨v, hv1, hv2⟩ := List.any_eq_true.1 h3
      obtain ⟨q, hq1, rfl⟩ := List.getElem_of_mem hv1
      have h4 := HGD.out q (by have := HLZ.out; omega)
      rw [show zs.getD q 0 = zs[q] by simp [List.getD, hq1], hv2] at h4
      cases h4
set_option maxHeartbeats 8000000 in
set_option maxRecDepth 8000 in
theorem specRowCost_yes (wn hn dn gb off n c : Nat) (bs : List Nat) (p0 p1 : Nat) (yn : Nat) (gz oz cz : Nat) (zs : List Int) (h0 : p0 < 4294967296) (h1 : p1 < 4294967296) (U : World) (hl : Lies U gb off bs) (hlen : bs.length = n) (hw : Words bs) (hnc : n ≤ c) (hcm : c ≤ maxLen) (hlz : LiesI U gz oz zs) (hlenz : zs.length = wn) (hzm : wn ≤ maxLen) (hok : ROk wn hn dn n p0 p1 yn) (hall : zs.any (badZ dn) = false) :
    Calls Try.prog 17 #[.agg #[.int .i64 wn, .int .i64 hn, .int .i64 dn, .slice (some ⟨gb, off, none⟩) n c], .agg #[.float .f32 p0, .float .f32 p1], .int .i64 yn, .slice (some ⟨gz, oz, none⟩) wn cz] U fun e U' => ∃ r, e = .returned (.tuple #[.float .f32 r, .bool true]) ∧ Is r (rcTo wn dn p0 p1 bs yn zs (wn - 1)) ∧ Ext U U' := by
  have hv := hok.1
  have hd8 : dn ≤ 8 := by have := hv.2.2.1; omega
  have hd0 : 0 < dn := by have := hv.2.1; omega
  have hw24 : wn ≤ 24 := by have := hv.1.2.1; omega
  have hw1 : 1 ≤ wn := by have := hv.1.1; omega
  have hh24 : hn ≤ 24 := by have := hv.1.2.2.2.1; omega
  have hyn : (yn : Int) ≤ (hn : Int) - 1 := hok.2.2.2
  have hnm : n ≤ maxLen := Nat.le_trans hnc hcm
  have hne : ((wn : Int) != (wn : Int)) = false := by simp
  have HOK := Lib.hid hok
  have HZ := Lib.hid (fun (i : Nat) (hi : i < wn) => (by
    have h3 := badZ_f (any_getD hall (i := i) (by omega))
    exact ⟨by have := Int.toNat_of_nonneg h3.1; omega, by omega⟩ : zs.getD i 0 = ((zs.getD i 0).toNat : Int) ∧ (zs.getD i 0).toNat < dn))
  have HZC := Lib.hid (fun (W : World) (hE : Ext U W) (i : Nat) (hi : i < wn) => (hlz.ext hE) i (by omega))
  have HCV := Lib.hid (fun (W : World) (hE : Ext U W) (x e : Nat) (hx : x < wn) (he : e < dn) => (by
    have hck := cell_k hv (x := (x : Int)) (y := (yn : Int)) ⟨by omega, by omega⟩ ⟨by omega, by omega⟩
    have t := (hl.ext hE) (cellN wn (x : Int) (yn : Int) * dn + e) (by omega)
    rw [← Nat.add_assoc] at t
    exact t : W.cell? ⟨gb, off + cellN wn (x : Int) (yn : Int) * dn + e, none⟩ = some (fl (bs.getD (cellN wn (x : Int) (yn : Int) * dn + e) 0))))
  have HWD := Lib.hid hw
  have HV := Lib.hid hok.1
  have HP := Lib.hid hok.2.1
  have HY := Lib.hid hok.2.2
  have a1 : IntKind.i64.wrap ((hn : Int) - 1) = (hn : Int) - 1 := wrap_small _ (by omega) (by omega)
  have a2 : IntKind.i64.wrap ((dn : Int) - 1) = (dn : Int) - 1 := wrap_small _ (by omega) (by omega)
  have HALL := Lib.hid (fun (i : Nat) (hi : i < wn) => any_getD hall (i := i) (by omega))
  have HCC := Lib.hid (fun (W : World) (hE : Ext U W) (hB : Box4 W U.heap.size (.int .i64 wn) (.int .i64 hn) (.int .i64 dn) (.slice (some ⟨gb, off, none⟩) n c)) (x e : Nat) (hx : x < wn) (he : e < dn) => l04Cost_any U.heap.size wn hn dn gb off n c bs (x : Int) (yn : Int) e W hB (hl.ext hE) hlen hv ⟨by omega, by omega⟩ ⟨by omega, by omega⟩ he)
  unfold maxLen at hzm
  clear hl hlen hw hnc hcm hlz hlenz hok hall hv hd0 hh24 hyn
  go_enter Try.func17, Try.ntmps17
  go_wp2_with fail
  refine calls_at (X := fun w' => Ext U w' ∧ Box4 w' U.heap.size (.int .i64 wn) (.int .i64 hn) (.int .i64 dn) (.slice (some ⟨gb, off, none⟩) n c) ∧ Box2 w' (U.heap.size + 1) (fl p0) (fl p1)) ⟨((Ext.refl _).alloc _).alloc _, ⟨by simp [go_sem], by simp [go_sem], by simp [go_sem], by simp [go_sem]⟩, ⟨by simp [go_sem], by simp [go_sem]⟩⟩ ?_
  rintro w0 ⟨hE, hb, hq⟩
  refine (l03Is_yes _ _ _ _ _ _ _ _ hnm hb.1 hb.2.1 hb.2.2.1 hb.2.2.2 HV.out).mono ?_
  rintro e w1 ⟨rfl, hx⟩
  replace hE := hE.trans hx
  replace hb := hb.ext hx
  replace hq := hq.ext hx
  clear hx
  have ⟨p0', p1', p2', p3'⟩ := hb
  have ⟨q0', q1'⟩ := hq
  go_wp2_with fail
  clear p0' p1' p2' p3' q0' q1'
  refine (l04Is_yes _ p0 p1 _ hq.1 hq.2 HP.out).mono ?_
  rintro e w2 ⟨rfl, hx⟩
  replace hE := hE.trans hx
  replace hb := hb.ext hx
  replace hq := hq.ext hx
  clear hx
  have ⟨p0', p1', p2', p3'⟩ := hb
  have ⟨q0', q1'⟩ := hq
  go_wp2_with fail
  refine (l00In_yes yn 0 ((hn : Int) - 1) _ HY.out.1 HY.out.2).mono ?_
  rintro e w3 ⟨rfl, rfl⟩
  go_wp2_with fail
  go_loopw [10] (fun iv wr => ∃ i : Nat, i ≤ wn ∧ iv = .int .i64 i ∧ (∀ j, j < i → badZ dn (zs.getD j 0) = false) ∧ Ext U wr ∧ Box4 wr U.heap.size (.int .i64 wn) (.int .i64 hn) (.int .i64 dn) (.slice (some ⟨gb, off, none⟩) n c) ∧ Box2 wr (U.heap.size + 1) (fl p0) (fl p1)) (fun iv _ => wn - (intOf iv).toNat)
  case atStart => exact ⟨0, Nat.zero_le _, rfl, fun j hj => by omega, hE, hb, hq⟩
  case round =>
    clear hE hb hq p0' p1' p2' p3' q0' q1'
    obtain ⟨i, hi, rfl, hgood, hE, hb, hq⟩ := hrel
    have HGD := Lib.hid hgood
    clear hgood
    have ⟨p0', p1', p2', p3'⟩ := hb
    have ⟨q0', q1'⟩ := hq
    by_cases hlt : i < wn
    · have hlt' : (i : Int) < (wn : Int) := by omega
      have i0 : (0 : Int) ≤ (i : Int) := by omega
      have a4 : IntKind.i64.wrap ((i : Int) + 1) = (i : Int) + 1 := wrap_small _ (by omega) (by omega)
      have zc := HZC.out _ hE i hlt
      obtain ⟨b, hbb⟩ : ∃ b, zs.getD i 0 = b := ⟨_, rfl⟩
      rw [hbb] at zc
      cases hbz : badZ dn b with
      | true =>
        exact absurd hbz (by rw [← hbb, HALL.out i hlt]; simp)
      | false =>
        have HBD := Lib.hid (badZ_f hbz)
        have HBZ := Lib.hid hbz
        have HBB := Lib.hid hbb
        clear hbz hbb
        go_wp2_with fail
        refine region_wx0 [] (by kernel_rfl) (by kernel_rfl) ?_
        repeat ((first | refine wx_skip rfl ?_ | refine wx_nilCheck rfl rfl _ rfl _ rfl ?_ | (refine wx_float rfl rfl _ _ _ _ _ _ _ rfl rfl rfl rfl ?_; intro r hr) | (refine wx_k rfl rfl rfl (fun K hK => ?_); go_big_quiet_op; refine hK _ ?_; clear hK K) | (refine wx_call rfl rfl 39 _ _ rfl (by kernel_rfl) (by kernel_rfl) (.bool true) (fun W hW hF => ?_) ?_; go_simp; (with_reducible refine (callsExt (l00In_yes b 0 ((dn : Int) - 1) W HBD.out.1 HBD.out.2)).mono ?_); rintro e w' h; exact h)); (try simp only [Act.put, List.setIfInBounds_toArray, List.set_cons_zero, List.set_cons_succ]); (try simp only [List.tail_nil]))
        refine wx_nil (fun W hW hF => ?_)
        go_wp2
        go_roundw
        case rel => exact ⟨i + 1, by omega, by go_num, fun j hj => by
          rcases Nat.lt_or_ge j i with h | h
          · exact HGD.out j h
          · have : j = i := by omega
            subst this; rw [HBB.out]; exact HBZ.out, hE.trans hW, hb.ext hW, hq.ext hW⟩
        case measure => simp [intOf]; omega
    · have e1 : wn ≤ i := by omega
      clear hi
      have zA := HZ.out 0 (by omega)
      have zcA := HZC.out _ hE 0 (by omega)
      obtain ⟨VA, hVA⟩ : ∃ V, (zs.getD 0 0).toNat = V := ⟨_, rfl⟩
      rw [hVA] at zA
      rw [zA.1] at zcA
      have QVA := Lib.hid hVA
      have ZVA := Lib.hid zA.1
      have gzA := zA.2
      clear hVA zA
      rw [Nat.add_zero] at zcA
      have n0 : (0 : Int) < (wn : Int) := by omega
      go_wp2_with fail
      clear p0' p1' p2' p3' q0' q1'
      have kc := HCC.out _ hE hb 0 VA (by omega) gzA
      have wvA := wd_at HWD.out (cellN wn ((0 : Nat) : Int) (yn : Int) * dn + VA)
      obtain ⟨BA, hBA⟩ : ∃ B, bs.getD (cellN wn ((0 : Nat) : Int) (yn : Int) * dn + VA) 0 = B := ⟨_, rfl⟩
      rw [hBA] at kc wvA
      have QBA := Lib.hid hBA
      clear hBA
      refine kc.mono ?_
      rintro e w4 ⟨rfl, hx⟩
      replace hE := hE.trans hx
      replace hb := hb.ext hx
      replace hq := hq.ext hx
      clear hx zcA kc
      go_wp2_with fail
      go_loopw [11, 12] (fun s xv wr => ∃ (x m r : Nat), x = m + 1 ∧ x ≤ wn ∧ xv = .int .i64 x ∧ s = .float .f32 r ∧ Is r (rcTo wn dn p0 p1 bs yn zs m) ∧ Ext w4 wr) (fun _ xv _ => wn - (intOf xv).toNat)
      case atStart => exact ⟨1, 0, BA, rfl, hw1, rfl, rfl, by rw [rcTo, QVA.out, QBA.out]; exact ⟨wvA, rfl⟩, Ext.refl _⟩
      case round =>
        obtain ⟨x, m, s, hxm, hx, rfl, rfl, hs, hX⟩ := hrel
        replace hE := hE.trans hX
        replace hb := hb.ext hX
        replace hq := hq.ext hX
        have ⟨p0', p1', p2', p3'⟩ := hb
        by_cases hlt : x < wn
        · have hlt' : (x : Int) < (wn : Int) := by omega
          have a0 : IntKind.i64.wrap ((x : Int) - 1) = (m : Int) := by rw [show (x : Int) - 1 = (m : Int) by omega]; exact wrap_small _ (by omega) (by omega)
          have a3 : IntKind.i64.wrap ((x : Int) + 1) = (x : Int) + 1 := wrap_small _ (by omega) (by omega)
          have x0 : (0 : Int) ≤ (x : Int) := by omega
          have m0 : (0 : Int) ≤ (m : Int) := by omega
          have m1 : (m : Int) < (wn : Int) := by omega
          have hmw : m < wn := by omega
          have HXM := Lib.hid hxm
          clear hxm
          have zP := HZ.out m (by omega)
          have zcP := HZC.out _ hE m (by omega)
          obtain ⟨VP, hVP⟩ : ∃ V, (zs.getD m 0).toNat = V := ⟨_, rfl⟩
          rw [hVP] at zP
          rw [zP.1] at zcP
          have QVP := Lib.hid hVP
          have ZVP := Lib.hid zP.1
          have gzP := zP.2
          clear hVP zP
          have zQ := HZ.out x (by omega)
          have zcQ := HZC.out _ hE x (by omega)
          obtain ⟨VQ, hVQ⟩ : ∃ V, (zs.getD x 0).toNat = V := ⟨_, rfl⟩
          rw [hVQ] at zQ
          rw [zQ.1] at zcQ
          have QVQ := Lib.hid hVQ
          have ZVQ := Lib.hid zQ.1
          have gzQ := zQ.2
          clear hVQ zQ
          have ⟨q0', q1'⟩ := hq
          go_wp2_with fail
          clear p0' p1' p2' p3'
          refine region_wx 12 [] (by kernel_rfl) (by kernel_rfl) ?_
          simp only [List.take_succ_cons, List.take_zero, List.drop_succ_cons, List.drop_zero]
          repeat ((first | refine wx_skip rfl ?_ | refine wx_nilCheck rfl rfl _ rfl _ rfl ?_ | (refine wx_float rfl rfl _ _ _ _ _ _ _ rfl rfl rfl rfl ?_; intro r hr) | (refine wx_k rfl rfl rfl (fun K hK => ?_); go_big_quiet_op; refine hK _ ?_; clear hK K) | (refine wx_call rfl rfl 48 _ _ rfl (by kernel_rfl) (by kernel_rfl) (.float .f32 (priceX p0 p1 (VP : Int) (VQ : Int))) (fun W hW hF => ?_) ?_; go_simp; (with_reducible refine (callsExt (l04Price_any (U.heap.size + 1) p0 p1 (VP : Int) (VQ : Int) W (by omega) (by omega) (by omega) (by omega) (hq.ext hW).c0 (hq.ext hW).c1)).mono ?_); rintro e w' h; exact h)); (try simp only [Act.put, List.setIfInBounds_toArray, List.set_cons_zero, List.set_cons_succ]); (try simp only [List.tail_nil]))
          refine wx_nil (fun W hW hF => ?_)
          have T1 := Is.op hs ⟨priceX_lt h0 h1 (VP : Int) (VQ : Int), rfl⟩ hr
          replace hE := hE.trans hW
          replace hb := hb.ext hW
          replace zcQ := cell_ext zcQ hW
          replace hX := hX.trans hW
          clear hF hW q0' q1' hr zcP hq
          go_wp2_with fail
          have kc := HCC.out _ hE hb x VQ hlt gzQ
          have wvQ := wd_at HWD.out (cellN wn (x : Int) (yn : Int) * dn + VQ)
          obtain ⟨BQ, hBQ⟩ : ∃ B, bs.getD (cellN wn (x : Int) (yn : Int) * dn + VQ) 0 = B := ⟨_, rfl⟩
          rw [hBQ] at kc wvQ
          have QBQ := Lib.hid hBQ
          clear hBQ
          refine kc.mono ?_
          rintro e w5 ⟨rfl, hx5⟩
          replace hX := hX.trans hx5
          clear kc zcQ hx5
          go_wp2
          go_roundw
          case rel =>
            refine ⟨x + 1, m + 1, _, by have := HXM.out; omega, by omega, by go_num, rfl, ?_, hX.drewN _⟩
            rw [rcTo, ← HXM.out, ZVP.out, ZVQ.out, Int.toNat_natCast, QBQ.out]
            exact Is.op T1 (nrm_word wvQ) (flR_is _ _ _ _)
          case measure => simp [intOf]; omega
        · have e1 : m = wn - 1 := by omega
          rw [e1] at hs
          go_wp2
          go_ret2
          exact ⟨s, rfl, hs, hE⟩
set_option maxRecDepth 8000 in
theorem lawRowCost_any (W : World) (z0 z1 z2 : Int) (_ : -9223372036854775808 ≤ z0 ∧ z0 ≤ 9223372036854775807) (_ : -9223372036854775808 ≤ z1 ∧ z1 ≤ 9223372036854775807) (_ : -9223372036854775808 ≤ z2 ∧ z2 ≤ 9223372036854775807) (A : Option Addr) (n m : Nat) (bs : List Nat) (hc : n ≤ m) (hm : m ≤ maxLen) (hr : Reads W A n bs) (hw : Words bs) (p0 p1 : Nat) (h0 : p0 < 4294967296) (h1 : p1 < 4294967296) (y : Int) (_ : IntKind.i64.min ≤ y ∧ y ≤ IntKind.i64.max) (Az : Option Addr) (nz mz : Nat) (zs : List Int) (hcz : nz ≤ mz) (hmz : mz ≤ maxLen) (hrz : ReadsI W Az nz zs) (_ : ∀ z ∈ zs, -9223372036854775808 ≤ z ∧ z ≤ 9223372036854775807) :
    Calls Try.prog 4 #[.agg #[.int .i64 z0, .int .i64 z1, .int .i64 z2, .slice A n m], .agg #[.float .f32 p0, .float .f32 p1], .int .i64 y, .slice Az nz mz] W fun e W' => e = .returned (.bool true) ∧ Ext W W' := by
  have hn : n ≤ maxLen := Nat.le_trans hc hm
  have hzm : nz ≤ maxLen := Nat.le_trans hcz hmz
  have NOC := fun hs hi => lawRowCost_core W z0 z1 z2 A n m bs hn hr p0 p1 y Az nz mz zs hzm hrz 0 false hs hi
  by_cases hv : VVol z0 z1 z2 n
  · by_cases hp : PV p0 p1
    · by_cases hy : 0 ≤ y ∧ y ≤ z1 - 1
      · by_cases hz : (nz : Int) = z0
        · cases hall : zs.any (badZ z2) with
          | true =>
            refine NOC (fun w D Dz hd hdz => ?_) (fun w D Dz hd hdz => implRowCost_no3 z0 z1 z2 D n n p0 p1 y Dz nz nz zs w hn hzm hdz ⟨hv, hp, hy⟩ hz hall)
            obtain ⟨gz, oz, rfl, hlz⟩ := hdz.2 (by have := hv.1.1; omega)
            exact specRowCost_no5 z0 z1 z2 D n n p0 p1 y gz oz nz nz zs w hn hzm hlz hdz.1 hv hp hy hz hall
          | false =>
            obtain ⟨wn, rfl⟩ := Int.eq_ofNat_of_zero_le (show 0 ≤ z0 by have := hv.1.1; omega)
            obtain ⟨hn', rfl⟩ := Int.eq_ofNat_of_zero_le (show 0 ≤ z1 by have := hv.1.2.2.1; omega)
            obtain ⟨dn, rfl⟩ := Int.eq_ofNat_of_zero_le (show 0 ≤ z2 by have := hv.2.1; omega)
            obtain ⟨yn, rfl⟩ := Int.eq_ofNat_of_zero_le hy.1
            obtain rfl : nz = wn := by omega
            obtain ⟨hnn, hnp, hnx⟩ := vol_n hv
            refine lawRowCost_core W nz hn' dn A n m bs hn hr p0 p1 yn Az nz mz zs hzm hrz (rcTo nz dn p0 p1 bs yn zs (nz - 1)) true (fun w D Dz hd hdz => ?_) (fun w D Dz hd hdz => ?_)
            · obtain ⟨gb, off, rfl, hl⟩ := hd.2 hnp
              obtain ⟨gz, oz, rfl, hlz⟩ := hdz.2 (by have := hv.1.1; omega)
              exact specRowCost_yes nz hn' dn gb off n n bs p0 p1 yn gz oz nz zs h0 h1 w hl hd.1 hw (Nat.le_refl _) hn hlz hdz.1 hzm ⟨hv, hp, hy⟩ hall
            · obtain ⟨gb, off, rfl, hl⟩ := hd.2 hnp
              obtain ⟨gz, oz, rfl, hlz⟩ := hdz.2 (by have := hv.1.1; omega)
              exact implRowCost_yes nz hn' dn gb off n n bs p0 p1 yn gz oz nz zs h0 h1 w hl hd.1 hw (Nat.le_refl _) hn hlz hdz.1 hzm ⟨hv, hp, hy⟩ hall
        · exact NOC (fun w D Dz hd hdz => specRowCost_no4 z0 z1 z2 D n n p0 p1 y Dz nz nz zs w hn hzm hv hp hy hz) (fun w D Dz hd hdz => implRowCost_no2 z0 z1 z2 D n n p0 p1 y Dz nz nz zs w hn hzm ⟨hv, hp, hy⟩ hz)
      · exact NOC (fun w D Dz hd hdz => specRowCost_no3 z0 z1 z2 D n n p0 p1 y Dz nz nz zs w hn hzm hv hp (by omega)) (fun w D Dz hd hdz => implRowCost_no1 z0 z1 z2 D n n p0 p1 y Dz nz nz zs w hn hzm (fun h => hy h.2.2))
    · exact NOC (fun w D Dz hd hdz => specRowCost_no2 z0 z1 z2 D n n p0 p1 y Dz nz nz zs w hn hzm hv hp) (fun w D Dz hd hdz => implRowCost_no1 z0 z1 z2 D n n p0 p1 y Dz nz nz zs w hn hzm (fun h => hp h.2.1))
  · exact NOC (fun w D Dz hd hdz => specRowCost_no1 z0 z1 z2 D n n p0 p1 y Dz nz nz zs w hn hzm hv) (fun w D Dz hd hdz => implRowCost_no1 z0 z1 z2 D n n p0 p1 y Dz nz nz zs w hn hzm (fun h => hv h.1))
end Go.Proofs.Ythkfbmboiabolaa
