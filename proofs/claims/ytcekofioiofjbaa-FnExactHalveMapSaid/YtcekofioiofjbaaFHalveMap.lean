/- The law on HalveMap holds. -/
import Derived.Test.YtcekofioiofjbaaHole
import Derived.Test.YtcekofioiofjbaaMade
import Derived.Test.YtcekofioiofjbaaSize
import Derived.Test.YtcekofioiofjbaaCube
import Derived.Test.YtcekofioiofjbaaCHalveMap
namespace Go.Proofs.Ytcekofioiofjbaa
open Go.RowKit
set_option linter.unusedVariables false

theorem wl_at {P : Program} {ops : Array Oper} {Q : Exit → Act → World → Prop} {l : List Oper} {a : Act} {w : World} {X : World → Prop} (hX : X w) (h : ∀ w', X w' → wpList P ops Q l a w') : wpList P ops Q l a w := h w hX
theorem map_n {wn hn n : Nat} (hv : VMap wn hn n) : n = wn * hn ∧ 0 < n ∧ n ≤ 256 := by
  have h1 := hv.2
  have h2 := mul_bounds hv.1.1 hv.1.2.1 hv.1.2.2.1 hv.1.2.2.2.1
  have h3 := hv.1.2.2.2.2
  have h4 : ((wn * hn : Nat) : Int) = (wn : Int) * (hn : Int) := by simp
  omega
theorem cell_fresh0 (w : World) (t : TypeId) (r : Value) : (w.alloc (.cells #[r] t)).cell? ⟨w.heap.size, 0, none⟩ = some r := by
  simp [go_sem]
theorem cell_fresh (w : World) (k : Nat) (t : TypeId) (r : Value) : ((w.drewN k).alloc (.cells #[r] t)).cell? ⟨w.heap.size, 0, none⟩ = some r := cell_fresh0 (w.drewN k) t r
theorem exec_mkfn (r : Operand → Value) (o : Oper) (f : FuncId) (caps : Array Operand) (lb : Array Value) (ho : o.op = .makeFunc (.func f) #[] caps) (hl : caps.map r = lb) : execOp r o = pure (Next.value (.func (.func f) #[] lb)) := by
  unfold execOp; rw [ho, ← hl]; simp only [List.map_toArray, List.map_nil]; rfl
/-- Half of a number; of a hole the hole. -/
def halfOf (v : Nat) : Nat := if holeB v = true then 3212836864 else fop .mul 1056964608 v
def halfF (wn : Nat) (bs : List Nat) (x y : Nat) : Nat := halfOf (bs.getD (2 * x + wn * 2 * y) 0)
theorem mone_is : Is 3212836864 3212836864 := ⟨by omega, by decide +kernel⟩
theorem half_n {wn : Nat} : 2 * ((wn + 1) / 2) ≤ wn + 1 := by omega
theorem halfUp_any (wn : Nat) (hw : wn ≤ 100) (U : World) :
    Calls Try.prog 74 #[.int .i64 wn] U fun e U' => e = .returned (.int .i64 (((wn + 1) / 2 : Nat) : Int)) ∧ U = U' := by
  have hq : IntKind.i64.wrap ((wn : Int) + 1) = ((wn + 1 : Nat) : Int) := by rw [show ((wn + 1 : Nat) : Int) = (wn : Int) + 1 by omega]; exact wrap_small _ (by omega) (by omega)
  have hq2 : IntKind.i64.wrap (((wn + 1) / 2 : Nat) : Int) = (((wn + 1) / 2 : Nat) : Int) := wrap_small _ (by omega) (by omega)
  have hq3 : ((wn + 1 : Nat) : Int).tdiv 2 = (((wn + 1) / 2 : Nat) : Int) := by rw [Int.tdiv_eq_ediv_of_nonneg (by omega)]; omega
  go_enter Try.func74, Try.ntmps74
  go_wp2
  go_ret
  refine ⟨?_, rfl⟩
  simp; try omega
set_option maxHeartbeats 1000000 in
theorem halve1_any (wn hn gb off n c : Nat) (bs : List Nat) (gv : Nat) (x y : Nat) (U : World) (hB : Box3 U gv (.int .i64 wn) (.int .i64 hn) (.slice (some ⟨gb, off, none⟩) n c)) (hl : Lies U gb off bs) (hlen : bs.length = n) (hwd : Words bs) (hnm : n ≤ maxLen) (hv : VMap wn hn n) (hx : 2 * x < wn) (hy : 2 * y < hn) :
    Calls Try.prog 75 #[.int .i64 x, .int .i64 y, .pointer (some ⟨gv, 0, none⟩)] U fun e' U' => ∃ r, e' = .returned (.float .f32 r) ∧ Is r (halfF wn bs x y) ∧ Ext U U' := by
  have h1 := hv.1.2.1
  have h2 := hv.1.2.2.2.1
  obtain ⟨x2, hx2⟩ : ∃ j, 2 * x = j := ⟨_, rfl⟩
  obtain ⟨y2, hy2⟩ : ∃ j, 2 * y = j := ⟨_, rfl⟩
  have hw1 : IntKind.i64.wrap (2 * (x : Int)) = (x2 : Int) := by rw [show 2 * (x : Int) = (x2 : Int) by omega]; exact wrap_small _ (by omega) (by omega)
  have hw2 : IntKind.i64.wrap (2 * (y : Int)) = (y2 : Int) := by rw [show 2 * (y : Int) = (y2 : Int) by omega]; exact wrap_small _ (by omega) (by omega)
  obtain ⟨e1, e2, e3⟩ := cellN_eq hv (show 0 ≤ (x2 : Int) by omega) (show (x2 : Int) ≤ (wn : Int) - 1 by omega) (show 0 ≤ (y2 : Int) by omega) (show (y2 : Int) ≤ (hn : Int) - 1 by omega)
  have HA := Lib.hid (fun (W : World) (hx' : Ext U W) => at_any gv wn hn (some ⟨gb, off, none⟩) n c bs (x2 : Int) (y2 : Int) _ W (hB.ext hx') ⟨hlen, fun _ => ⟨gb, off, rfl, hl.ext hx'⟩⟩ hnm e1 e2 e3)
  have hidx : cellN (wn : Int) (x2 : Int) (y2 : Int) = 2 * x + wn * 2 * y := by
    have h3 : ((2 * x + wn * 2 * y : Nat) : Int) = (x2 : Int) + (wn : Int) * (y2 : Int) := by rw [← hx2, ← hy2, Nat.mul_assoc]; simp
    omega
  have hF : halfF wn bs x y = halfOf (bs.getD (cellN (wn : Int) (x2 : Int) (y2 : Int)) 0) := by rw [hidx]; rfl
  rw [hF]
  have hwv := wd_at hwd (cellN (wn : Int) (x2 : Int) (y2 : Int))
  generalize bs.getD (cellN (wn : Int) (x2 : Int) (y2 : Int)) 0 = v at HA hwv ⊢
  clear hl hlen hwd hnm hv e1 e2 e3 hB hidx hF hx2 hy2
  unfold halfOf
  cases hh : holeB v with
  | true =>
    rw [if_pos rfl]
    have HH := Lib.hid (fun W => isHole_of v true hh W)
    clear hh
    go_enter Try.func75, Try.ntmps75
    go_wp2_with fail
    refine (HA.out _ (Ext.refl _)).mono ?_
    rintro e w1 ⟨rfl, hx1⟩
    go_wp2_with (go_at_call 76; refine (HH.out _).mono ?_; rintro e w' ⟨rfl, rfl⟩)
    go_ret
    exact ⟨_, rfl, mone_is, hx1⟩
  | false =>
    rw [if_neg (by simp), half_eq v hwv]
    have HH := Lib.hid (fun W => isHole_of v false hh W)
    clear hh
    go_enter Try.func75, Try.ntmps75
    go_wp2_with fail
    refine (HA.out _ (Ext.refl _)).mono ?_
    rintro e w1 ⟨rfl, hx1⟩
    go_wp2_with (go_at_call 76; refine (HH.out _).mono ?_; rintro e w' ⟨rfl, rfl⟩)
    refine (HA.out _ hx1).mono ?_
    rintro e w2 ⟨rfl, hx2⟩
    go_wp2
    go_ret
    refine ⟨_, rfl, flR_is _ _ _ _, ?_⟩
    repeat (first | with_reducible exact hx1.trans hx2 | (with_reducible refine Ext.drewN ?_ _))
theorem implHalveMap_no (z0 z1 : Int) (A0 : Option Addr) (n0 m0 : Nat) (hn0 : n0 ≤ maxLen) (hv : ¬ VMap z0 z1 n0) (U : World) :
    Calls Try.prog 31 #[.agg #[.int .i64 z0, .int .i64 z1, .slice A0 n0 m0]] U fun e U' => ∃ A c' b, e = .returned (.tuple #[.agg #[.int .i64 0, .int .i64 0, .slice A b.length c'], .bool false]) ∧ OwnF U' U.heap.size 37 (.slice A b.length c') b ∧ b.map nrm = [] ∧ Ext U U' := by
  have HV := Lib.hid hv
  clear hv
  go_enter Try.func31, Try.ntmps31
  go_wp2_with fail
  refine calls_at (X := fun w' => Ext U w' ∧ Box3 w' U.heap.size (.int .i64 z0) (.int .i64 z1) (.slice A0 n0 m0) ∧ Res3 w' (U.heap.size + 1) ∧ U.heap.size + 1 + 1 ≤ w'.heap.size) ⟨((Ext.refl _).alloc _).alloc _, ⟨by simp [go_sem], by simp [go_sem], by simp [go_sem]⟩, ⟨by simp [go_sem], by simp [go_sem], by simp [go_sem], by simp [go_sem], by simp [go_sem], by simp [go_sem]⟩, by simp⟩ ?_
  rintro w0 ⟨hx0, hb0, hr0, hs0⟩
  refine (ValidMap_not _ _ A0 n0 m0 _ hn0 HV.out).mono ?_
  rintro e w1 ⟨rfl, hx⟩
  have ⟨c0, c1, c2, f0, f1, f2⟩ := hr0.ext hx
  have hE := hx0.trans hx
  clear hx hx0 hr0 hb0
  go_wp2
  refine bodyPost_ret (v := .tuple #[.agg #[.int .i64 0, .int .i64 0, .slice none 0 0], .bool false]) (by simp [results, Try.results31, go_sem, *]) rfl ⟨none, 0, [], rfl, OwnF.nil _ _ _, rfl, ?_⟩
  repeat (first | (with_reducible exact hE) | (with_reducible refine Ext.setCell ?_ (by dsimp only; omega) _))
theorem specHalveMap_no (z0 z1 : Int) (A0 : Option Addr) (n0 m0 : Nat) (hn0 : n0 ≤ maxLen) (hv : ¬ VMap z0 z1 n0) (U : World) :
    Calls Try.prog 30 #[.agg #[.int .i64 z0, .int .i64 z1, .slice A0 n0 m0]] U fun e U' => ∃ A c' b, e = .returned (.tuple #[.agg #[.int .i64 0, .int .i64 0, .slice A b.length c'], .bool false]) ∧ OwnF U' U.heap.size 37 (.slice A b.length c') b ∧ b.map nrm = [] ∧ Ext U U' := by
  have HV := Lib.hid hv
  clear hv
  go_enter Try.func30, Try.ntmps30
  go_wp2_with fail
  refine calls_at (X := fun w' => Ext U w' ∧ Box3 w' U.heap.size (.int .i64 z0) (.int .i64 z1) (.slice A0 n0 m0) ∧ Res3 w' (U.heap.size + 1) ∧ U.heap.size + 1 + 1 ≤ w'.heap.size) ⟨((Ext.refl _).alloc _).alloc _, ⟨by simp [go_sem], by simp [go_sem], by simp [go_sem]⟩, ⟨by simp [go_sem], by simp [go_sem], by simp [go_sem], by simp [go_sem], by simp [go_sem], by simp [go_sem]⟩, by simp⟩ ?_
  rintro w0 ⟨hx0, hb0, hr0, hs0⟩
  refine (l03IsMap_not _ _ _ A0 n0 m0 _ hn0 hb0.1 hb0.2.1 hb0.2.2 HV.out).mono ?_
  rintro e w1 ⟨rfl, hx⟩
  have ⟨c0, c1, c2, f0, f1, f2⟩ := hr0.ext hx
  have hE := hx0.trans hx
  clear hx hx0 hr0 hb0
  go_wp2
  refine bodyPost_ret (v := .tuple #[.agg #[.int .i64 0, .int .i64 0, .slice none 0 0], .bool false]) (by simp [results, Try.results30, go_sem, *]) rfl ⟨none, 0, [], rfl, OwnF.nil _ _ _, rfl, ?_⟩
  repeat (first | (with_reducible exact hE) | (with_reducible refine Ext.setCell ?_ (by dsimp only; omega) _))
set_option maxHeartbeats 1000000 in
set_option maxRecDepth 8000 in
theorem implHalveMap_yes (wn hn gb off n c : Nat) (bs : List Nat) (U : World) (hl : Lies U gb off bs) (hlen : bs.length = n) (hwd : Words bs) (hnc : n ≤ c) (hcm : c ≤ maxLen) (hv : VMap wn hn n) :
    Calls Try.prog 31 #[.agg #[.int .i64 wn, .int .i64 hn, .slice (some ⟨gb, off, none⟩) n c]] U fun e U' => ∃ A c' b, e = .returned (.tuple #[.agg #[.int .i64 (((wn + 1) / 2 : Nat) : Int), .int .i64 (((hn + 1) / 2 : Nat) : Int), .slice A b.length c'], .bool true]) ∧ OwnF U' U.heap.size 37 (.slice A b.length c') b ∧ b.map nrm = cells (halfF wn bs) ((wn + 1) / 2) ((wn + 1) / 2 * ((hn + 1) / 2)) ∧ Ext U U' := by
  have HV := Lib.hid hv
  have hcn := Nat.le_trans hnc hcm
  have h1 : wn ≤ 24 := by have := hv.1.2.1; omega
  have h2 : hn ≤ 24 := by have := hv.1.2.2.2.1; omega
  have HW := Lib.hid (fun (W : World) => halfUp_any wn (by omega) W)
  have HH := Lib.hid (fun (W : World) => halfUp_any hn (by omega) W)
  have ha := @half_n wn
  have hb := @half_n hn
  obtain ⟨a, haa⟩ : ∃ a, (wn + 1) / 2 = a := ⟨_, rfl⟩
  obtain ⟨b', hbb⟩ : ∃ a, (hn + 1) / 2 = a := ⟨_, rfl⟩
  rw [haa] at HW ha ⊢
  rw [hbb] at HH hb ⊢
  have HK := Lib.hid (fun (w0 : World) (hx0 : Ext U w0) (hb0 : Box3 w0 U.heap.size (.int .i64 wn) (.int .i64 hn) (.slice (some ⟨gb, off, none⟩) n c)) => mapOf_any a b' (by omega) (by omega) 75 #[.pointer (some ⟨U.heap.size, 0, none⟩)] (halfF wn bs) w0 (by kernel_rfl)
    (fun x y U' h1 h2 h3 => halve1_any wn hn gb off n c bs _ x y U' (hb0.ext h1) ((hl.ext hx0).ext h1) hlen hwd hcn hv (by omega) (by omega)))
  clear hv hl hlen hwd hnc hcm haa hbb ha hb
  go_enter Try.func31, Try.ntmps31
  go_wp2_with fail
  refine calls_at (X := fun w' => Ext U w' ∧ Box3 w' U.heap.size (.int .i64 wn) (.int .i64 hn) (.slice (some ⟨gb, off, none⟩) n c) ∧ Res3 w' (U.heap.size + 1) ∧ U.heap.size + 1 + 1 ≤ w'.heap.size) ⟨((Ext.refl _).alloc _).alloc _, ⟨by simp [go_sem], by simp [go_sem], by simp [go_sem]⟩, ⟨by simp [go_sem], by simp [go_sem], by simp [go_sem], by simp [go_sem], by simp [go_sem], by simp [go_sem]⟩, by simp⟩ ?_
  rintro w0 ⟨hx0, hb0, hr0, hs0⟩
  refine (ValidMap_yes _ _ _ n c _ hcn HV.out).mono ?_
  rintro e w1 ⟨rfl, hx⟩
  have hb1 := hb0.ext hx
  have hr1 := hr0.ext hx
  have hE := hx0.trans hx
  have hs1 := Nat.le_trans hs0 hx.size
  clear hx hx0 hb0 hr0 hs0
  have ⟨p0, p1, p2⟩ := hb1
  go_wp2_with fail
  refine region_wx 8 [none, none, none, none, none, none, none, some (fun u W => ∃ A c' b, u = .agg #[.int .i64 a, .int .i64 b', .slice A b.length c'] ∧ OwnF W w1.heap.size 37 (.slice A b.length c') b ∧ b.map nrm = cells (halfF wn bs) a (a * b'))] (by kernel_rfl) (by kernel_rfl) ?_
  simp only [List.take_succ_cons, List.take_zero, List.drop_succ_cons, List.drop_zero]
  repeat ((first | refine wx_skip rfl ?_ | refine wx_nilCheck rfl rfl _ rfl _ rfl ?_ | (refine wx_float rfl rfl _ _ _ _ _ _ _ rfl rfl rfl rfl ?_; intro r hr) | (refine wx_k rfl rfl rfl (fun K hK => ?_); go_big_quiet_op; refine hK _ ?_; clear hK K) | (refine wx_call rfl rfl 74 _ _ rfl (by kernel_rfl) (by kernel_rfl) (.int .i64 a) (fun W hW hF => ?_) ?_; go_simp; (with_reducible refine (HW.out W).mono ?_); rintro e w' ⟨rfl, rfl⟩; exact ⟨rfl, Ext.refl _⟩) | (refine wx_call rfl rfl 74 _ _ rfl (by kernel_rfl) (by kernel_rfl) (.int .i64 b') (fun W hW hF => ?_) ?_; go_simp; (with_reducible refine (HH.out W).mono ?_); rintro e w' ⟨rfl, rfl⟩; exact ⟨rfl, Ext.refl _⟩) | (refine wx_callR _ rfl rfl 73 _ _ rfl (by kernel_rfl) (fun Wc hWc hFc => ?_) ?_; (· go_simp; refine (HK.out Wc (hE.trans hWc) (hb1.ext hWc)).mono ?_; rintro e w' ⟨A, c', b, rfl, ho, hm, _, hx⟩; exact ⟨_, rfl, ⟨A, c', b, rfl, ho.weaken hWc.size, hm⟩, hx⟩); rintro u VF hVF ⟨A, c', b, rfl, ho, hm⟩) | (refine wx_pure rfl rfl (exec_mkfn _ _ 75 _ #[.pointer (some ⟨U.heap.size, 0, none⟩)] rfl (by simp [go_sem])) ?_)); (try simp only [Act.put, List.setIfInBounds_toArray, List.set_cons_zero, List.set_cons_succ]); (try simp only [List.tail_cons]))
  refine wx_nil (fun W hW hF => ?_)
  have hFW : Ext VF W := hF 7
  replace ho := ho.ext hFW
  have ⟨c0, c1, c2, f0, f1, f2⟩ := hr1.ext hW
  have hE2 := hE.trans hW
  clear hF hFW hr1 hb1 p0 p1 p2 hW hVF
  go_wp2
  refine bodyPost_ret (v := .tuple #[.agg #[.int .i64 a, .int .i64 b', .slice A b.length c'], .bool true]) (by simp [results, Try.results31, go_sem, *]) rfl ⟨A, c', b, rfl, ?_, hm, ?_⟩
  · refine OwnF.weaken (base := w1.heap.size) ?_ (by omega)
    repeat (first | (with_reducible exact ho) | (with_reducible refine OwnF.set_below ?_ (by dsimp only; omega) _))
  · repeat (first | (with_reducible exact hE2) | (with_reducible refine Ext.setCell ?_ (by dsimp only; omega) _))
set_option maxHeartbeats 4000000 in
set_option maxRecDepth 8000 in
theorem specHalveMap_yes (wn hn gb off n c : Nat) (bs : List Nat) (U : World) (hl : Lies U gb off bs) (hlen : bs.length = n) (hwd : Words bs) (hnc : n ≤ c) (hcm : c ≤ maxLen) (hv : VMap wn hn n) :
    Calls Try.prog 30 #[.agg #[.int .i64 wn, .int .i64 hn, .slice (some ⟨gb, off, none⟩) n c]] U fun e U' => ∃ A c' b, e = .returned (.tuple #[.agg #[.int .i64 (((wn + 1) / 2 : Nat) : Int), .int .i64 (((hn + 1) / 2 : Nat) : Int), .slice A b.length c'], .bool true]) ∧ OwnF U' U.heap.size 37 (.slice A b.length c') b ∧ b.map nrm = cells (halfF wn bs) ((wn + 1) / 2) ((wn + 1) / 2 * ((hn + 1) / 2)) ∧ Ext U U' := by
  obtain ⟨i0, hi, hz0, hz1, hz2⟩ := info_parts infoF
  have HV := Lib.hid hv
  have hcn := Nat.le_trans hnc hcm
  obtain ⟨hnn, h0, hn2⟩ := map_n hv
  have h1 : wn ≤ 24 := by have := hv.1.2.1; omega
  have h2 : hn ≤ 24 := by have := hv.1.2.2.2.1; omega
  have hp1 : IntKind.i64.wrap ((wn : Int) + 1) = ((wn + 1 : Nat) : Int) := by rw [show ((wn + 1 : Nat) : Int) = (wn : Int) + 1 by omega]; exact wrap_small _ (by omega) (by omega)
  have hp2 : IntKind.i64.wrap ((hn : Int) + 1) = ((hn + 1 : Nat) : Int) := by rw [show ((hn + 1 : Nat) : Int) = (hn : Int) + 1 by omega]; exact wrap_small _ (by omega) (by omega)
  have ha := @half_n wn
  have hb := @half_n hn
  obtain ⟨a, haa⟩ : ∃ a, (wn + 1) / 2 = a := ⟨_, rfl⟩
  obtain ⟨b', hbb⟩ : ∃ a, (hn + 1) / 2 = a := ⟨_, rfl⟩
  rw [haa] at ha ⊢
  rw [hbb] at hb ⊢
  have HD1 : Hid (((wn : Int) + 1) / 2 = (a : Int)) := Lib.hid (by omega)
  have HD2 : Hid (((hn : Int) + 1) / 2 = (b' : Int)) := Lib.hid (by omega)
  have hq1 : ((wn + 1 : Nat) : Int).tdiv 2 = (a : Int) := by rw [Int.tdiv_eq_ediv_of_nonneg (by omega)]; omega
  have hq2 : ((hn + 1 : Nat) : Int).tdiv 2 = (b' : Int) := by rw [Int.tdiv_eq_ediv_of_nonneg (by omega)]; omega
  have hq3 : IntKind.i64.wrap (a : Int) = (a : Int) := wrap_small _ (by omega) (by omega)
  have hq4 : IntKind.i64.wrap (b' : Int) = (b' : Int) := wrap_small _ (by omega) (by omega)
  have hprod : ∀ k, k ≤ b' → k * a ≤ 576 := fun k hk => Nat.le_trans (Nat.mul_le_mul (show k ≤ 24 by omega) (show a ≤ 24 by omega)) (by omega)
  have HP := Lib.hid hprod
  have hst : ∀ j k, j < a → k < b' → ∃ m2 m3 sq : Nat, IntKind.i64.wrap ((wn : Int) * 2) = (m2 : Int) ∧ IntKind.i64.wrap ((m2 : Int) * (k : Int)) = (m3 : Int) ∧ IntKind.i64.wrap (2 * (j : Int)) = ((2 * j : Nat) : Int) ∧ IntKind.i64.wrap (((2 * j : Nat) : Int) + (m3 : Int)) = (sq : Int) ∧ sq < n ∧ halfF wn bs j k = halfOf (bs.getD sq 0) := by
    intro j k hj hk
    have e1 : wn * 2 * k ≤ 24 * 2 * 24 := Nat.mul_le_mul (Nat.mul_le_mul h1 (Nat.le_refl _)) (by omega)
    refine ⟨wn * 2, wn * 2 * k, 2 * j + wn * 2 * k, ?_, ?_, ?_, ?_, ?_, rfl⟩
    · rw [show (wn : Int) * 2 = ((wn * 2 : Nat) : Int) by simp]; exact wrap_small _ (by omega) (by omega)
    · rw [show ((wn * 2 : Nat) : Int) * (k : Int) = ((wn * 2 * k : Nat) : Int) by simp]; exact wrap_small _ (by omega) (by omega)
    · rw [show 2 * (j : Int) = ((2 * j : Nat) : Int) by simp]; exact wrap_small _ (by omega) (by omega)
    · rw [show ((2 * j : Nat) : Int) + ((wn * 2 * k : Nat) : Int) = ((2 * j + wn * 2 * k : Nat) : Int) by simp]; exact wrap_small _ (by omega) (by omega)
    · have e2 : wn * (2 * k + 1) ≤ wn * hn := Nat.mul_le_mul_left _ (by omega)
      rw [Nat.mul_add, Nat.mul_one, ← Nat.mul_assoc] at e2
      omega
  have HST := Lib.hid hst
  have HLEN := Lib.hid hlen
  have HWD := Lib.hid hwd
  clear hv hlen hwd hnn hst hprod haa hbb
  go_enter Try.func30, Try.ntmps30
  go_wp2_with fail
  refine calls_at (X := fun w' => Ext U w' ∧ Box3 w' U.heap.size (.int .i64 wn) (.int .i64 hn) (.slice (some ⟨gb, off, none⟩) n c) ∧ Res3 w' (U.heap.size + 1) ∧ U.heap.size + 1 + 1 ≤ w'.heap.size) ⟨((Ext.refl _).alloc _).alloc _, ⟨by simp [go_sem], by simp [go_sem], by simp [go_sem]⟩, ⟨by simp [go_sem], by simp [go_sem], by simp [go_sem], by simp [go_sem], by simp [go_sem], by simp [go_sem]⟩, by simp⟩ ?_
  rintro w0 ⟨hx0, hb0, hr0, hs0⟩
  refine (l03IsMap_yes _ wn hn _ n c _ hcn hb0.1 hb0.2.1 hb0.2.2 HV.out).mono ?_
  rintro e w1 ⟨rfl, hx⟩
  have hb1 := hb0.ext hx
  have hr1 := hr0.ext hx
  have hE := hx0.trans hx
  have hs1 := Nat.le_trans hs0 hx.size
  have hl1 := hl.ext hE
  clear hx hx0 hb0 hr0 hs0 hl hcn hcm hnc
  have ⟨p0, p1, p2⟩ := hb1
  go_wp2_with fail
  clear p0 p1 p2
  go_loopw [5] (fun y wr => ∃ (k : Nat) (A : Option Addr) (c' : Nat) (b : List Nat), k ≤ b' ∧ y = .int .i64 k ∧ Acc w1 wr (w1.heap.size + 1) 37 w1.heap.size 2 A c' b (cells (halfF wn bs) a (k * a)) ∧ wr.cell? ⟨w1.heap.size, 0, none⟩ = some (.int .i64 a) ∧ wr.cell? ⟨w1.heap.size, 1, none⟩ = some (.int .i64 b')) (fun y _ => b' - (intOf y).toNat)
  case atStart =>
    refine ⟨0, none, 0, [], Nat.zero_le _, rfl, ⟨OwnF.nil _ _ _, by simp [go_sem], by simp [go_sem], by simp [cells], (fun b hb => by cases hb), ?_⟩, by simp [go_sem]; exact HD1.out, by simp [go_sem]; exact HD2.out⟩
    · repeat (first | with_reducible exact Ext.refl _ | (with_reducible refine Ext.setCell ?_ (by simp; try omega) _) | (with_reducible refine Ext.alloc ?_ _))
  case round =>
    obtain ⟨k, A, c', b, hk, rfl, hacc, o0, o1⟩ := hrel
    by_cases hlt : k < b'
    · go_wp2_with fail
      go_loopw [6] (fun x wq => ∃ (j : Nat) (A : Option Addr) (c' : Nat) (b : List Nat), j ≤ a ∧ x = .int .i64 j ∧ Acc w1 wq (w1.heap.size + 1) 37 w1.heap.size 2 A c' b (cells (halfF wn bs) a (k * a + j)) ∧ wq.cell? ⟨w1.heap.size, 0, none⟩ = some (.int .i64 a) ∧ wq.cell? ⟨w1.heap.size, 1, none⟩ = some (.int .i64 b')) (fun x _ => a - (intOf x).toNat)
      case atStart => exact ⟨0, A, c', b, Nat.zero_le _, rfl, hacc, o0, o1⟩
      case round =>
        clear hacc o0 o1
        obtain ⟨j, A, c', b, hj, rfl, hacc, o0, o1⟩ := hrel
        by_cases hltj : j < a
        · obtain ⟨m2, m3, sq, hA1, hA2, hA3, hA4, hsq, hval⟩ := HST.out j k hltj hlt
          obtain ⟨j2, hj2⟩ : ∃ q, 2 * j = q := ⟨_, rfl⟩
          rw [hj2] at hA3 hA4
          have ⟨p0, p1, p2⟩ := hb1.ext hacc.ext
          have hcv := (hl1.ext hacc.ext) sq (by have := HLEN.out; omega)
          have hwv := wd_at HWD.out sq
          generalize bs.getD sq 0 = v at hcv hwv hval
          have hk0 : (0 : Int) ≤ (sq : Int) := by omega
          have hk1 : (sq : Int) < (n : Int) := by omega
          have hpp := HP.out k hk
          have hpp2 := HP.out (k + 1) (by omega)
          rw [Nat.succ_mul] at hpp2
          have HVAL := Lib.hid hval
          have hhd0 := hacc.hdr
          have hfr0 := hacc.fr
          clear hval hj2 hpp
          cases hh : holeB v with
          | true =>
            have HH := Lib.hid (fun W => l05Hole_of v true hh W)
            have HI : Hid (Is 3212836864 (halfF wn bs j k)) := Lib.hid (by rw [HVAL.out]; unfold halfOf; rw [if_pos hh]; exact mone_is)
            clear hh
            go_wp2_with (first | (go_at_call 72; refine (HH.out _).mono ?_; rintro e w' ⟨rfl, rfl⟩) | (at_builtin; refine Hid.out ?_))
            refine Lib.hid ?_
            obtain ⟨r, hr⟩ : ∃ r, r = 3212836864 := ⟨_, rfl⟩
            rw [← hr] at HI ⊢
            clear hr
            refine wl_at (X := fun w' => Ext wr w' ∧ w'.cell? ⟨wr.heap.size, 0, none⟩ = some (fl r)) ?_ ?_
            · refine ⟨?_, ?_⟩
              · repeat (first | with_reducible exact Ext.refl _ | (with_reducible refine Ext.drewN ?_ _) | (with_reducible refine Ext.alloc ?_ _))
              · first | exact cell_fresh0 _ _ _ | exact cell_fresh _ _ _ _
            rintro Z ⟨hZ, hcell⟩
            have hhdr := hacc.hdr
            have hlen := hacc.len
            rw [cells_length] at hlen
            refine wpList_append_own _ rfl _ _ _ rfl (w1.heap.size + 1) 37 i0 (.float .f32 0) 1 4 Try.underlying22 hi hz0 hz1 hz2 rfl (by omega) (.slice A b.length c') b.length (b.map fl) (by rfl) (hacc.own.ext hZ) ⟨wr.heap.size, 0, none⟩ 1 1 [fl r] (by rfl) rfl (one_new hcell) (one_word r) (by unfold maxLen; omega) (by omega) (by have := hZ.size; have := lt_of_cell hhdr; have := lt_of_cell hcell; have := hacc.ext.size; omega) ?_
            intro v' w2 ho2 hg2 _
            have hrow := (hacc.own.ext hZ).row
            have hfr := hacc.fr
            obtain ⟨A', c2, b', rfl, hacc', hold, holdf⟩ := hacc.push hZ (by omega) (by omega) ho2 hg2 HI.out
            rw [← cells_step (halfF wn bs) a k j hltj] at hacc'
            have hhdr2 : w2.cell? ⟨w1.heap.size, 2, none⟩ = some (.slice A b.length c') := hg2.cell (cell_ext hhdr hZ) (fun he => by have := hrow w1.heap.size he.symm; omega)
            have hfr2 : w2.frozen? ⟨w1.heap.size, 2, none⟩ = false := (World.frozen?_of_block (a := ⟨w1.heap.size, 2, none⟩) (hg2.block _ (lt_of_cell (cell_ext hhdr hZ)) (fun he => by have := hrow w1.heap.size he.symm; omega))).trans ((hZ.marks _ _ (by rw [hhdr]; rfl)).trans hfr)
            have n0 := hold _ _ _ o0 (by omega) (by omega)
            have n1 := hold _ _ _ o1 (by omega) (by omega)
            clear hold holdf hrow hhdr hfr ho2 hg2 hacc o0 o1 hcell hZ
            go_wp2
            go_roundw
            case rel => exact ⟨j + 1, A', c2, b', by omega, by go_num, hacc', n0, n1⟩
            case measure => simp [intOf]; omega
          | false =>
            have HH := Lib.hid (fun W => l05Hole_of v false hh W)
            have HI : ∀ Q, Hid (Is (flR .mul Q 1056964608 v) (halfF wn bs j k)) := fun Q => Lib.hid (by rw [HVAL.out]; unfold halfOf; rw [if_neg (by rw [hh]; simp)]; exact flR_is _ _ _ _)
            clear hh
            go_wp2_with (first | (go_at_call 72; refine (HH.out _).mono ?_; rintro e w' ⟨rfl, rfl⟩) | (at_builtin; refine Hid.out ?_))
            refine Lib.hid ?_
            generalize hr : flR BinOp.mul _ 1056964608 v = r
            replace HI : Hid (Is r (halfF wn bs j k)) := Lib.hid (by rw [← hr]; exact (HI _).out)
            clear hr
            refine wl_at (X := fun w' => Ext wr w' ∧ w'.cell? ⟨wr.heap.size, 0, none⟩ = some (fl r)) ?_ ?_
            · refine ⟨?_, ?_⟩
              · repeat (first | with_reducible exact Ext.refl _ | (with_reducible refine Ext.drewN ?_ _) | (with_reducible refine Ext.alloc ?_ _))
              · first | exact cell_fresh0 _ _ _ | exact cell_fresh _ _ _ _
            rintro Z ⟨hZ, hcell⟩
            have hhdr := hacc.hdr
            have hlen := hacc.len
            rw [cells_length] at hlen
            refine wpList_append_own _ rfl _ _ _ rfl (w1.heap.size + 1) 37 i0 (.float .f32 0) 1 4 Try.underlying22 hi hz0 hz1 hz2 rfl (by omega) (.slice A b.length c') b.length (b.map fl) (by rfl) (hacc.own.ext hZ) ⟨wr.heap.size, 0, none⟩ 1 1 [fl r] (by rfl) rfl (one_new hcell) (one_word r) (by unfold maxLen; omega) (by omega) (by have := hZ.size; have := lt_of_cell hhdr; have := lt_of_cell hcell; have := hacc.ext.size; omega) ?_
            intro v' w2 ho2 hg2 _
            have hrow := (hacc.own.ext hZ).row
            have hfr := hacc.fr
            obtain ⟨A', c2, b', rfl, hacc', hold, holdf⟩ := hacc.push hZ (by omega) (by omega) ho2 hg2 HI.out
            rw [← cells_step (halfF wn bs) a k j hltj] at hacc'
            have hhdr2 : w2.cell? ⟨w1.heap.size, 2, none⟩ = some (.slice A b.length c') := hg2.cell (cell_ext hhdr hZ) (fun he => by have := hrow w1.heap.size he.symm; omega)
            have hfr2 : w2.frozen? ⟨w1.heap.size, 2, none⟩ = false := (World.frozen?_of_block (a := ⟨w1.heap.size, 2, none⟩) (hg2.block _ (lt_of_cell (cell_ext hhdr hZ)) (fun he => by have := hrow w1.heap.size he.symm; omega))).trans ((hZ.marks _ _ (by rw [hhdr]; rfl)).trans hfr)
            have n0 := hold _ _ _ o0 (by omega) (by omega)
            have n1 := hold _ _ _ o1 (by omega) (by omega)
            clear hold holdf hrow hhdr hfr ho2 hg2 hacc o0 o1 hcell hZ
            go_wp2
            go_roundw
            case rel => exact ⟨j + 1, A', c2, b', by omega, by go_num, hacc', n0, n1⟩
            case measure => simp [intOf]; omega
        · have e1 : j = a := by omega
          subst e1
          rw [cells_row] at hacc
          go_wp2
          go_roundw
          case rel => exact ⟨k + 1, A, c', b, by omega, by go_num, hacc, o0, o1⟩
          case measure => simp [intOf]; omega
    · have e1 : k = b' := by omega
      subst e1
      rw [Nat.mul_comm] at hacc
      have hhdr := hacc.hdr
      have ⟨c0, c1, c2, f0, f1, f2⟩ := hr1.ext hacc.ext
      go_wp2
      refine bodyPost_ret (v := .tuple #[.agg #[.int .i64 a, .int .i64 k, .slice A b.length c'], .bool true]) (by simp [results, Try.results30, go_sem, *]) rfl ⟨A, c', b, rfl, ?_, hacc.like, ?_⟩
      · refine OwnF.weaken (base := w1.heap.size + 1) ?_ (by omega)
        repeat (first | (with_reducible exact hacc.own) | (with_reducible refine OwnF.set_below ?_ (by dsimp only; omega) _))
      · repeat (first | (with_reducible exact hE.trans hacc.ext) | (with_reducible refine Ext.setCell ?_ (by dsimp only; omega) _))
theorem lawHalveMap_any (W : World) (z0 z1 : Int) (_ : -9223372036854775808 ≤ z0 ∧ z0 ≤ 9223372036854775807) (_ : -9223372036854775808 ≤ z1 ∧ z1 ≤ 9223372036854775807) (A : Option Addr) (n m : Nat) (bs : List Nat) (hc : n ≤ m) (hm : m ≤ maxLen) (hr : Reads W A n bs) (hw : Words bs) :
    Calls Try.prog 6 #[.agg #[.int .i64 z0, .int .i64 z1, .slice A n m]] W fun e W' => e = .returned (.bool true) ∧ Ext W W' := by
  have hn : n ≤ maxLen := Nat.le_trans hc hm
  by_cases hv : VMap z0 z1 n
  · obtain ⟨wn, rfl⟩ := Int.eq_ofNat_of_zero_le (show 0 ≤ z0 by have := hv.1.1; omega)
    obtain ⟨hn', rfl⟩ := Int.eq_ofNat_of_zero_le (show 0 ≤ z1 by have := hv.1.2.2.1; omega)
    obtain ⟨hnn, h0, hn2⟩ := map_n hv
    have h1 : wn ≤ 24 := by have := hv.1.2.1; omega
    have h2 : hn' ≤ 24 := by have := hv.1.2.2.2.1; omega
    have h3 : (wn + 1) / 2 * ((hn' + 1) / 2) ≤ 24 * 24 := Nat.mul_le_mul (by omega) (by omega)
    refine lawHalveMap_core W wn hn' A n m bs hn hr (((wn + 1) / 2 : Nat) : Int) (((hn' + 1) / 2 : Nat) : Int) (cells (halfF wn bs) ((wn + 1) / 2) ((wn + 1) / 2 * ((hn' + 1) / 2))) (by rw [cells_length]; omega) true ?_ ?_
    · intro w D hd
      obtain ⟨gb, off, rfl, hl⟩ := hd.2 (by omega)
      exact specHalveMap_yes wn hn' gb off n n bs w hl hd.1 hw (Nat.le_refl _) hn hv
    · intro w D hd
      obtain ⟨gb, off, rfl, hl⟩ := hd.2 (by omega)
      exact implHalveMap_yes wn hn' gb off n n bs w hl hd.1 hw (Nat.le_refl _) hn hv
  · exact lawHalveMap_core W z0 z1 A n m bs hn hr 0 0 [] (by simp) false (fun w D hd => specHalveMap_no z0 z1 D n n hn hv w) (fun w D hd => implHalveMap_no z0 z1 D n n hn hv w)
end Go.Proofs.Ytcekofioiofjbaa
