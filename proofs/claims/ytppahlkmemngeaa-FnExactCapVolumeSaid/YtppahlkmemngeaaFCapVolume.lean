/- The law on CapVolume holds. -/
import Derived.Test.YtppahlkmemngeaaSpecV
import Derived.Test.YtppahlkmemngeaaCCapVolume
namespace Go.Proofs.Ytppahlkmemngeaa
open Go.RowKit
set_option linter.unusedVariables false

set_option maxHeartbeats 4000000 in
set_option maxRecDepth 8000 in
theorem specCapVolume_yes (wn hn dn gb off n c : Nat) (bs : List Nat) (p P : Nat) (hp : Is p P) (U : World) (hl : Lies U gb off bs) (hlen : bs.length = n) (hwd : Words bs) (hnc : n ≤ c) (hcm : c ≤ maxLen) (hv : VVol wn hn dn n) :
    Calls Try.prog 22 #[.agg #[.int .i64 wn, .int .i64 hn, .int .i64 dn, .slice (some ⟨gb, off, none⟩) n c], .float .f32 p] U fun e U' => ∃ A c' b, e = .returned (.tuple #[.agg #[.int .i64 wn, .int .i64 hn, .int .i64 dn, .slice A b.length c'], .bool true]) ∧ OwnF U' U.heap.size 25 (.slice A b.length c') b ∧ b.map nrm = (List.range n).map (fun i => if gtF (bs.getD i 0) P = true then P else nrm (bs.getD i 0)) ∧ Ext U U' := by
  obtain ⟨hnn0, h0, hn2⟩ := vol_n hv
  clear hnn0
  have hbl : gb < U.heap.size := hl.lt (by omega)
  skip
  have HV := Lib.hid hv
  have HLEN := Lib.hid hlen
  have HWD := Lib.hid hwd
  skip
  skip
  clear hv hlen hwd
  have hcn := Nat.le_trans hnc hcm
  skip
  unfold maxLen at hcm
  go_enter Try.func22, Try.ntmps22
  go_wp2_with fail
  refine calls_at (X := fun w' => Ext U w' ∧ Box4 w' U.heap.size (.int .i64 wn) (.int .i64 hn) (.int .i64 dn) (.slice (some ⟨gb, off, none⟩) n c) ∧ Res4 w' (U.heap.size + 1) ∧ U.heap.size + 1 + 1 ≤ w'.heap.size) ⟨((Ext.refl _).alloc _).alloc _, ⟨by simp [go_sem], by simp [go_sem], by simp [go_sem], by simp [go_sem]⟩, ⟨by simp [go_sem], by simp [go_sem], by simp [go_sem], by simp [go_sem], by simp [go_sem], by simp [go_sem], by simp [go_sem], by simp [go_sem]⟩, by simp⟩ ?_
  rintro w0 ⟨hx0, hb0, hr0, hs0⟩
  refine (l03Is_yes _ wn hn dn _ n c _ hcn hb0.1 hb0.2.1 hb0.2.2.1 hb0.2.2.2 HV.out).mono ?_
  rintro e w1 ⟨rfl, hx⟩
  have hb1 := hb0.ext hx
  skip
  have hr1 := hr0.ext hx
  have hE := hx0.trans hx
  have hs1 := Nat.le_trans hs0 hx.size
  have hl1 := hl.ext hE
  skip
  clear hx hx0 hb0 hr0 hs0 hl
  go_wp2_with fail
  refine (l03Own_any U.heap.size wn hn dn gb off n c bs w1 hl1 HLEN.out hb1 h0 hn2).mono ?_
  rintro e w2 ⟨H, cH, rfl, hO, hx⟩
  have hH := hO.ge
  replace hE := hE.trans hx
  have hs2 := Nat.le_trans hs1 hx.size
  replace hb1 := hb1.ext hx
  skip
  replace hr1 := hr1.ext hx
  replace hl1 := hl1.ext hx
  skip
  clear hx
  go_wp2_with fail
  go_loopw [15] (fun i wr => ∃ k : Nat, k ≤ n ∧ i = .int .i64 k ∧ Fil U wr w1.heap.size 25 H n cH (bs) k (fun i => if gtF (bs.getD i 0) P = true then P else nrm (bs.getD i 0)) ∧ Box4 wr U.heap.size (.int .i64 wn) (.int .i64 hn) (.int .i64 dn) (.slice (some ⟨gb, off, none⟩) n c) ∧ Lies wr gb off bs ∧ Res4 wr (U.heap.size + 1) ∧ Box4 wr w2.heap.size (.int .i64 wn) (.int .i64 hn) (.int .i64 dn) (.slice (some ⟨H, 0, none⟩) n cH)) (fun i _ => n - (intOf i).toNat)
  case atStart =>
    refine ⟨0, Nat.zero_le _, rfl, Fil.start (hO.ext ?e) (hE.trans ?e), hb1.ext ?e, hl1.ext ?e, hr1.ext ?e, ⟨by simp [go_sem], by simp [go_sem], by simp [go_sem], by simp [go_sem]⟩⟩
    case e => repeat (first | with_reducible exact Ext.refl _ | (with_reducible refine Ext.setCell ?_ (by simp; try omega) _) | (with_reducible refine Ext.alloc ?_ _))
  case round =>
    clear hO hE hb1 hr1 hl1
    obtain ⟨k, hk, rfl, hfil, hb, hl, hres, ho⟩ := hrel
    by_cases hlt : k < n
    · have hc1 := hl k (by have := HLEN.out; omega)
      have hw1 := wd_at HWD.out k
      skip
      skip
      have ⟨p0, p1, p2, p3⟩ := hb
      skip
      have ⟨o0, o1, o2, o3⟩ := ho
      have hk0 : (0 : Int) ≤ (k : Int) := by omega
      have hk1 : (k : Int) < (n : Int) := by omega
      have hch := hfil.cell hlt (Nat.le_refl _)
      have hcf := hfil.cool k
      obtain ⟨v, hv0⟩ : ∃ v, bs.getD k 0 = v := ⟨_, rfl⟩
      have HV0 := Lib.hid hv0
      rw [hv0] at hch hw1
      clear hv0
      by_cases hgt : gtF v P = true
      · have hgt' : (FloatKind.f32.format.order v p == some .gt) = true := by rw [Is.cmp (nrm_word hw1) hp, fcmp_nrm_left]; exact hgt
        have hfil' := (hfil.later (Ext.refl _)).put hlt (by omega) (r := p) (by show Is p (if gtF (bs.getD k 0) P = true then P else nrm (bs.getD k 0)); rw [HV0.out, if_pos hgt]; exact hp)
        have hb' := (hb.ext (Ext.refl _)).set_ne (g := H) (i := k) (u := fl p) (by omega)
        have hl' := (hl.ext (Ext.refl _)).set_ne (g := H) (i := k) (u := fl p) (by omega)
        have hres' := (hres.ext (Ext.refl _)).set_ne (g := H) (i := k) (u := fl p) (by omega)
        have ho' := (ho.ext (Ext.refl _)).set_ne (g := H) (i := k) (u := fl p) (by omega)
        clear hb hl hres ho hfil hc1
        go_wp2
        go_roundw
        case rel => exact ⟨k + 1, by omega, by go_num, hfil', hb', hl', hres', ho'⟩
        case measure => simp [intOf]; omega
      · have hgt' : (FloatKind.f32.format.order v p == some .gt) = false := by rw [Is.cmp (nrm_word hw1) hp, fcmp_nrm_left]; simpa [gtF] using hgt
        have hfil' := hfil.keep hlt (by show nrm (bs.getD k 0) = (if gtF (bs.getD k 0) P = true then P else nrm (bs.getD k 0)); rw [HV0.out, if_neg hgt])
        clear hfil
        go_wp2
        go_roundw
        case rel => exact ⟨k + 1, by omega, by go_num, hfil', hb, hl, hres, ho⟩
        case measure => simp [intOf]; omega
    · have e1 : k = n := by omega
      subst e1
      obtain ⟨b, hbl3, hb1, hb2⟩ := hfil.done
      have hE := hfil.ext
      have ⟨o0, o1, o2, o3⟩ := ho
      have ⟨p0, p1, p2, p3⟩ := hb
      have ⟨c0, c1, c2, c3, f0, f1, f2, f3⟩ := hres
      clear hb hl hres ho hfil
      have hbb := hbl3
      subst hbb
      go_wp2
      refine bodyPost_ret (v := .tuple #[.agg #[.int .i64 wn, .int .i64 hn, .int .i64 dn, .slice (some ⟨H, 0, none⟩) b.length cH], .bool true]) (by simp [results, Try.results22, go_sem, *]) rfl ⟨_, cH, b, rfl, ?_, hb2, ?_⟩
      · refine OwnF.weaken (base := w1.heap.size) ?_ (by omega)
        repeat (first | (with_reducible exact hb1) | (with_reducible refine OwnF.set_below ?_ (by dsimp only; omega) _))
      · repeat (first | (with_reducible exact hE) | (with_reducible refine Ext.setCell ?_ (by dsimp only; omega) _))
theorem specCapVolume_no (z0 z1 z2 : Int) (A0 : Option Addr) (n0 m0 : Nat) (p : Nat) (hn0 : n0 ≤ maxLen) (hv : ¬ VVol z0 z1 z2 n0) (U : World) :
    Calls Try.prog 22 #[.agg #[.int .i64 z0, .int .i64 z1, .int .i64 z2, .slice A0 n0 m0], .float .f32 p] U fun e U' => ∃ A c' b, e = .returned (.tuple #[.agg #[.int .i64 0, .int .i64 0, .int .i64 0, .slice A b.length c'], .bool false]) ∧ OwnF U' U.heap.size 25 (.slice A b.length c') b ∧ b.map nrm = [] ∧ Ext U U' := by
  have HV := Lib.hid hv
  clear hv
  go_enter Try.func22, Try.ntmps22
  go_wp2_with fail
  refine calls_at (X := fun w' => Ext U w' ∧ Box4 w' U.heap.size (.int .i64 z0) (.int .i64 z1) (.int .i64 z2) (.slice A0 n0 m0) ∧ Res4 w' (U.heap.size + 1) ∧ U.heap.size + 1 + 1 ≤ w'.heap.size) ⟨((Ext.refl _).alloc _).alloc _, ⟨by simp [go_sem], by simp [go_sem], by simp [go_sem], by simp [go_sem]⟩, ⟨by simp [go_sem], by simp [go_sem], by simp [go_sem], by simp [go_sem], by simp [go_sem], by simp [go_sem], by simp [go_sem], by simp [go_sem]⟩, by simp⟩ ?_
  rintro w0 ⟨hx0, hb0, hr0, hs0⟩
  refine (l03Is_not _ _ _ _ A0 n0 m0 _ hn0 hb0.1 hb0.2.1 hb0.2.2.1 hb0.2.2.2 HV.out).mono ?_
  rintro e w1 ⟨rfl, hx⟩
  have ⟨c0, c1, c2, c3, f0, f1, f2, f3⟩ := hr0.ext hx
  have hE := hx0.trans hx
  clear hx hx0 hb0 hr0
  go_wp2
  refine bodyPost_ret (v := .tuple #[.agg #[.int .i64 0, .int .i64 0, .int .i64 0, .slice none 0 0], .bool false]) (by simp [results, Try.results22, go_sem, *]) rfl ⟨none, 0, [], rfl, OwnF.nil _ _ _, rfl, ?_⟩
  repeat (first | (with_reducible exact hE) | (with_reducible refine Ext.setCell ?_ (by dsimp only; omega) _))
theorem implCapVolume_of (z0 z1 z2 : Int) (A0 : Option Addr) (n0 m0 : Nat) (p : Nat) (o0 o1 o2 : Int) (ok : Bool) (L : List Nat) (U : World)
    (hcall : ∀ w0, Ext U w0 → Box4 w0 U.heap.size (.int .i64 z0) (.int .i64 z1) (.int .i64 z2) (.slice A0 n0 m0) → w0.cell? ⟨U.heap.size + 1, 0, none⟩ = some (.float .f32 p) → Calls Try.prog 54 #[.agg #[.int .i64 z0, .int .i64 z1, .int .i64 z2, .slice A0 n0 m0], .func (.func 61) #[] #[.pointer (some ⟨U.heap.size, 0, none⟩), .pointer (some ⟨U.heap.size + 1, 0, none⟩)]] w0 fun e U' => ∃ A c' b, e = .returned (.tuple #[.agg #[.int .i64 o0, .int .i64 o1, .int .i64 o2, .slice A b.length c'], .bool ok]) ∧ OwnF U' w0.heap.size 25 (.slice A b.length c') b ∧ b.map nrm = L ∧ Ext w0 U') :
    Calls Try.prog 23 #[.agg #[.int .i64 z0, .int .i64 z1, .int .i64 z2, .slice A0 n0 m0], .float .f32 p] U fun e U' => ∃ A c' b, e = .returned (.tuple #[.agg #[.int .i64 o0, .int .i64 o1, .int .i64 o2, .slice A b.length c'], .bool ok]) ∧ OwnF U' U.heap.size 25 (.slice A b.length c') b ∧ b.map nrm = L ∧ Ext U U' := by
  have HK := Lib.hid hcall
  clear hcall
  go_enter Try.func23, Try.ntmps23
  go_wp2_with fail
  refine calls_at (X := fun w' => Ext U w' ∧ Box4 w' U.heap.size (.int .i64 z0) (.int .i64 z1) (.int .i64 z2) (.slice A0 n0 m0) ∧ w'.cell? ⟨U.heap.size + 1, 0, none⟩ = some (.float .f32 p) ∧ Res4 w' (U.heap.size + 1 + 1) ∧ U.heap.size + 1 + 1 + 1 ≤ w'.heap.size) ⟨(((Ext.refl _).alloc _).alloc _).alloc _, ⟨by simp [go_sem], by simp [go_sem], by simp [go_sem], by simp [go_sem]⟩, by simp [go_sem], ⟨by simp [go_sem], by simp [go_sem], by simp [go_sem], by simp [go_sem], by simp [go_sem], by simp [go_sem], by simp [go_sem], by simp [go_sem]⟩, by simp⟩ ?_
  rintro w0 ⟨hx0, hb0, hp0, hr0, hs0⟩
  refine (HK.out w0 hx0 hb0 hp0).mono ?_
  rintro e w1 ⟨A, c', b, rfl, ho, hm, hx⟩
  have ⟨c0, c1, c2, c3, f0, f1, f2, f3⟩ := hr0.ext hx
  have hE2 := hx0.trans hx
  clear hx hx0 hb0 hr0 hp0
  go_wp2
  refine bodyPost_ret (v := .tuple #[.agg #[.int .i64 o0, .int .i64 o1, .int .i64 o2, .slice A b.length c'], .bool ok]) (by simp [results, Try.results23, go_sem, *]) rfl ⟨A, c', b, rfl, ?_, hm, ?_⟩
  · refine OwnF.weaken (base := w0.heap.size) ?_ (by omega)
    repeat (first | (with_reducible exact ho) | (with_reducible refine OwnF.set_below ?_ (by dsimp only; omega) _))
  · repeat (first | (with_reducible exact hE2) | (with_reducible refine Ext.setCell ?_ (by dsimp only; omega) _))
set_option maxRecDepth 8000 in
theorem lawCapVolume_any (W : World) (z0 z1 z2 : Int) (_ : -9223372036854775808 ≤ z0 ∧ z0 ≤ 9223372036854775807) (_ : -9223372036854775808 ≤ z1 ∧ z1 ≤ 9223372036854775807) (_ : -9223372036854775808 ≤ z2 ∧ z2 ≤ 9223372036854775807) (A : Option Addr) (n m : Nat) (bs : List Nat) (hc : n ≤ m) (hm : m ≤ maxLen) (hr : Reads W A n bs) (hw : Words bs) (p : Nat) (hpw : p < 4294967296) :
    Calls Try.prog 4 #[.agg #[.int .i64 z0, .int .i64 z1, .int .i64 z2, .slice A n m], .float .f32 p] W fun e W' => e = .returned (.bool true) ∧ Ext W W' := by
  have hn : n ≤ maxLen := Nat.le_trans hc hm
  by_cases hv : VVol z0 z1 z2 n
  · obtain ⟨wn, rfl⟩ := Int.eq_ofNat_of_zero_le (show 0 ≤ z0 by have := hv.1.1; omega)
    obtain ⟨hn', rfl⟩ := Int.eq_ofNat_of_zero_le (show 0 ≤ z1 by have := hv.1.2.2.1; omega)
    obtain ⟨dn, rfl⟩ := Int.eq_ofNat_of_zero_le (show 0 ≤ z2 by have := hv.2.1; omega)
    obtain ⟨hnn, h0, hn2⟩ := vol_n hv
    refine lawCapVolume_core W wn hn' dn A n m bs hn hr p wn hn' dn ((List.range n).map (fun i => if gtF (bs.getD i 0) (nrm p) = true then (nrm p) else nrm (bs.getD i 0))) (by simp; omega) true ?_ ?_
    · intro w D hd
      obtain ⟨gb, off, rfl, hl⟩ := hd.2 (by omega)
      exact specCapVolume_yes wn hn' dn gb off n n bs p (nrm p) ⟨hpw, rfl⟩ w hl hd.1 hw (Nat.le_refl _) hn hv
    · intro w D hd
      obtain ⟨gb, off, rfl, hl⟩ := hd.2 (by omega)
      refine implCapVolume_of wn hn' dn _ n n p wn hn' dn true _ w (fun w0 hx0 hb0 hp0 => ?_)
      refine (revolume_yes wn hn' dn _ n n hn hv 61 #[.pointer (some ⟨w.heap.size, 0, none⟩), .pointer (some ⟨w.heap.size + 1, 0, none⟩)] (fun x y e => if gtF (bs.getD (cellN wn (x : Int) (y : Int) * dn + e) 0) (nrm p) = true then (nrm p) else nrm (bs.getD (cellN wn (x : Int) (y : Int) * dn + e) 0)) w0 (by kernel_rfl) (fun x y e U' h1 h2 h3 h4 => cap1 wn hn' dn gb off n n bs _ _ p (nrm p) ⟨hpw, rfl⟩ x y e U' (hb0.ext h1) ((hl.ext hx0).ext h1) hd.1 hw (Nat.le_refl _) hn hv (cell_ext hp0 h1) h2 h3 h4)).mono ?_
      rintro e w1 ⟨A1, c1, b1, rfl, ho, hm1, hx1⟩
      refine ⟨A1, c1, b1, rfl, ho, hm1.trans ?_, hx1⟩
      rw [hnn]
      exact cells3_flat (fun x y e h1 h2 h3 => by simp only [cellN_nat])
  · exact lawCapVolume_core W z0 z1 z2 A n m bs hn hr p 0 0 0 [] (by simp) false (fun w D hd => specCapVolume_no z0 z1 z2 D n n p hn hv w) (fun w D hd => implCapVolume_of z0 z1 z2 D n n p 0 0 0 false [] w (fun w0 hx0 hb0 hp0 => revolume_no z0 z1 z2 D n n hn hv _ _ w0))
end Go.Proofs.Ytppahlkmemngeaa
