/- The law on ShallowVolume holds. -/
import Derived.Test.YtgpobhpcbgenoaaPics
import Derived.Test.YtgpobhpcbgenoaaSlice
import Derived.Test.YtgpobhpcbgenoaaCShallowVolume
namespace Go.Proofs.Ytgpobhpcbgenoaa
open Go.RowKit
set_option linter.unusedVariables false

/-- The words of the shallower volume. -/
def shF (wn dn : Nat) (bs : List Nat) (x y e : Nat) : Nat := nrm (bs.getD (cellN (wn : Int) (x : Int) (y : Int) * dn + e) 0)
theorem implShallow_no1 (z0 z1 z2 : Int) (A0 : Option Addr) (n0 m0 : Nat) (ee : Int) (hn0 : n0 ≤ maxLen) (hv : ¬ VVol z0 z1 z2 n0) (U : World) :
    Calls Try.prog 45 #[.agg #[.int .i64 z0, .int .i64 z1, .int .i64 z2, .slice A0 n0 m0], .int .i64 ee] U fun e U' => ∃ A c' b, e = .returned (.tuple #[.agg #[.int .i64 0, .int .i64 0, .int .i64 0, .slice A b.length c'], .bool false]) ∧ OwnF U' U.heap.size 25 (.slice A b.length c') b ∧ b.map nrm = [] ∧ Ext U U' := by
  have HV := Lib.hid hv
  clear hv
  go_enter Try.func45, Try.ntmps45
  go_wp2_with fail
  refine calls_at (X := fun w' => Ext U w' ∧ Box4 w' U.heap.size (.int .i64 z0) (.int .i64 z1) (.int .i64 z2) (.slice A0 n0 m0) ∧ Res4 w' (U.heap.size + 1) ∧ U.heap.size + 1 + 1 ≤ w'.heap.size) ⟨((Ext.refl _).alloc _).alloc _, ⟨by simp [go_sem], by simp [go_sem], by simp [go_sem], by simp [go_sem]⟩, ⟨by simp [go_sem], by simp [go_sem], by simp [go_sem], by simp [go_sem], by simp [go_sem], by simp [go_sem], by simp [go_sem], by simp [go_sem]⟩, by simp⟩ ?_
  rintro w0 ⟨hx0, hb0, hr0, hs0⟩
  refine (ValidVolume_not _ _ _ A0 n0 m0 _ hn0 HV.out).mono ?_
  rintro e w1 ⟨rfl, hx⟩
  have ⟨c0, c1, c2, c3, f0, f1, f2, f3⟩ := hr0.ext hx
  have hE := hx0.trans hx
  clear hx hx0 hb0 hr0
  go_wp2
  refine bodyPost_ret (v := .tuple #[.agg #[.int .i64 0, .int .i64 0, .int .i64 0, .slice none 0 0], .bool false]) (by simp [results, Try.results45, go_sem, *]) rfl ⟨none, 0, [], rfl, OwnF.nil _ _ _, rfl, ?_⟩
  repeat (first | (with_reducible exact hE) | (with_reducible refine Ext.setCell ?_ (by dsimp only; omega) _))
theorem implShallow_no2 (z0 z1 z2 : Int) (A0 : Option Addr) (n0 m0 : Nat) (ee : Int) (hn0 : n0 ≤ maxLen) (hv : VVol z0 z1 z2 n0) (he : ee < 1 ∨ z2 < ee) (U : World) :
    Calls Try.prog 45 #[.agg #[.int .i64 z0, .int .i64 z1, .int .i64 z2, .slice A0 n0 m0], .int .i64 ee] U fun e U' => ∃ A c' b, e = .returned (.tuple #[.agg #[.int .i64 0, .int .i64 0, .int .i64 0, .slice A b.length c'], .bool false]) ∧ OwnF U' U.heap.size 25 (.slice A b.length c') b ∧ b.map nrm = [] ∧ Ext U U' := by
  have HV := Lib.hid hv
  have HE := Lib.hid he
  clear hv he
  go_enter Try.func45, Try.ntmps45
  go_wp2_with fail
  refine calls_at (X := fun w' => Ext U w' ∧ Box4 w' U.heap.size (.int .i64 z0) (.int .i64 z1) (.int .i64 z2) (.slice A0 n0 m0) ∧ Res4 w' (U.heap.size + 1) ∧ U.heap.size + 1 + 1 ≤ w'.heap.size) ⟨((Ext.refl _).alloc _).alloc _, ⟨by simp [go_sem], by simp [go_sem], by simp [go_sem], by simp [go_sem]⟩, ⟨by simp [go_sem], by simp [go_sem], by simp [go_sem], by simp [go_sem], by simp [go_sem], by simp [go_sem], by simp [go_sem], by simp [go_sem]⟩, by simp⟩ ?_
  rintro w0 ⟨hx0, hb0, hr0, hs0⟩
  refine (ValidVolume_yes _ _ _ A0 n0 m0 _ hn0 HV.out).mono ?_
  rintro e w1 ⟨rfl, hx⟩
  have ⟨c0, c1, c2, c3, f0, f1, f2, f3⟩ := hr0.ext hx
  have ⟨p0, p1, p2, p3⟩ := hb0.ext hx
  have hE := hx0.trans hx
  clear hx hx0 hb0 hr0
  go_wp2_with (go_at_call 67; with_reducible refine (implIn_no ee 1 z2 _ HE.out).mono ?_; rintro e w' ⟨rfl, rfl⟩)
  refine bodyPost_ret (v := .tuple #[.agg #[.int .i64 0, .int .i64 0, .int .i64 0, .slice none 0 0], .bool false]) (by simp [results, Try.results45, go_sem, *]) rfl ⟨none, 0, [], rfl, OwnF.nil _ _ _, rfl, ?_⟩
  repeat (first | (with_reducible exact hE) | (with_reducible refine Ext.setCell ?_ (by dsimp only; omega) _))
theorem implShallow_no (z0 z1 z2 : Int) (A0 : Option Addr) (n0 m0 : Nat) (ee : Int) (hn0 : n0 ≤ maxLen) (hv : ¬ (VVol z0 z1 z2 n0 ∧ 1 ≤ ee ∧ ee ≤ z2)) (U : World) :
    Calls Try.prog 45 #[.agg #[.int .i64 z0, .int .i64 z1, .int .i64 z2, .slice A0 n0 m0], .int .i64 ee] U fun e U' => ∃ A c' b, e = .returned (.tuple #[.agg #[.int .i64 0, .int .i64 0, .int .i64 0, .slice A b.length c'], .bool false]) ∧ OwnF U' U.heap.size 25 (.slice A b.length c') b ∧ b.map nrm = [] ∧ Ext U U' := by
  by_cases h : VVol z0 z1 z2 n0
  · exact implShallow_no2 z0 z1 z2 A0 n0 m0 ee hn0 h (by
      by_cases h2 : ee < 1
      · exact .inl h2
      · exact .inr (by
          by_cases h3 : z2 < ee
          · exact h3
          · exact absurd ⟨h, by omega, by omega⟩ hv)) U
  · exact implShallow_no1 z0 z1 z2 A0 n0 m0 ee hn0 h U
theorem specShallow_no1 (z0 z1 z2 : Int) (A0 : Option Addr) (n0 m0 : Nat) (ee : Int) (hn0 : n0 ≤ maxLen) (hv : ¬ VVol z0 z1 z2 n0) (U : World) :
    Calls Try.prog 44 #[.agg #[.int .i64 z0, .int .i64 z1, .int .i64 z2, .slice A0 n0 m0], .int .i64 ee] U fun e U' => ∃ A c' b, e = .returned (.tuple #[.agg #[.int .i64 0, .int .i64 0, .int .i64 0, .slice A b.length c'], .bool false]) ∧ OwnF U' U.heap.size 25 (.slice A b.length c') b ∧ b.map nrm = [] ∧ Ext U U' := by
  have HV := Lib.hid hv
  clear hv
  go_enter Try.func44, Try.ntmps44
  go_wp2_with fail
  refine calls_at (X := fun w' => Ext U w' ∧ Box4 w' U.heap.size (.int .i64 z0) (.int .i64 z1) (.int .i64 z2) (.slice A0 n0 m0) ∧ Res4 w' (U.heap.size + 1) ∧ U.heap.size + 1 + 1 ≤ w'.heap.size) ⟨((Ext.refl _).alloc _).alloc _, ⟨by simp [go_sem], by simp [go_sem], by simp [go_sem], by simp [go_sem]⟩, ⟨by simp [go_sem], by simp [go_sem], by simp [go_sem], by simp [go_sem], by simp [go_sem], by simp [go_sem], by simp [go_sem], by simp [go_sem]⟩, by simp⟩ ?_
  rintro w0 ⟨hx0, hb0, hr0, hs0⟩
  refine (l03Is_not _ _ _ _ A0 n0 m0 _ hn0 hb0.1 hb0.2.1 hb0.2.2.1 hb0.2.2.2 HV.out).mono ?_
  rintro e w1 ⟨rfl, hx⟩
  have ⟨c0, c1, c2, c3, f0, f1, f2, f3⟩ := hr0.ext hx
  have hE := hx0.trans hx
  clear hx hx0 hb0 hr0
  go_wp2
  refine bodyPost_ret (v := .tuple #[.agg #[.int .i64 0, .int .i64 0, .int .i64 0, .slice none 0 0], .bool false]) (by simp [results, Try.results44, go_sem, *]) rfl ⟨none, 0, [], rfl, OwnF.nil _ _ _, rfl, ?_⟩
  repeat (first | (with_reducible exact hE) | (with_reducible refine Ext.setCell ?_ (by dsimp only; omega) _))
theorem specShallow_no2 (z0 z1 z2 : Int) (A0 : Option Addr) (n0 m0 : Nat) (ee : Int) (hn0 : n0 ≤ maxLen) (hv : VVol z0 z1 z2 n0) (he : ee < 1 ∨ z2 < ee) (U : World) :
    Calls Try.prog 44 #[.agg #[.int .i64 z0, .int .i64 z1, .int .i64 z2, .slice A0 n0 m0], .int .i64 ee] U fun e U' => ∃ A c' b, e = .returned (.tuple #[.agg #[.int .i64 0, .int .i64 0, .int .i64 0, .slice A b.length c'], .bool false]) ∧ OwnF U' U.heap.size 25 (.slice A b.length c') b ∧ b.map nrm = [] ∧ Ext U U' := by
  have HV := Lib.hid hv
  have HE := Lib.hid he
  clear hv he
  go_enter Try.func44, Try.ntmps44
  go_wp2_with fail
  refine calls_at (X := fun w' => Ext U w' ∧ Box4 w' U.heap.size (.int .i64 z0) (.int .i64 z1) (.int .i64 z2) (.slice A0 n0 m0) ∧ Res4 w' (U.heap.size + 1) ∧ U.heap.size + 1 + 1 ≤ w'.heap.size) ⟨((Ext.refl _).alloc _).alloc _, ⟨by simp [go_sem], by simp [go_sem], by simp [go_sem], by simp [go_sem]⟩, ⟨by simp [go_sem], by simp [go_sem], by simp [go_sem], by simp [go_sem], by simp [go_sem], by simp [go_sem], by simp [go_sem], by simp [go_sem]⟩, by simp⟩ ?_
  rintro w0 ⟨hx0, hb0, hr0, hs0⟩
  refine (l03Is_yes _ _ _ _ A0 n0 m0 _ hn0 hb0.1 hb0.2.1 hb0.2.2.1 hb0.2.2.2 HV.out).mono ?_
  rintro e w1 ⟨rfl, hx⟩
  have ⟨c0, c1, c2, c3, f0, f1, f2, f3⟩ := hr0.ext hx
  have ⟨p0, p1, p2, p3⟩ := hb0.ext hx
  have hE := hx0.trans hx
  clear hx hx0 hb0 hr0
  go_wp2_with (go_at_call 63; with_reducible refine (l00In_no ee 1 z2 _ HE.out).mono ?_; rintro e w' ⟨rfl, rfl⟩)
  refine bodyPost_ret (v := .tuple #[.agg #[.int .i64 0, .int .i64 0, .int .i64 0, .slice none 0 0], .bool false]) (by simp [results, Try.results44, go_sem, *]) rfl ⟨none, 0, [], rfl, OwnF.nil _ _ _, rfl, ?_⟩
  repeat (first | (with_reducible exact hE) | (with_reducible refine Ext.setCell ?_ (by dsimp only; omega) _))
theorem specShallow_no (z0 z1 z2 : Int) (A0 : Option Addr) (n0 m0 : Nat) (ee : Int) (hn0 : n0 ≤ maxLen) (hv : ¬ (VVol z0 z1 z2 n0 ∧ 1 ≤ ee ∧ ee ≤ z2)) (U : World) :
    Calls Try.prog 44 #[.agg #[.int .i64 z0, .int .i64 z1, .int .i64 z2, .slice A0 n0 m0], .int .i64 ee] U fun e U' => ∃ A c' b, e = .returned (.tuple #[.agg #[.int .i64 0, .int .i64 0, .int .i64 0, .slice A b.length c'], .bool false]) ∧ OwnF U' U.heap.size 25 (.slice A b.length c') b ∧ b.map nrm = [] ∧ Ext U U' := by
  by_cases h : VVol z0 z1 z2 n0
  · exact specShallow_no2 z0 z1 z2 A0 n0 m0 ee hn0 h (by
      by_cases h2 : ee < 1
      · exact .inl h2
      · exact .inr (by
          by_cases h3 : z2 < ee
          · exact h3
          · exact absurd ⟨h, by omega, by omega⟩ hv)) U
  · exact specShallow_no1 z0 z1 z2 A0 n0 m0 ee hn0 h U
set_option maxHeartbeats 2000000 in
set_option maxRecDepth 8000 in
theorem implShallow_yes (wn hn dn gb off n c : Nat) (bs : List Nat) (sn : Nat) (U : World) (hl : Lies U gb off bs) (hlen : bs.length = n) (hwd : Words bs) (hnc : n ≤ c) (hcm : c ≤ maxLen) (hv : VVol wn hn dn n) (hs : 1 ≤ sn ∧ sn ≤ dn) :
    Calls Try.prog 45 #[.agg #[.int .i64 wn, .int .i64 hn, .int .i64 dn, .slice (some ⟨gb, off, none⟩) n c], .int .i64 sn] U fun e U' => ∃ A c' b, e = .returned (.tuple #[.agg #[.int .i64 wn, .int .i64 hn, .int .i64 sn, .slice A b.length c'], .bool true]) ∧ OwnF U' U.heap.size 25 (.slice A b.length c') b ∧ b.map nrm = cells3 (shF wn dn bs) wn sn (wn * hn * sn) ∧ Ext U U' := by
  have HV := Lib.hid hv
  have HE := Lib.hid (⟨by omega, by omega⟩ : (1 : Int) ≤ (sn : Int) ∧ (sn : Int) ≤ (dn : Int))
  have hcn := Nat.le_trans hnc hcm
  have hwh : wn * hn ≤ 256 := by
    have h1 := hv.1.2.2.2.2
    have h2 : ((wn * hn : Nat) : Int) = (wn : Int) * (hn : Int) := by simp
    omega
  have HK := Lib.hid (fun (w0 : World) (hx0 : Ext U w0) (hb0 : Box4 w0 U.heap.size (.int .i64 wn) (.int .i64 hn) (.int .i64 dn) (.slice (some ⟨gb, off, none⟩) n c)) => volumeOf_any wn hn sn hwh (by have := hv.2.2.1; omega) (by have := hv.1.2.1; omega) (by have := hv.1.2.2.2.1; omega) 95 #[.pointer (some ⟨U.heap.size, 0, none⟩)] (shF wn dn bs) w0 (by kernel_rfl)
    (fun x y e U' h1 h2 h3 h4 => shallow1 wn hn dn gb off n c bs _ x y e U' (hb0.ext h1) ((hl.ext hx0).ext h1) hlen hwd hnc hcm hv h2 h3 (by omega)))
  clear hv hl hlen hwd hnc hcm hs hwh
  go_enter Try.func45, Try.ntmps45
  go_wp2_with fail
  refine calls_at (X := fun w' => Ext U w' ∧ Box4 w' U.heap.size (.int .i64 wn) (.int .i64 hn) (.int .i64 dn) (.slice (some ⟨gb, off, none⟩) n c) ∧ Res4 w' (U.heap.size + 1) ∧ U.heap.size + 1 + 1 ≤ w'.heap.size) ⟨((Ext.refl _).alloc _).alloc _, ⟨by simp [go_sem], by simp [go_sem], by simp [go_sem], by simp [go_sem]⟩, ⟨by simp [go_sem], by simp [go_sem], by simp [go_sem], by simp [go_sem], by simp [go_sem], by simp [go_sem], by simp [go_sem], by simp [go_sem]⟩, by simp⟩ ?_
  rintro w0 ⟨hx0, hb0, hr0, hs0⟩
  refine (ValidVolume_yes _ _ _ _ n c _ hcn HV.out).mono ?_
  rintro e w1 ⟨rfl, hx⟩
  have hb1 := hb0.ext hx
  have hr1 := hr0.ext hx
  have hE := hx0.trans hx
  have hs1 := Nat.le_trans hs0 hx.size
  clear hx hx0 hb0 hr0 hs0
  have ⟨p0, p1, p2, p3⟩ := hb1
  go_wp2_with (go_at_call 67; with_reducible refine (implIn_yes (sn : Int) 1 (dn : Int) _ HE.out.1 HE.out.2).mono ?_; rintro e w' ⟨rfl, rfl⟩)
  clear p0 p1 p2 p3
  refine (HK.out _ hE hb1).mono ?_
  rintro e w2 ⟨A, c', b, rfl, ho, hm, hwd2, hx⟩
  have ⟨c0, c1, c2, c3, f0, f1, f2, f3⟩ := hr1.ext hx
  have hE2 := hE.trans hx
  clear hx hE hb1 hr1
  go_wp2
  refine bodyPost_ret (v := .tuple #[.agg #[.int .i64 wn, .int .i64 hn, .int .i64 sn, .slice A b.length c'], .bool true]) (by simp [results, Try.results45, go_sem, *]) rfl ⟨A, c', b, rfl, ?_, hm, ?_⟩
  · refine OwnF.weaken (base := w1.heap.size) ?_ (by omega)
    repeat (first | (with_reducible exact ho) | (with_reducible refine OwnF.set_below ?_ (by dsimp only; omega) _))
  · repeat (first | (with_reducible exact hE2) | (with_reducible refine Ext.setCell ?_ (by dsimp only; omega) _))
set_option maxHeartbeats 4000000 in
set_option maxRecDepth 8000 in
theorem specShallow_yes (wn hn dn gb off n c : Nat) (bs : List Nat) (sn : Nat) (U : World) (hl : Lies U gb off bs) (hlen : bs.length = n) (hwd : Words bs) (hnc : n ≤ c) (hcm : c ≤ maxLen) (hv : VVol wn hn dn n) (hs : 1 ≤ sn ∧ sn ≤ dn) :
    Calls Try.prog 44 #[.agg #[.int .i64 wn, .int .i64 hn, .int .i64 dn, .slice (some ⟨gb, off, none⟩) n c], .int .i64 sn] U fun e U' => ∃ A c' b, e = .returned (.tuple #[.agg #[.int .i64 wn, .int .i64 hn, .int .i64 sn, .slice A b.length c'], .bool true]) ∧ OwnF U' U.heap.size 25 (.slice A b.length c') b ∧ b.map nrm = stL (fun e => (List.range (wn * hn)).map (fun i => nrm (bs.getD (i * dn + e) 0))) sn (wn * hn * sn) ∧ Ext U U' := by
  obtain ⟨i0, hi, hz0, hz1, hz2⟩ := info_parts infoP
  have HV := Lib.hid hv
  have HE := Lib.hid (⟨by omega, by omega⟩ : (1 : Int) ≤ (sn : Int) ∧ (sn : Int) ≤ (dn : Int))
  have hd8 : dn ≤ 8 := by have := hv.2.2.1; omega
  have hcn := Nat.le_trans hnc hcm
  have hwh : 0 < wn * hn ∧ wn * hn ≤ 256 := by
    have h1 := hv.1.2.2.2.2
    have h2 : ((wn * hn : Nat) : Int) = (wn : Int) * (hn : Int) := by simp
    have h3 := Nat.mul_pos (show 0 < wn by have := hv.1.1; omega) (show 0 < hn by have := hv.1.2.2.1; omega)
    omega
  obtain ⟨N, hN⟩ : ∃ N, wn * hn = N := ⟨_, rfl⟩
  obtain ⟨L, hL⟩ : ∃ L : Nat → List Nat, L = fun e => (List.range N).map (fun i => nrm (bs.getD (i * dn + e) 0)) := ⟨_, rfl⟩
  have HK := Lib.hid (fun (w0 : World) (hx0 : Ext U w0) (hb0 : Box4 w0 U.heap.size (.int .i64 wn) (.int .i64 hn) (.int .i64 dn) (.slice (some ⟨gb, off, none⟩) n c)) (e : Nat) (he : e < dn) => l03Slice_any U.heap.size wn hn dn gb off n c bs e he w0 hb0 (hl.ext hx0) hlen hwd hnc hcm hv)
  have HLE := Lib.hid (fun (e : Nat) => congrFun hL e)
  rw [hN] at hwh HK ⊢
  rw [← hL]
  have HW := Lib.hid hwh
  have HS := Lib.hid hs
  clear hv hl hlen hwd hnc hcm hs hwh hL hN
  go_enter Try.func44, Try.ntmps44
  go_wp2_with fail
  refine calls_at (X := fun w' => Ext U w' ∧ Box4 w' U.heap.size (.int .i64 wn) (.int .i64 hn) (.int .i64 dn) (.slice (some ⟨gb, off, none⟩) n c) ∧ Res4 w' (U.heap.size + 1) ∧ U.heap.size + 1 + 1 ≤ w'.heap.size) ⟨((Ext.refl _).alloc _).alloc _, ⟨by simp [go_sem], by simp [go_sem], by simp [go_sem], by simp [go_sem]⟩, ⟨by simp [go_sem], by simp [go_sem], by simp [go_sem], by simp [go_sem], by simp [go_sem], by simp [go_sem], by simp [go_sem], by simp [go_sem]⟩, by simp⟩ ?_
  rintro w0 ⟨hx0, hb0, hr0, hs0⟩
  refine (l03Is_yes _ _ _ _ _ n c _ hcn hb0.1 hb0.2.1 hb0.2.2.1 hb0.2.2.2 HV.out).mono ?_
  rintro e w1 ⟨rfl, hx⟩
  have hb1 := hb0.ext hx
  have hr1 := hr0.ext hx
  have hE := hx0.trans hx
  have hs1 := Nat.le_trans hs0 hx.size
  clear hx hx0 hb0 hr0 hs0
  have ⟨p0, p1, p2, p3⟩ := hb1
  go_wp2_with (go_at_call 63; with_reducible refine (l00In_yes (sn : Int) 1 (dn : Int) _ HE.out.1 HE.out.2).mono ?_; rintro e w' ⟨rfl, rfl⟩)
  clear p0 p1 p2 p3
  go_loopw [6, 7] (fun sv kv wr => ∃ (k : Nat) (A : Option Addr) (c' : Nat), k ≤ sn ∧ kv = .int .i64 k ∧ sv = .slice A k c' ∧ OwnP wr w1.heap.size 58 25 (.slice A k c') wn hn N L k ∧ Ext w1 wr) (fun _ kv _ => sn - (intOf kv).toNat)
  case atStart => exact ⟨0, _, 0, Nat.zero_le _, rfl, rfl, OwnP.made w1 _ _ _ _ _ _, (Ext.refl _).alloc _⟩
  case round =>
    obtain ⟨k, A, c', hk, rfl, rfl, hown, hE1⟩ := hrel
    have ⟨s1, s2⟩ := HS.out
    by_cases hlt : k < sn
    · have HC := Lib.hid (HK.out wr (hE.trans hE1) (hb1.ext hE1) k (by omega))
      go_wp2_with fail
      refine HC.out.mono ?_
      rintro e w2 ⟨Ab, cb, b, rfl, hob, hbm, hx2⟩
      go_wp2_with (at_builtin; refine Hid.out ?_)
      refine Lib.hid ?_
      refine wlp_at (X := fun w' => Ext w2 w' ∧ w'.cell? ⟨w2.heap.size, 0, none⟩ = some (.int .i64 wn) ∧ w'.cell? ⟨w2.heap.size, 1, none⟩ = some (.int .i64 hn) ∧ w'.cell? ⟨w2.heap.size, 2, none⟩ = some (.slice Ab b.length cb)) ⟨(Ext.refl _).alloc _, by simp [go_sem], by simp [go_sem], by simp [go_sem]⟩ ?_
      rintro Z ⟨hZ, q0, q1, q2⟩
      obtain ⟨xs, hrow, hp⟩ := (hown.ext hx2).ext hZ
      have hb2 := hob.ext hZ
      have hbl : b.length = N := by have := congrArg List.length hbm; simpa using this
      rw [← HLE.out k] at hbm
      have hz1' := hE1.size
      have hz2' := hx2.size
      have hz3' := hZ.size
      have hrl := World.ownsRow.lt hrow
      refine wpList_append_own _ rfl _ _ _ rfl w1.heap.size 58 i0 (.agg #[.int .i64 0, .int .i64 0, .slice none 0 0]) 3 40 Try.underlying68 hi hz0 hz1 hz2 rfl (by omega) (.slice A k c') k xs (by rfl) hrow ⟨w2.heap.size, 0, none⟩ 1 1 [.int .i64 wn, .int .i64 hn, .slice Ab b.length cb] (by rfl) rfl (pic_new q0 q1 q2) (pic_words _ _ _ _ _) (by unfold maxLen; omega) (by omega) (by omega) ?_
      intro v' w3 ho2 hg2 _
      have hE3 := Ext.grown ((hE1.trans hx2).trans hZ) hg2 (fun g hg => by have := hrl g hg; omega)
      have hown2 := OwnP.push hrow hp (by decide) hb2 hbl HW.out.1 hbm ho2 hg2
      obtain ⟨A', c2, rfl⟩ := hown2.form
      clear ho2 hg2 hown hrow hp hb2 hbm hob hZ hx2 hE1 q0 q1 q2 hrl
      go_wp2
      go_roundw
      case rel => exact ⟨k + 1, A', c2, by omega, by go_num, rfl, hown2, hE3⟩
      case measure => simp [intOf]; omega
    · obtain rfl : k = sn := by omega
      obtain ⟨gp, rfl, hpl⟩ := hown.pics (by omega)
      have hr2 := hr1.ext hE1
      have hE2' := hE.trans hE1
      have hs2 := hE1.size
      clear hown
      go_wp2_with fail
      refine (l03Stack_any gp 0 k c' N wn hn L wr hpl (by omega) HW.out).mono ?_
      rintro e w2 ⟨A, c', b, rfl, ho, hm, hx⟩
      have ⟨c0, c1, c2, c3, f0, f1, f2, f3⟩ := hr2.ext hx
      have hE2 := hE2'.trans hx
      clear hx hr2 hpl hE2' hr1 hb1
      go_wp2
      refine bodyPost_ret (v := .tuple #[.agg #[.int .i64 wn, .int .i64 hn, .int .i64 k, .slice A b.length c'], .bool true]) (by simp [results, Try.results44, go_sem, *]) rfl ⟨A, c', b, rfl, ?_, hm, ?_⟩
      · refine OwnF.weaken (base := wr.heap.size) ?_ (by omega)
        repeat (first | (with_reducible exact ho) | (with_reducible refine OwnF.set_below ?_ (by dsimp only; omega) _))
      · repeat (first | (with_reducible exact hE2) | (with_reducible refine Ext.setCell ?_ (by dsimp only; omega) _))
/-- The two tellings agree. -/
theorem sh_eq (wn hn dn sn : Nat) (bs : List Nat) : cells3 (shF wn dn bs) wn sn (wn * hn * sn) = stL (fun e => (List.range (wn * hn)).map (fun i => nrm (bs.getD (i * dn + e) 0))) sn (wn * hn * sn) := by
  unfold cells3 stL
  refine List.map_congr_left fun m hm => ?_
  have hm' := List.mem_range.1 hm
  have hlt : m / sn < wn * hn := Nat.div_lt_of_lt_mul (by rw [Nat.mul_comm]; exact hm')
  have he : m / sn % wn + wn * (m / sn / wn) = m / sn := by rw [Nat.add_comm]; exact Nat.div_add_mod _ _
  unfold shF
  rw [cellN_nat, he]
  simp [List.getD_eq_getElem?_getD, hlt]
set_option maxRecDepth 8000 in
theorem lawShallowVolume_any (W : World) (z0 z1 z2 : Int) (_ : -9223372036854775808 ≤ z0 ∧ z0 ≤ 9223372036854775807) (_ : -9223372036854775808 ≤ z1 ∧ z1 ≤ 9223372036854775807) (_ : -9223372036854775808 ≤ z2 ∧ z2 ≤ 9223372036854775807) (A : Option Addr) (n m : Nat) (bs : List Nat) (hc : n ≤ m) (hm : m ≤ maxLen) (hr : Reads W A n bs) (hw : Words bs) (ee : Int) (_ : IntKind.i64.min ≤ ee ∧ ee ≤ IntKind.i64.max) :
    Calls Try.prog 9 #[.agg #[.int .i64 z0, .int .i64 z1, .int .i64 z2, .slice A n m], .int .i64 ee] W fun e W' => e = .returned (.bool true) ∧ Ext W W' := by
  have hn : n ≤ maxLen := Nat.le_trans hc hm
  by_cases hv : VVol z0 z1 z2 n ∧ 1 ≤ ee ∧ ee ≤ z2
  · obtain ⟨hv, hs⟩ := hv
    obtain ⟨wn, rfl⟩ := Int.eq_ofNat_of_zero_le (show 0 ≤ z0 by have := hv.1.1; omega)
    obtain ⟨hh, rfl⟩ := Int.eq_ofNat_of_zero_le (show 0 ≤ z1 by have := hv.1.2.2.1; omega)
    obtain ⟨dn, rfl⟩ := Int.eq_ofNat_of_zero_le (show 0 ≤ z2 by omega)
    obtain ⟨sn, rfl⟩ := Int.eq_ofNat_of_zero_le (show 0 ≤ ee by omega)
    have hd8 := hv.2.2.1
    have h0 := (vol_n hv).2.1
    have hwh : wn * hh ≤ 256 := by
      have h1 := hv.1.2.2.2.2
      have h2 : ((wn * hh : Nat) : Int) = (wn : Int) * (hh : Int) := by simp
      omega
    have h2048 : wn * hh * sn ≤ 256 * 8 := Nat.mul_le_mul hwh (by omega)
    refine lawShallowVolume_core W wn hh dn A n m bs hn hr sn wn hh sn (cells3 (shF wn dn bs) wn sn (wn * hh * sn)) (by rw [cells3_length]; omega) true ?_ ?_
    · intro w D hd
      obtain ⟨gb, off, rfl, hl⟩ := hd.2 h0
      rw [sh_eq]
      exact specShallow_yes wn hh dn gb off n n bs sn w hl hd.1 hw (Nat.le_refl _) hn hv (by omega)
    · intro w D hd
      obtain ⟨gb, off, rfl, hl⟩ := hd.2 h0
      exact implShallow_yes wn hh dn gb off n n bs sn w hl hd.1 hw (Nat.le_refl _) hn hv (by omega)
  · exact lawShallowVolume_core W z0 z1 z2 A n m bs hn hr ee 0 0 0 [] (by simp) false (fun w D hd => specShallow_no z0 z1 z2 D n n ee hn hv w) (fun w D hd => implShallow_no z0 z1 z2 D n n ee hn hv w)
end Go.Proofs.Ytgpobhpcbgenoaa
