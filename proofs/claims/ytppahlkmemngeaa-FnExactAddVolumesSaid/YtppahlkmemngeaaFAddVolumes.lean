/- The law on AddVolumes holds. -/
import Derived.Test.YtppahlkmemngeaaSpecV
import Derived.Test.YtppahlkmemngeaaAlike
import Derived.Test.YtppahlkmemngeaaCAddVolumes
namespace Go.Proofs.Ytppahlkmemngeaa
open Go.RowKit
set_option linter.unusedVariables false

set_option maxHeartbeats 1000000 in
theorem implAddVolumes_yes (wn hn dn gb off n c : Nat) (bs : List Nat) (gb2 off2 c2 : Nat) (bs2 : List Nat) (U : World) (hl : Lies U gb off bs) (hlen : bs.length = n) (hwd : Words bs) (hnc : n ≤ c) (hcm : c ≤ maxLen) (hl2 : Lies U gb2 off2 bs2) (hlen2 : bs2.length = n) (hwd2 : Words bs2) (hnc2 : n ≤ c2) (hcm2 : c2 ≤ maxLen) (hv : VVol wn hn dn n) (hv2 : VVol wn hn dn n) :
    Calls Try.prog 34 #[.agg #[.int .i64 wn, .int .i64 hn, .int .i64 dn, .slice (some ⟨gb, off, none⟩) n c], .agg #[.int .i64 wn, .int .i64 hn, .int .i64 dn, .slice (some ⟨gb2, off2, none⟩) n c2]] U fun e U' => ∃ A c' b, e = .returned (.tuple #[.agg #[.int .i64 wn, .int .i64 hn, .int .i64 dn, .slice A b.length c'], .bool true]) ∧ OwnF U' U.heap.size 25 (.slice A b.length c') b ∧ b.map nrm = cells3 (fun x y e => fop .add (bs.getD (cellN wn (x : Int) (y : Int) * dn + e) 0) (bs2.getD (cellN wn (x : Int) (y : Int) * dn + e) 0)) wn dn (wn * hn * dn) ∧ Ext U U' := by
  have hcn := Nat.le_trans hnc hcm
  have hcn2 := Nat.le_trans hnc2 hcm2
  have HV := Lib.hid hv
  have HK := Lib.hid (fun (w0 : World) (hx0 : Ext U w0) (hb0 : Box4 w0 U.heap.size (.int .i64 wn) (.int .i64 hn) (.int .i64 dn) (.slice (some ⟨gb, off, none⟩) n c)) (hd0 : Box4 w0 (U.heap.size + 1) (.int .i64 wn) (.int .i64 hn) (.int .i64 dn) (.slice (some ⟨gb2, off2, none⟩) n c2)) => revolume_yes wn hn dn (some ⟨gb, off, none⟩) n c hcn hv 76 #[.pointer (some ⟨U.heap.size, 0, none⟩), .pointer (some ⟨U.heap.size + 1, 0, none⟩)] (fun x y e => fop .add (bs.getD (cellN wn (x : Int) (y : Int) * dn + e) 0) (bs2.getD (cellN wn (x : Int) (y : Int) * dn + e) 0)) w0 (by kernel_rfl)
    (fun x y e U' h1 h2 h3 h4 => add1 wn hn dn gb off n c bs gb2 off2 n c2 bs2 _ _ x y e U' (hb0.ext h1) ((hl.ext hx0).ext h1) hlen hwd hnc hcm hv (hd0.ext h1) ((hl2.ext hx0).ext h1) hlen2 hwd2 hnc2 hcm2 hv2 h2 h3 h4))
  clear hl hlen hwd hnc hcm hl2 hlen2 hwd2 hnc2 hcm2 hv hv2
  go_enter Try.func34, Try.ntmps34
  go_wp2_with fail
  refine calls_at (X := fun w' => Ext U w' ∧ Box4 w' U.heap.size (.int .i64 wn) (.int .i64 hn) (.int .i64 dn) (.slice (some ⟨gb, off, none⟩) n c) ∧ Box4 w' (U.heap.size + 1) (.int .i64 wn) (.int .i64 hn) (.int .i64 dn) (.slice (some ⟨gb2, off2, none⟩) n c2) ∧ Res4 w' (U.heap.size + 1 + 1) ∧ U.heap.size + 1 + 1 + 1 ≤ w'.heap.size) ⟨(((Ext.refl _).alloc _).alloc _).alloc _, ⟨by simp [go_sem], by simp [go_sem], by simp [go_sem], by simp [go_sem]⟩, ⟨by simp [go_sem], by simp [go_sem], by simp [go_sem], by simp [go_sem]⟩, ⟨by simp [go_sem], by simp [go_sem], by simp [go_sem], by simp [go_sem], by simp [go_sem], by simp [go_sem], by simp [go_sem], by simp [go_sem]⟩, by simp⟩ ?_
  rintro w0 ⟨hx0, hb0, hd0, hr0, hs0⟩
  refine (alike_yes _ _ _ _ _ n n c c2 _ hcn hcn2 HV.out HV.out).mono ?_
  rintro e w1 ⟨rfl, hx⟩
  have hb1 := hb0.ext hx
  have hd1 := hd0.ext hx
  have hr1 := hr0.ext hx
  have hE := hx0.trans hx
  have hs1 := Nat.le_trans hs0 hx.size
  clear hx hx0 hb0 hd0 hr0 hs0
  have ⟨p0, p1, p2, p3⟩ := hb1
  go_wp2_with fail
  clear p0 p1 p2 p3
  refine (HK.out w1 hE hb1 hd1).mono ?_
  rintro e w2 ⟨A, c', b, rfl, ho, hm, hx⟩
  have ⟨c0, c1, c2, c3, f0, f1, f2, f3⟩ := hr1.ext hx
  have hE2 := hE.trans hx
  clear hx hE hb1 hd1 hr1
  go_wp2
  refine bodyPost_ret (v := .tuple #[.agg #[.int .i64 wn, .int .i64 hn, .int .i64 dn, .slice A b.length c'], .bool true]) (by simp [results, Try.results34, go_sem, *]) rfl ⟨A, c', b, rfl, ?_, hm, ?_⟩
  · refine OwnF.weaken (base := w1.heap.size) ?_ (by omega)
    repeat (first | (with_reducible exact ho) | (with_reducible refine OwnF.set_below ?_ (by dsimp only; omega) _))
  · repeat (first | (with_reducible exact hE2) | (with_reducible refine Ext.setCell ?_ (by dsimp only; omega) _))
theorem implAddVolumes_no (z0 z1 z2 : Int) (A0 : Option Addr) (n0 m0 : Nat) (y0 y1 y2 : Int) (A1 : Option Addr) (n1 m1 : Nat)  (hn0 : n0 ≤ maxLen) (hn1 : n1 ≤ maxLen) (hno : ¬ (VVol z0 z1 z2 n0 ∧ VVol y0 y1 y2 n1 ∧ z0 = y0 ∧ z1 = y1 ∧ z2 = y2)) (U : World) :
    Calls Try.prog 34 #[.agg #[.int .i64 z0, .int .i64 z1, .int .i64 z2, .slice A0 n0 m0], .agg #[.int .i64 y0, .int .i64 y1, .int .i64 y2, .slice A1 n1 m1]] U fun e U' => ∃ A c' b, e = .returned (.tuple #[.agg #[.int .i64 0, .int .i64 0, .int .i64 0, .slice A b.length c'], .bool false]) ∧ OwnF U' U.heap.size 25 (.slice A b.length c') b ∧ b.map nrm = [] ∧ Ext U U' := by
  have HV := Lib.hid hno
  clear hno
  go_enter Try.func34, Try.ntmps34
  go_wp2_with fail
  refine calls_at (X := fun w' => Ext U w' ∧ Res4 w' (U.heap.size + 1 + 1) ∧ U.heap.size + 1 + 1 + 1 ≤ w'.heap.size) ⟨(((Ext.refl _).alloc _).alloc _).alloc _, ⟨by simp [go_sem], by simp [go_sem], by simp [go_sem], by simp [go_sem], by simp [go_sem], by simp [go_sem], by simp [go_sem], by simp [go_sem]⟩, by simp⟩ ?_
  rintro w0 ⟨hx0, hr0, hs0⟩
  refine (alike_no _ _ _ _ _ _ A0 A1 n0 n1 m0 m1 _ hn0 hn1 HV.out).mono ?_
  rintro e w1 ⟨rfl, hx⟩
  have ⟨c0, c1, c2, c3, f0, f1, f2, f3⟩ := hr0.ext hx
  have hE := hx0.trans hx
  clear hx hx0 hr0
  go_wp2
  refine bodyPost_ret (v := .tuple #[.agg #[.int .i64 0, .int .i64 0, .int .i64 0, .slice none 0 0], .bool false]) (by simp [results, Try.results34, go_sem, *]) rfl ⟨none, 0, [], rfl, OwnF.nil _ _ _, rfl, ?_⟩
  repeat (first | (with_reducible exact hE) | (with_reducible refine Ext.setCell ?_ (by dsimp only; omega) _))
theorem specAddVolumes_no (z0 z1 z2 : Int) (A0 : Option Addr) (n0 m0 : Nat) (y0 y1 y2 : Int) (A1 : Option Addr) (n1 m1 : Nat)  (hn0 : n0 ≤ maxLen) (hn1 : n1 ≤ maxLen) (hno : ¬ (VVol z0 z1 z2 n0 ∧ VVol y0 y1 y2 n1 ∧ z0 = y0 ∧ z1 = y1 ∧ z2 = y2)) (U : World) :
    Calls Try.prog 33 #[.agg #[.int .i64 z0, .int .i64 z1, .int .i64 z2, .slice A0 n0 m0], .agg #[.int .i64 y0, .int .i64 y1, .int .i64 y2, .slice A1 n1 m1]] U fun e U' => ∃ A c' b, e = .returned (.tuple #[.agg #[.int .i64 0, .int .i64 0, .int .i64 0, .slice A b.length c'], .bool false]) ∧ OwnF U' U.heap.size 25 (.slice A b.length c') b ∧ b.map nrm = [] ∧ Ext U U' := by
  have HV := Lib.hid hno
  clear hno
  go_enter Try.func33, Try.ntmps33
  go_wp2_with fail
  refine calls_at (X := fun w' => Ext U w' ∧ Box4 w' U.heap.size (.int .i64 z0) (.int .i64 z1) (.int .i64 z2) (.slice A0 n0 m0) ∧ Box4 w' (U.heap.size + 1) (.int .i64 y0) (.int .i64 y1) (.int .i64 y2) (.slice A1 n1 m1) ∧ Res4 w' (U.heap.size + 1 + 1) ∧ U.heap.size + 1 + 1 + 1 ≤ w'.heap.size) ⟨(((Ext.refl _).alloc _).alloc _).alloc _, ⟨by simp [go_sem], by simp [go_sem], by simp [go_sem], by simp [go_sem]⟩, ⟨by simp [go_sem], by simp [go_sem], by simp [go_sem], by simp [go_sem]⟩, ⟨by simp [go_sem], by simp [go_sem], by simp [go_sem], by simp [go_sem], by simp [go_sem], by simp [go_sem], by simp [go_sem], by simp [go_sem]⟩, by simp⟩ ?_
  rintro w0 ⟨hx0, hb0, hd0, hr0, hs0⟩
  refine (l04Sizes_no _ _ _ _ _ _ _ _ A0 A1 n0 n1 m0 m1 _ hn0 hn1 hb0 hd0 (by omega) HV.out).mono ?_
  rintro e w1 ⟨rfl, hx⟩
  have ⟨c0, c1, c2, c3, f0, f1, f2, f3⟩ := hr0.ext hx
  have hE := hx0.trans hx
  clear hx hx0 hb0 hd0 hr0
  go_wp2
  refine bodyPost_ret (v := .tuple #[.agg #[.int .i64 0, .int .i64 0, .int .i64 0, .slice none 0 0], .bool false]) (by simp [results, Try.results33, go_sem, *]) rfl ⟨none, 0, [], rfl, OwnF.nil _ _ _, rfl, ?_⟩
  repeat (first | (with_reducible exact hE) | (with_reducible refine Ext.setCell ?_ (by dsimp only; omega) _))
set_option maxHeartbeats 1000000 in
theorem specAddVolumes_yes (wn hn dn gb off n c : Nat) (bs : List Nat) (gb2 off2 c2 : Nat) (bs2 : List Nat) (U : World) (hl : Lies U gb off bs) (hlen : bs.length = n) (hwd : Words bs) (hnc : n ≤ c) (hcm : c ≤ maxLen) (hl2 : Lies U gb2 off2 bs2) (hlen2 : bs2.length = n) (hwd2 : Words bs2) (hnc2 : n ≤ c2) (hcm2 : c2 ≤ maxLen) (hv : VVol wn hn dn n) (hv2 : VVol wn hn dn n) :
    Calls Try.prog 33 #[.agg #[.int .i64 wn, .int .i64 hn, .int .i64 dn, .slice (some ⟨gb, off, none⟩) n c], .agg #[.int .i64 wn, .int .i64 hn, .int .i64 dn, .slice (some ⟨gb2, off2, none⟩) n c2]] U fun e U' => ∃ A c' b, e = .returned (.tuple #[.agg #[.int .i64 wn, .int .i64 hn, .int .i64 dn, .slice A b.length c'], .bool true]) ∧ OwnF U' U.heap.size 25 (.slice A b.length c') b ∧ b.map nrm = (List.range n).map (fun i => fop .add (bs.getD i 0) (bs2.getD i 0)) ∧ Ext U U' := by
  obtain ⟨hnn0, h0, hn2⟩ := vol_n hv
  clear hnn0
  have hcn := Nat.le_trans hnc hcm
  have hcn2 := Nat.le_trans hnc2 hcm2
  have HV := Lib.hid hv
  have HK := Lib.hid (fun (w1 : World) (hE : Ext U w1) (hb1 : Box4 w1 U.heap.size (.int .i64 wn) (.int .i64 hn) (.int .i64 dn) (.slice (some ⟨gb, off, none⟩) n c)) (hd1 : Box4 w1 (U.heap.size + 1) (.int .i64 wn) (.int .i64 hn) (.int .i64 dn) (.slice (some ⟨gb2, off2, none⟩) n c2)) => l04Sum_any U.heap.size (U.heap.size + 1) wn hn dn gb off n c gb2 off2 c2 bs bs2 w1 hb1 hd1 (hl.ext hE) (hl2.ext hE) hlen hlen2 h0 hn2 hnc hcm hnc2 hcm2)
  clear hl hlen hwd hnc hcm hl2 hlen2 hwd2 hnc2 hcm2 hv hv2
  go_enter Try.func33, Try.ntmps33
  go_wp2_with fail
  refine calls_at (X := fun w' => Ext U w' ∧ Box4 w' U.heap.size (.int .i64 wn) (.int .i64 hn) (.int .i64 dn) (.slice (some ⟨gb, off, none⟩) n c) ∧ Box4 w' (U.heap.size + 1) (.int .i64 wn) (.int .i64 hn) (.int .i64 dn) (.slice (some ⟨gb2, off2, none⟩) n c2) ∧ Res4 w' (U.heap.size + 1 + 1) ∧ U.heap.size + 1 + 1 + 1 ≤ w'.heap.size) ⟨(((Ext.refl _).alloc _).alloc _).alloc _, ⟨by simp [go_sem], by simp [go_sem], by simp [go_sem], by simp [go_sem]⟩, ⟨by simp [go_sem], by simp [go_sem], by simp [go_sem], by simp [go_sem]⟩, ⟨by simp [go_sem], by simp [go_sem], by simp [go_sem], by simp [go_sem], by simp [go_sem], by simp [go_sem], by simp [go_sem], by simp [go_sem]⟩, by simp⟩ ?_
  rintro w0 ⟨hx0, hb0, hd0, hr0, hs0⟩
  refine (l04Sizes_yes _ _ _ _ _ _ _ n n c c2 _ hcn hcn2 hb0 hd0 HV.out HV.out).mono ?_
  rintro e w1 ⟨rfl, hx⟩
  have hb1 := hb0.ext hx
  have hd1 := hd0.ext hx
  have hr1 := hr0.ext hx
  have hE := hx0.trans hx
  have hs1 := Nat.le_trans hs0 hx.size
  clear hx hx0 hb0 hd0 hr0 hs0
  go_wp2_with fail
  refine (HK.out w1 hE hb1 hd1).mono ?_
  rintro e w2 ⟨H, c', b, rfl, hbl, ho, hm, hx⟩
  subst hbl
  have ⟨c0, c1, c2, c3, f0, f1, f2, f3⟩ := hr1.ext hx
  have hE2 := hE.trans hx
  clear hx hE hb1 hd1 hr1
  go_wp2
  refine bodyPost_ret (v := .tuple #[.agg #[.int .i64 wn, .int .i64 hn, .int .i64 dn,   .slice (some ⟨H, 0, none⟩) b.length c'], .bool true]) (by simp [results, Try.results33, go_sem, *]) rfl ⟨_, c', b, rfl, ?_, hm, ?_⟩
  · refine OwnF.weaken (base := w1.heap.size) ?_ (by omega)
    repeat (first | (with_reducible exact ho) | (with_reducible refine OwnF.set_below ?_ (by dsimp only; omega) _))
  · repeat (first | (with_reducible exact hE2) | (with_reducible refine Ext.setCell ?_ (by dsimp only; omega) _))
set_option maxRecDepth 8000 in
theorem lawAddVolumes_any (W : World) (z0 z1 z2 : Int) (_ : -9223372036854775808 ≤ z0 ∧ z0 ≤ 9223372036854775807) (_ : -9223372036854775808 ≤ z1 ∧ z1 ≤ 9223372036854775807) (_ : -9223372036854775808 ≤ z2 ∧ z2 ≤ 9223372036854775807) (A : Option Addr) (n m : Nat) (bs : List Nat) (hc : n ≤ m) (hm : m ≤ maxLen) (hr : Reads W A n bs) (hw : Words bs) (y0 y1 y2 : Int) (_ : -9223372036854775808 ≤ y0 ∧ y0 ≤ 9223372036854775807) (_ : -9223372036854775808 ≤ y1 ∧ y1 ≤ 9223372036854775807) (_ : -9223372036854775808 ≤ y2 ∧ y2 ≤ 9223372036854775807) (A' : Option Addr) (n' m' : Nat) (bs' : List Nat) (hc' : n' ≤ m') (hm' : m' ≤ maxLen) (hr' : Reads W A' n' bs') (hw' : Words bs') :
    Calls Try.prog 8 #[.agg #[.int .i64 z0, .int .i64 z1, .int .i64 z2, .slice A n m], .agg #[.int .i64 y0, .int .i64 y1, .int .i64 y2, .slice A' n' m']] W fun e W' => e = .returned (.bool true) ∧ Ext W W' := by
  have hn : n ≤ maxLen := Nat.le_trans hc hm
  have hn' : n' ≤ maxLen := Nat.le_trans hc' hm'
  by_cases hv : VVol z0 z1 z2 n ∧ VVol y0 y1 y2 n' ∧ z0 = y0 ∧ z1 = y1 ∧ z2 = y2
  · obtain ⟨hv, hv', rfl, rfl, rfl⟩ := hv
    obtain ⟨wn, rfl⟩ := Int.eq_ofNat_of_zero_le (show 0 ≤ z0 by have := hv.1.1; omega)
    obtain ⟨hh, rfl⟩ := Int.eq_ofNat_of_zero_le (show 0 ≤ z1 by have := hv.1.2.2.1; omega)
    obtain ⟨dn, rfl⟩ := Int.eq_ofNat_of_zero_le (show 0 ≤ z2 by have := hv.2.1; omega)
    obtain ⟨hnn, h0, hn2⟩ := vol_n hv
    have en : n' = n := by have h1 := hv.2.2.2; have h2 := hv'.2.2.2; rw [← h1] at h2; omega
    subst en
    refine lawAddVolumes_core W wn hh dn A n' m bs hn hr wn hh dn A' n' m' bs' hn' hr' wn hh dn ((List.range n').map (fun i => fop .add (bs.getD i 0) (bs'.getD i 0))) (by simp; omega) true ?_ ?_
    · intro w D D' hd hd'
      obtain ⟨gb, off, rfl, hl⟩ := hd.2 (by omega)
      obtain ⟨gb', off', rfl, hl'⟩ := hd'.2 (by omega)
      exact specAddVolumes_yes wn hh dn gb off n' n' bs gb' off' n' bs' w hl hd.1 hw (Nat.le_refl _) hn hl' hd'.1 hw' (Nat.le_refl _) hn' hv hv'
    · intro w D D' hd hd'
      obtain ⟨gb, off, rfl, hl⟩ := hd.2 (by omega)
      obtain ⟨gb', off', rfl, hl'⟩ := hd'.2 (by omega)
      refine (implAddVolumes_yes wn hh dn gb off n' n' bs gb' off' n' bs' w hl hd.1 hw (Nat.le_refl _) hn hl' hd'.1 hw' (Nat.le_refl _) hn' hv hv').mono ?_
      rintro e w1 ⟨A1, c1, b1, rfl, ho, hm1, hx1⟩
      refine ⟨A1, c1, b1, rfl, ho, hm1.trans ?_, hx1⟩
      rw [hnn]
      exact cells3_flat (fun x y e h1 h2 h3 => by simp only [cellN_nat])

  · exact lawAddVolumes_core W z0 z1 z2 A n m bs hn hr y0 y1 y2 A' n' m' bs' hn' hr' 0 0 0 [] (by simp) false (fun w D D' hd hd' => specAddVolumes_no z0 z1 z2 D n n y0 y1 y2 D' n' n' hn hn' hv w) (fun w D D' hd hd' => implAddVolumes_no z0 z1 z2 D n n y0 y1 y2 D' n' n' hn hn' hv w)
end Go.Proofs.Ytppahlkmemngeaa
