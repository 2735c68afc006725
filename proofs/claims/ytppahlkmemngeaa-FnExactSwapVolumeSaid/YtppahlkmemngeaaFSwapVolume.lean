/- The law on SwapVolume holds. -/
import Derived.Test.YtppahlkmemngeaaSpecV
import Derived.Test.YtppahlkmemngeaaTurn
import Derived.Test.YtppahlkmemngeaaCSwapVolume
namespace Go.Proofs.Ytppahlkmemngeaa
open Go.RowKit
set_option linter.unusedVariables false

set_option maxRecDepth 8000 in
theorem implSwapVolume_yes (wn hn dn : Nat) (A0 : Option Addr) (n0 m0 : Nat)  (hn0 : n0 ≤ maxLen) (hv : VVol wn hn dn n0) (o0 o1 o2 : Int) (L : List Nat) (U : World)
    (hcall : ∀ w0, Ext U w0 → Box4 w0 U.heap.size (.int .i64 wn) (.int .i64 hn) (.int .i64 dn) (.slice A0 n0 m0) → Calls Try.prog 67 #[.int .i64 hn, .int .i64 wn, .int .i64 dn, .func (.func 80) #[] #[.pointer (some ⟨U.heap.size, 0, none⟩)]] w0 fun e U' => ∃ A c' b, e = .returned (.agg #[.int .i64 o0, .int .i64 o1, .int .i64 o2, .slice A b.length c']) ∧ OwnF U' w0.heap.size 25 (.slice A b.length c') b ∧ b.map nrm = L ∧ Ext w0 U') :
    Calls Try.prog 38 #[.agg #[.int .i64 wn, .int .i64 hn, .int .i64 dn, .slice A0 n0 m0]] U fun e U' => ∃ A c' b, e = .returned (.tuple #[.agg #[.int .i64 o0, .int .i64 o1, .int .i64 o2, .slice A b.length c'], .bool true]) ∧ OwnF U' U.heap.size 25 (.slice A b.length c') b ∧ b.map nrm = L ∧ Ext U U' := by
  have HK := Lib.hid hcall
  have HV := Lib.hid hv
  clear hcall hv
  go_enter Try.func38, Try.ntmps38
  go_wp2_with fail
  refine calls_at (X := fun w' => Ext U w' ∧ Box4 w' U.heap.size (.int .i64 wn) (.int .i64 hn) (.int .i64 dn) (.slice A0 n0 m0) ∧ Res4 w' (U.heap.size + 1) ∧ U.heap.size + 1 + 1 ≤ w'.heap.size) ⟨((Ext.refl _).alloc _).alloc _, ⟨by simp [go_sem], by simp [go_sem], by simp [go_sem], by simp [go_sem]⟩, ⟨by simp [go_sem], by simp [go_sem], by simp [go_sem], by simp [go_sem], by simp [go_sem], by simp [go_sem], by simp [go_sem], by simp [go_sem]⟩, by simp⟩ ?_
  rintro w0 ⟨hx0, hb0, hr0, hs0⟩
  refine (ValidVolume_yes _ _ _ A0 n0 m0 _ hn0 HV.out).mono ?_
  rintro e w1 ⟨rfl, hx⟩
  have hb1 := hb0.ext hx
  have hr1 := hr0.ext hx
  skip
  have hE := hx0.trans hx
  have hs1 := Nat.le_trans hs0 hx.size
  clear hx hx0 hb0 hr0 hs0
  have ⟨p0, p1, p2, p3⟩ := hb1
  go_wp2_with fail
  clear p0 p1 p2 p3
  refine (HK.out w1 hE hb1).mono ?_
  rintro e w2 ⟨A, c', b, rfl, ho, hm, hx⟩
  have ⟨c0, c1, c2, c3, f0, f1, f2, f3⟩ := hr1.ext hx
  have hE2 := hE.trans hx
  clear hx hE hb1 hr1
  go_wp2
  refine bodyPost_ret (v := .tuple #[.agg #[.int .i64 o0, .int .i64 o1, .int .i64 o2, .slice A b.length c'], .bool true]) (by simp [results, Try.results38, go_sem, *]) rfl ⟨A, c', b, rfl, ?_, hm, ?_⟩
  · refine OwnF.weaken (base := w1.heap.size) ?_ (by omega)
    repeat (first | (with_reducible exact ho) | (with_reducible refine OwnF.set_below ?_ (by dsimp only; omega) _))
  · repeat (first | (with_reducible exact hE2) | (with_reducible refine Ext.setCell ?_ (by dsimp only; omega) _))
theorem implSwapVolume_no (z0 z1 z2 : Int) (A0 : Option Addr) (n0 m0 : Nat)  (hn0 : n0 ≤ maxLen) (hv : ¬ VVol z0 z1 z2 n0) (U : World) :
    Calls Try.prog 38 #[.agg #[.int .i64 z0, .int .i64 z1, .int .i64 z2, .slice A0 n0 m0]] U fun e U' => ∃ A c' b, e = .returned (.tuple #[.agg #[.int .i64 0, .int .i64 0, .int .i64 0, .slice A b.length c'], .bool false]) ∧ OwnF U' U.heap.size 25 (.slice A b.length c') b ∧ b.map nrm = [] ∧ Ext U U' := by
  have HV := Lib.hid hv
  clear hv
  go_enter Try.func38, Try.ntmps38
  go_wp2_with fail
  refine calls_at (X := fun w' => Ext U w' ∧ Box4 w' U.heap.size (.int .i64 z0) (.int .i64 z1) (.int .i64 z2) (.slice A0 n0 m0) ∧ Res4 w' (U.heap.size + 1) ∧ U.heap.size + 1 + 1 ≤ w'.heap.size) ⟨((Ext.refl _).alloc _).alloc _, ⟨by simp [go_sem], by simp [go_sem], by simp [go_sem], by simp [go_sem]⟩, ⟨by simp [go_sem], by simp [go_sem], by simp [go_sem], by simp [go_sem], by simp [go_sem], by simp [go_sem], by simp [go_sem], by simp [go_sem]⟩, by simp⟩ ?_
  rintro w0 ⟨hx0, hb0, hr0, hs0⟩
  refine (ValidVolume_not _ _ _ A0 n0 m0 _ hn0 HV.out).mono ?_
  rintro e w1 ⟨rfl, hx⟩
  have ⟨c0, c1, c2, c3, f0, f1, f2, f3⟩ := hr0.ext hx
  have hE := hx0.trans hx
  clear hx hx0 hb0 hr0
  go_wp2
  refine bodyPost_ret (v := .tuple #[.agg #[.int .i64 0, .int .i64 0, .int .i64 0, .slice none 0 0], .bool false]) (by simp [results, Try.results38, go_sem, *]) rfl ⟨none, 0, [], rfl, OwnF.nil _ _ _, rfl, ?_⟩
  repeat (first | (with_reducible exact hE) | (with_reducible refine Ext.setCell ?_ (by dsimp only; omega) _))
theorem specSwapVolume_no (z0 z1 z2 : Int) (A0 : Option Addr) (n0 m0 : Nat)  (hn0 : n0 ≤ maxLen) (hv : ¬ VVol z0 z1 z2 n0) (U : World) :
    Calls Try.prog 37 #[.agg #[.int .i64 z0, .int .i64 z1, .int .i64 z2, .slice A0 n0 m0]] U fun e U' => ∃ A c' b, e = .returned (.tuple #[.agg #[.int .i64 0, .int .i64 0, .int .i64 0, .slice A b.length c'], .bool false]) ∧ OwnF U' U.heap.size 25 (.slice A b.length c') b ∧ b.map nrm = [] ∧ Ext U U' := by
  have HV := Lib.hid hv
  clear hv
  go_enter Try.func37, Try.ntmps37
  go_wp2_with fail
  refine calls_at (X := fun w' => Ext U w' ∧ Box4 w' U.heap.size (.int .i64 z0) (.int .i64 z1) (.int .i64 z2) (.slice A0 n0 m0) ∧ Res4 w' (U.heap.size + 1) ∧ U.heap.size + 1 + 1 ≤ w'.heap.size) ⟨((Ext.refl _).alloc _).alloc _, ⟨by simp [go_sem], by simp [go_sem], by simp [go_sem], by simp [go_sem]⟩, ⟨by simp [go_sem], by simp [go_sem], by simp [go_sem], by simp [go_sem], by simp [go_sem], by simp [go_sem], by simp [go_sem], by simp [go_sem]⟩, by simp⟩ ?_
  rintro w0 ⟨hx0, hb0, hr0, hs0⟩
  refine (l03Is_not _ _ _ _ A0 n0 m0 _ hn0 hb0.1 hb0.2.1 hb0.2.2.1 hb0.2.2.2 HV.out).mono ?_
  rintro e w1 ⟨rfl, hx⟩
  have ⟨c0, c1, c2, c3, f0, f1, f2, f3⟩ := hr0.ext hx
  have hE := hx0.trans hx
  clear hx hx0 hb0 hr0
  go_wp2
  refine bodyPost_ret (v := .tuple #[.agg #[.int .i64 0, .int .i64 0, .int .i64 0, .slice none 0 0], .bool false]) (by simp [results, Try.results37, go_sem, *]) rfl ⟨none, 0, [], rfl, OwnF.nil _ _ _, rfl, ?_⟩
  repeat (first | (with_reducible exact hE) | (with_reducible refine Ext.setCell ?_ (by dsimp only; omega) _))
theorem specSwapVolume_of (wn hn dn gb off n c : Nat) (o0 o1 o2 : Int) (L : List Nat) (U : World) (hcm : c ≤ maxLen) (hnc : n ≤ c) (hv : VVol wn hn dn n)
    (hcall : ∀ w0, Ext U w0 → Box4 w0 U.heap.size (.int .i64 wn) (.int .i64 hn) (.int .i64 dn) (.slice (some ⟨gb, off, none⟩) n c) → Calls Try.prog 79 #[.pointer (some ⟨U.heap.size, 0, none⟩), .int .i64 2] w0 fun e U' => ∃ A c' b, e = .returned (.agg #[.int .i64 o0, .int .i64 o1, .int .i64 o2, .slice A b.length c']) ∧ OwnF U' w0.heap.size 25 (.slice A b.length c') b ∧ b.map nrm = L ∧ Ext w0 U') :
    Calls Try.prog 37 #[.agg #[.int .i64 wn, .int .i64 hn, .int .i64 dn, .slice (some ⟨gb, off, none⟩) n c]] U fun e U' => ∃ A c' b, e = .returned (.tuple #[.agg #[.int .i64 o0, .int .i64 o1, .int .i64 o2, .slice A b.length c'], .bool true]) ∧ OwnF U' U.heap.size 25 (.slice A b.length c') b ∧ b.map nrm = L ∧ Ext U U' := by
  have HK := Lib.hid hcall
  have HV := Lib.hid hv
  clear hcall hv
  go_enter Try.func37, Try.ntmps37
  go_wp2_with fail
  refine calls_at (X := fun w' => Ext U w' ∧ Box4 w' U.heap.size (.int .i64 wn) (.int .i64 hn) (.int .i64 dn) (.slice (some ⟨gb, off, none⟩) n c) ∧ Res4 w' (U.heap.size + 1) ∧ U.heap.size + 1 + 1 ≤ w'.heap.size) ⟨((Ext.refl _).alloc _).alloc _, ⟨by simp [go_sem], by simp [go_sem], by simp [go_sem], by simp [go_sem]⟩, ⟨by simp [go_sem], by simp [go_sem], by simp [go_sem], by simp [go_sem], by simp [go_sem], by simp [go_sem], by simp [go_sem], by simp [go_sem]⟩, by simp⟩ ?_
  rintro w0 ⟨hx0, hb0, hr0, hs0⟩
  refine (l03Is_yes _ wn hn dn _ n c _ (Nat.le_trans hnc hcm) hb0.1 hb0.2.1 hb0.2.2.1 hb0.2.2.2 HV.out).mono ?_
  rintro e w1 ⟨rfl, hx⟩
  have hb1 := hb0.ext hx
  have hr1 := hr0.ext hx
  have hE := hx0.trans hx
  have hs1 := Nat.le_trans hs0 hx.size
  clear hx hx0 hb0 hr0 hs0
  go_wp2_with fail
  refine (HK.out w1 hE hb1).mono ?_
  rintro e w2 ⟨A, c', b, rfl, ho, hm, hx⟩
  have ⟨c0, c1, c2, c3, f0, f1, f2, f3⟩ := hr1.ext hx
  have hE2 := hE.trans hx
  clear hx hE hb1 hr1
  go_wp2
  refine bodyPost_ret (v := .tuple #[.agg #[.int .i64 o0, .int .i64 o1, .int .i64 o2, .slice A b.length c'], .bool true]) (by simp [results, Try.results37, go_sem, *]) rfl ⟨A, c', b, rfl, ?_, hm, ?_⟩
  · refine OwnF.weaken (base := w1.heap.size) ?_ (by omega)
    repeat (first | (with_reducible exact ho) | (with_reducible refine OwnF.set_below ?_ (by dsimp only; omega) _))
  · repeat (first | (with_reducible exact hE2) | (with_reducible refine Ext.setCell ?_ (by dsimp only; omega) _))
set_option maxRecDepth 8000 in
theorem lawSwapVolume_any (W : World) (z0 z1 z2 : Int) (_ : -9223372036854775808 ≤ z0 ∧ z0 ≤ 9223372036854775807) (_ : -9223372036854775808 ≤ z1 ∧ z1 ≤ 9223372036854775807) (_ : -9223372036854775808 ≤ z2 ∧ z2 ≤ 9223372036854775807) (A : Option Addr) (n m : Nat) (bs : List Nat) (hc : n ≤ m) (hm : m ≤ maxLen) (hr : Reads W A n bs) (hw : Words bs) :
    Calls Try.prog 10 #[.agg #[.int .i64 z0, .int .i64 z1, .int .i64 z2, .slice A n m]] W fun e W' => e = .returned (.bool true) ∧ Ext W W' := by
  have hn : n ≤ maxLen := Nat.le_trans hc hm
  by_cases hv : VVol z0 z1 z2 n
  · obtain ⟨wn, rfl⟩ := Int.eq_ofNat_of_zero_le (show 0 ≤ z0 by have := hv.1.1; omega)
    obtain ⟨hn', rfl⟩ := Int.eq_ofNat_of_zero_le (show 0 ≤ z1 by have := hv.1.2.2.1; omega)
    obtain ⟨dn, rfl⟩ := Int.eq_ofNat_of_zero_le (show 0 ≤ z2 by have := hv.2.1; omega)
    obtain ⟨hnn, h0, hn2⟩ := vol_n hv
    refine lawSwapVolume_core W wn hn' dn A n m bs hn hr hn' wn dn (cells3 (fun (x y e : Nat) => nrm (bs.getD (cellN wn ((y : Int)) ((x : Int)) * dn + e) 0)) hn' dn (hn' * wn * dn)) (by simp [cells3_length, Nat.mul_comm hn' wn]; omega) true ?_ ?_
    · intro w D hd
      obtain ⟨gb, off, rfl, hl⟩ := hd.2 (by omega)
      exact specSwapVolume_of wn hn' dn gb off n n hn' wn dn _ w hn (Nat.le_refl _) hv (fun w0 hx0 hb0 => turn2_any w.heap.size wn hn' dn gb off n n bs w0 hb0 (hl.ext hx0) hd.1 (Nat.le_refl _) hn hv)
    · intro w D hd
      obtain ⟨gb, off, rfl, hl⟩ := hd.2 (by omega)
      refine implSwapVolume_yes wn hn' dn _ n n hn hv hn' wn dn _ w (fun w0 hx0 hb0 => ?_)
      refine (volumeOf_any hn' wn dn (by rw [Nat.mul_comm]; exact vol_wh hv) (by have := hv.2.2.1; omega) (by have := hv.1.2.2.2.1; omega) (by have := hv.1.2.1; omega) 80 #[.pointer (some ⟨w.heap.size, 0, none⟩)] (fun (x y e : Nat) => nrm (bs.getD (cellN wn ((y : Int)) ((x : Int)) * dn + e) 0)) w0 (by kernel_rfl) (fun x y e U' h1 h2 h3 h4 => swap1 wn hn' dn gb off n n bs _ x y e U' (hb0.ext h1) ((hl.ext hx0).ext h1) hd.1 hw (Nat.le_refl _) hn hv h2 h3 h4)).mono ?_
      rintro e w1 ⟨A1, c1, b1, rfl, ho, hm1, _, hx1⟩
      exact ⟨A1, c1, b1, rfl, ho, hm1, hx1⟩

  · exact lawSwapVolume_core W z0 z1 z2 A n m bs hn hr 0 0 0 [] (by simp) false (fun w D hd => specSwapVolume_no z0 z1 z2 D n n hn hv w) (fun w D hd => implSwapVolume_no z0 z1 z2 D n n hn hv w)
end Go.Proofs.Ytppahlkmemngeaa
