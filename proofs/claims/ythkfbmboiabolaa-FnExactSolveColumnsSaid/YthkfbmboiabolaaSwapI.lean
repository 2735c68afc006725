/- Contract of the program's volume with its two sides swapped. -/
import Derived.Test.YthkfbmboiabolaaSpecV
import Derived.Test.YthkfbmboiabolaaClos
namespace Go.Proofs.Ythkfbmboiabolaa
open Go.RowKit
set_option linter.unusedVariables false

set_option maxRecDepth 8000 in
theorem implSwapVolume_yes (wn hn dn : Nat) (A0 : Option Addr) (n0 m0 : Nat)  (hn0 : n0 ≤ maxLen) (hv : VVol wn hn dn n0) (o0 o1 o2 : Int) (L : List Nat) (U : World)
    (hcall : ∀ w0, Ext U w0 → Box4 w0 U.heap.size (.int .i64 wn) (.int .i64 hn) (.int .i64 dn) (.slice A0 n0 m0) → Calls Try.prog 84 #[.int .i64 hn, .int .i64 wn, .int .i64 dn, .func (.func 85) #[] #[.pointer (some ⟨U.heap.size, 0, none⟩)]] w0 fun e U' => ∃ A c' b, e = .returned (.agg #[.int .i64 o0, .int .i64 o1, .int .i64 o2, .slice A b.length c']) ∧ OwnF U' w0.heap.size 23 (.slice A b.length c') b ∧ b.map nrm = L ∧ Words b ∧ Ext w0 U') :
    Calls Try.prog 60 #[.agg #[.int .i64 wn, .int .i64 hn, .int .i64 dn, .slice A0 n0 m0]] U fun e U' => ∃ A c' b, e = .returned (.tuple #[.agg #[.int .i64 o0, .int .i64 o1, .int .i64 o2, .slice A b.length c'], .bool true]) ∧ OwnF U' U.heap.size 23 (.slice A b.length c') b ∧ b.map nrm = L ∧ Words b ∧ Ext U U' := by
  have HK := Lib.hid hcall
  have HV := Lib.hid hv
  clear hcall hv
  go_enter Try.func60, Try.ntmps60
  go_wp2_with fail
  refine calls_at (X := fun w' => Ext U w' ∧ Box4 w' U.heap.size (.int .i64 wn) (.int .i64 hn) (.int .i64 dn) (.slice A0 n0 m0) ∧ Res4 w' (U.heap.size + 1) ∧ U.heap.size + 1 + 1 ≤ w'.heap.size) ⟨((Ext.refl _).alloc _).alloc _, ⟨by simp [go_sem], by simp [go_sem], by simp [go_sem], by simp [go_sem]⟩, ⟨by simp [go_sem], by simp [go_sem], by simp [go_sem], by simp [go_sem], by simp [go_sem], by simp [go_sem], by simp [go_sem], by simp [go_sem]⟩, by simp⟩ ?_
  rintro w0 ⟨hx0, hb0, hr0, hs0⟩
  refine (ValidVolume_yes _ _ _ A0 n0 m0 _ hn0 HV.out).mono ?_
  rintro e w1 ⟨rfl, hx⟩
  have hb1 := hb0.ext hx
  have hr1 := hr0.ext hx
  skip
  have hE := hx0.trans hx
  have hs1 := Nat.le_trans hs0 hx.size
  clear hx hx0 hb0 hr0 hs0
  have ⟨p0, p1, p2, p3⟩ := hb1
  go_wp2_with fail
  clear p0 p1 p2 p3
  refine (HK.out w1 hE hb1).mono ?_
  rintro e w2 ⟨A, c', b, rfl, ho, hm, hwd, hx⟩
  have ⟨c0, c1, c2, c3, f0, f1, f2, f3⟩ := hr1.ext hx
  have hE2 := hE.trans hx
  clear hx hE hb1 hr1
  go_wp2
  refine bodyPost_ret (v := .tuple #[.agg #[.int .i64 o0, .int .i64 o1, .int .i64 o2, .slice A b.length c'], .bool true]) (by simp [results, Try.results60, go_sem, *]) rfl ⟨A, c', b, rfl, ?_, hm, hwd, ?_⟩
  · refine OwnF.weaken (base := w1.heap.size) ?_ (by omega)
    repeat (first | (with_reducible exact ho) | (with_reducible refine OwnF.set_below ?_ (by dsimp only; omega) _))
  · repeat (first | (with_reducible exact hE2) | (with_reducible refine Ext.setCell ?_ (by dsimp only; omega) _))
theorem implSwapVolume_no (z0 z1 z2 : Int) (A0 : Option Addr) (n0 m0 : Nat)  (hn0 : n0 ≤ maxLen) (hv : ¬ VVol z0 z1 z2 n0) (U : World) :
    Calls Try.prog 60 #[.agg #[.int .i64 z0, .int .i64 z1, .int .i64 z2, .slice A0 n0 m0]] U fun e U' => ∃ A c' b, e = .returned (.tuple #[.agg #[.int .i64 0, .int .i64 0, .int .i64 0, .slice A b.length c'], .bool false]) ∧ OwnF U' U.heap.size 23 (.slice A b.length c') b ∧ b.map nrm = [] ∧ Ext U U' := by
  have HV := Lib.hid hv
  clear hv
  go_enter Try.func60, Try.ntmps60
  go_wp2_with fail
  refine calls_at (X := fun w' => Ext U w' ∧ Box4 w' U.heap.size (.int .i64 z0) (.int .i64 z1) (.int .i64 z2) (.slice A0 n0 m0) ∧ Res4 w' (U.heap.size + 1) ∧ U.heap.size + 1 + 1 ≤ w'.heap.size) ⟨((Ext.refl _).alloc _).alloc _, ⟨by simp [go_sem], by simp [go_sem], by simp [go_sem], by simp [go_sem]⟩, ⟨by simp [go_sem], by simp [go_sem], by simp [go_sem], by simp [go_sem], by simp [go_sem], by simp [go_sem], by simp [go_sem], by simp [go_sem]⟩, by simp⟩ ?_
  rintro w0 ⟨hx0, hb0, hr0, hs0⟩
  refine (ValidVolume_not _ _ _ A0 n0 m0 _ hn0 HV.out).mono ?_
  rintro e w1 ⟨rfl, hx⟩
  have ⟨c0, c1, c2, c3, f0, f1, f2, f3⟩ := hr0.ext hx
  have hE := hx0.trans hx
  clear hx hx0 hb0 hr0
  go_wp2
  refine bodyPost_ret (v := .tuple #[.agg #[.int .i64 0, .int .i64 0, .int .i64 0, .slice none 0 0], .bool false]) (by simp [results, Try.results60, go_sem, *]) rfl ⟨none, 0, [], rfl, OwnF.nil _ _ _, rfl, ?_⟩
  repeat (first | (with_reducible exact hE) | (with_reducible refine Ext.setCell ?_ (by dsimp only; omega) _))
/-- The words of the volume with its two sides swapped. -/
def swapL (wn hn dn : Nat) (bs : List Nat) : List Nat := cells3 (fun (x y e : Nat) => nrm (bs.getD (cellN wn ((y : Int)) ((x : Int)) * dn + e) 0)) hn dn (hn * wn * dn)
theorem swapL_length (wn hn dn : Nat) (bs : List Nat) : (swapL wn hn dn bs).length = hn * wn * dn := by simp [swapL, cells3_length]
theorem nrm_lt {b : Nat} (h : b < 4294967296) : nrm b < 4294967296 := by
  unfold nrm
  split
  · decide
  · exact h
theorem swapL_lt (wn hn dn : Nat) {bs : List Nat} (hw : Words bs) : ∀ l ∈ swapL wn hn dn bs, l < 4294967296 := fun l hl => by
  unfold swapL cells3 at hl
  obtain ⟨i, _, rfl⟩ := List.mem_map.1 hl
  exact nrm_lt (wd_at hw _)
theorem swapVol {wn hn dn n : Nat} (hv : VVol wn hn dn n) : VVol hn wn dn (hn * wn * dn) := by
  obtain ⟨⟨a1, a2, a3, a4, a5⟩, b1, b2, b3⟩ := hv
  exact ⟨⟨a3, a4, a1, a2, by rw [Int.mul_comm]; exact a5⟩, b1, b2, by simp⟩
theorem implSwap_any (wn hn dn gb off n : Nat) (bs : List Nat) (w : World) (hn0 : n ≤ maxLen) (hl : Lies w gb off bs) (hlen : bs.length = n) (hw : Words bs) (hv : VVol wn hn dn n) :
    Calls Try.prog 60 #[.agg #[.int .i64 wn, .int .i64 hn, .int .i64 dn, .slice (some ⟨gb, off, none⟩) n n]] w fun e U' => ∃ A c' b, e = .returned (.tuple #[.agg #[.int .i64 hn, .int .i64 wn, .int .i64 dn, .slice A b.length c'], .bool true]) ∧ OwnF U' w.heap.size 23 (.slice A b.length c') b ∧ b.map nrm = swapL wn hn dn bs ∧ Words b ∧ Ext w U' := by
  refine implSwapVolume_yes wn hn dn _ n n hn0 hv hn wn dn _ w (fun w0 hx0 hb0 => ?_)
  refine (volumeOf_any hn wn dn (by rw [Nat.mul_comm]; exact vol_wh hv) (by have := hv.2.2.1; omega) (by have := hv.1.2.2.2.1; omega) (by have := hv.1.2.1; omega) 85 #[.pointer (some ⟨w.heap.size, 0, none⟩)] (fun (x y e : Nat) => nrm (bs.getD (cellN wn ((y : Int)) ((x : Int)) * dn + e) 0)) w0 (by kernel_rfl) (fun x y e U' h1 h2 h3 h4 => swap1 wn hn dn gb off n n bs _ x y e U' (hb0.ext h1) ((hl.ext hx0).ext h1) hlen hw (Nat.le_refl _) hn0 hv h2 h3 h4)).mono ?_
  rintro e w1 ⟨A1, c1, b1, rfl, ho, hm1, hwd1, hx1⟩
  exact ⟨A1, c1, b1, rfl, ho, hm1, hwd1, hx1⟩
end Go.Proofs.Ythkfbmboiabolaa
