/- Contracts: whether a row may be told. -/
import Derived.Test.YthkfbmboiabolaaPrice
import Derived.Test.YthkfbmboiabolaaValid
namespace Go.Proofs.Ythkfbmboiabolaa
open Go.RowKit
set_option linter.unusedVariables false

def ROk (z0 z1 z2 : Int) (n p0 p1 : Nat) (d : Int) : Prop := VVol z0 z1 z2 n ∧ PV p0 p1 ∧ 0 ≤ d ∧ d ≤ z1 - 1
theorem rowOk_yes (z0 z1 z2 : Int) (A0 : Option Addr) (n0 m0 : Nat) (p0 p1 : Nat) (d : Int) (hn0 : n0 ≤ maxLen) (hok : ROk z0 z1 z2 n0 p0 p1 d) (U : World) :
    Calls Try.prog 49 #[.agg #[.int .i64 z0, .int .i64 z1, .int .i64 z2, .slice A0 n0 m0], .agg #[.float .f32 p0, .float .f32 p1], .int .i64 d] U fun e U' => e = .returned (.bool true) ∧ Ext U U' := by
  obtain ⟨hv, hp, hd0, hd7⟩ := hok
  have a1 : IntKind.i64.wrap (z1 - 1) = z1 - 1 := wrap_small _ (by have := hv.1.2.2.1; omega) (by have := hv.1.2.2.2.1; omega)
  have HVX := Lib.hid hv
  have HPX := Lib.hid hp
  clear hv hp
  go_enter Try.func49, Try.ntmps49
  go_wp2_with fail
  refine calls_at (X := fun w' => Ext U w' ∧ Box4 w' U.heap.size (.int .i64 z0) (.int .i64 z1) (.int .i64 z2) (.slice A0 n0 m0) ∧ Box2 w' (U.heap.size + 1) (fl p0) (fl p1)) ⟨((Ext.refl _).alloc _).alloc _, ⟨by simp [go_sem], by simp [go_sem], by simp [go_sem], by simp [go_sem]⟩, ⟨by simp [go_sem], by simp [go_sem]⟩⟩ ?_
  rintro w0 ⟨hx0, hb0, hq0⟩
  have hE := hx0
  refine (ValidVolume_yes _ _ _ A0 n0 m0 _ hn0 HVX.out).mono ?_
  rintro e w1 ⟨rfl, hx⟩
  replace hE := hE.trans hx
  replace hb0 := hb0.ext hx
  replace hq0 := hq0.ext hx
  have ⟨p0', p1', p2', p3'⟩ := hb0
  have ⟨q0', q1'⟩ := hq0
  go_wp2_with fail
  refine (implValidPrices_yes p0 p1 _ HPX.out).mono ?_
  rintro e w2 ⟨rfl, hx⟩
  replace hE := hE.trans hx
  replace hb0 := hb0.ext hx
  replace hq0 := hq0.ext hx
  have ⟨p0', p1', p2', p3'⟩ := hb0
  have ⟨q0', q1'⟩ := hq0
  go_wp2_with (go_at_call 42; refine (implIn_yes d _ _ _ hd0 hd7).mono ?_; rintro e w' ⟨rfl, rfl⟩)
  go_ret
  exact ⟨rfl, hE⟩
theorem rowOk_no1 (z0 z1 z2 : Int) (A0 : Option Addr) (n0 m0 : Nat) (p0 p1 : Nat) (d : Int) (hn0 : n0 ≤ maxLen) (hv : ¬ VVol z0 z1 z2 n0) (U : World) :
    Calls Try.prog 49 #[.agg #[.int .i64 z0, .int .i64 z1, .int .i64 z2, .slice A0 n0 m0], .agg #[.float .f32 p0, .float .f32 p1], .int .i64 d] U fun e U' => e = .returned (.bool false) ∧ Ext U U' := by
  have HVX := Lib.hid hv
  clear hv
  go_enter Try.func49, Try.ntmps49
  go_wp2_with fail
  refine calls_at (X := fun w' => Ext U w' ∧ Box4 w' U.heap.size (.int .i64 z0) (.int .i64 z1) (.int .i64 z2) (.slice A0 n0 m0) ∧ Box2 w' (U.heap.size + 1) (fl p0) (fl p1)) ⟨((Ext.refl _).alloc _).alloc _, ⟨by simp [go_sem], by simp [go_sem], by simp [go_sem], by simp [go_sem]⟩, ⟨by simp [go_sem], by simp [go_sem]⟩⟩ ?_
  rintro w0 ⟨hx0, hb0, hq0⟩
  have hE := hx0
  refine (ValidVolume_not _ _ _ A0 n0 m0 _ hn0 HVX.out).mono ?_
  rintro e w1 ⟨rfl, hx⟩
  replace hE := hE.trans hx
  replace hb0 := hb0.ext hx
  replace hq0 := hq0.ext hx
  have ⟨p0', p1', p2', p3'⟩ := hb0
  have ⟨q0', q1'⟩ := hq0
  go_wp2
  go_ret
  exact ⟨rfl, hE⟩
theorem rowOk_no2 (z0 z1 z2 : Int) (A0 : Option Addr) (n0 m0 : Nat) (p0 p1 : Nat) (d : Int) (hn0 : n0 ≤ maxLen) (hv : VVol z0 z1 z2 n0) (hp : ¬ PV p0 p1) (U : World) :
    Calls Try.prog 49 #[.agg #[.int .i64 z0, .int .i64 z1, .int .i64 z2, .slice A0 n0 m0], .agg #[.float .f32 p0, .float .f32 p1], .int .i64 d] U fun e U' => e = .returned (.bool false) ∧ Ext U U' := by
  have HVX := Lib.hid hv
  have HPX := Lib.hid hp
  clear hv hp
  go_enter Try.func49, Try.ntmps49
  go_wp2_with fail
  refine calls_at (X := fun w' => Ext U w' ∧ Box4 w' U.heap.size (.int .i64 z0) (.int .i64 z1) (.int .i64 z2) (.slice A0 n0 m0) ∧ Box2 w' (U.heap.size + 1) (fl p0) (fl p1)) ⟨((Ext.refl _).alloc _).alloc _, ⟨by simp [go_sem], by simp [go_sem], by simp [go_sem], by simp [go_sem]⟩, ⟨by simp [go_sem], by simp [go_sem]⟩⟩ ?_
  rintro w0 ⟨hx0, hb0, hq0⟩
  have hE := hx0
  refine (ValidVolume_yes _ _ _ A0 n0 m0 _ hn0 HVX.out).mono ?_
  rintro e w1 ⟨rfl, hx⟩
  replace hE := hE.trans hx
  replace hb0 := hb0.ext hx
  replace hq0 := hq0.ext hx
  have ⟨p0', p1', p2', p3'⟩ := hb0
  have ⟨q0', q1'⟩ := hq0
  go_wp2_with fail
  refine (implValidPrices_no p0 p1 _ HPX.out).mono ?_
  rintro e w2 ⟨rfl, hx⟩
  replace hE := hE.trans hx
  replace hb0 := hb0.ext hx
  replace hq0 := hq0.ext hx
  have ⟨p0', p1', p2', p3'⟩ := hb0
  have ⟨q0', q1'⟩ := hq0
  go_wp2
  go_ret
  exact ⟨rfl, hE⟩
theorem rowOk_no3 (z0 z1 z2 : Int) (A0 : Option Addr) (n0 m0 : Nat) (p0 p1 : Nat) (d : Int) (hn0 : n0 ≤ maxLen) (hv : VVol z0 z1 z2 n0) (hp : PV p0 p1) (hd : d < 0 ∨ z1 - 1 < d) (U : World) :
    Calls Try.prog 49 #[.agg #[.int .i64 z0, .int .i64 z1, .int .i64 z2, .slice A0 n0 m0], .agg #[.float .f32 p0, .float .f32 p1], .int .i64 d] U fun e U' => e = .returned (.bool false) ∧ Ext U U' := by
  have HVX := Lib.hid hv
  have HPX := Lib.hid hp
  have a1 : IntKind.i64.wrap (z1 - 1) = z1 - 1 := wrap_small _ (by have := hv.1.2.2.1; omega) (by have := hv.1.2.2.2.1; omega)
  have HDX := Lib.hid hd
  clear hv hp hd
  go_enter Try.func49, Try.ntmps49
  go_wp2_with fail
  refine calls_at (X := fun w' => Ext U w' ∧ Box4 w' U.heap.size (.int .i64 z0) (.int .i64 z1) (.int .i64 z2) (.slice A0 n0 m0) ∧ Box2 w' (U.heap.size + 1) (fl p0) (fl p1)) ⟨((Ext.refl _).alloc _).alloc _, ⟨by simp [go_sem], by simp [go_sem], by simp [go_sem], by simp [go_sem]⟩, ⟨by simp [go_sem], by simp [go_sem]⟩⟩ ?_
  rintro w0 ⟨hx0, hb0, hq0⟩
  have hE := hx0
  refine (ValidVolume_yes _ _ _ A0 n0 m0 _ hn0 HVX.out).mono ?_
  rintro e w1 ⟨rfl, hx⟩
  replace hE := hE.trans hx
  replace hb0 := hb0.ext hx
  replace hq0 := hq0.ext hx
  have ⟨p0', p1', p2', p3'⟩ := hb0
  have ⟨q0', q1'⟩ := hq0
  go_wp2_with fail
  refine (implValidPrices_yes p0 p1 _ HPX.out).mono ?_
  rintro e w2 ⟨rfl, hx⟩
  replace hE := hE.trans hx
  replace hb0 := hb0.ext hx
  replace hq0 := hq0.ext hx
  have ⟨p0', p1', p2', p3'⟩ := hb0
  have ⟨q0', q1'⟩ := hq0
  go_wp2_with (go_at_call 42; refine (implIn_no d _ _ _ HDX.out).mono ?_; rintro e w' ⟨rfl, rfl⟩)
  go_ret
  exact ⟨rfl, hE⟩
theorem rowOk_no (z0 z1 z2 : Int) (A0 : Option Addr) (n0 m0 : Nat) (p0 p1 : Nat) (d : Int) (hn0 : n0 ≤ maxLen) (hno : ¬ ROk z0 z1 z2 n0 p0 p1 d) (U : World) :
    Calls Try.prog 49 #[.agg #[.int .i64 z0, .int .i64 z1, .int .i64 z2, .slice A0 n0 m0], .agg #[.float .f32 p0, .float .f32 p1], .int .i64 d] U fun e U' => e = .returned (.bool false) ∧ Ext U U' := by
  by_cases hv : VVol z0 z1 z2 n0
  · by_cases hp : PV p0 p1
    · exact rowOk_no3 z0 z1 z2 A0 n0 m0 p0 p1 d hn0 hv hp (Decidable.byContradiction fun h => hno ⟨hv, hp, by omega, by omega⟩) U
    · exact rowOk_no2 z0 z1 z2 A0 n0 m0 p0 p1 d hn0 hv hp U
  · exact rowOk_no1 z0 z1 z2 A0 n0 m0 p0 p1 d hn0 hv U
end Go.Proofs.Ythkfbmboiabolaa
