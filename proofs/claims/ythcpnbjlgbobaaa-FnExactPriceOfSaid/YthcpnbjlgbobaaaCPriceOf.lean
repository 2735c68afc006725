/- The walk of the law FnExactPriceOf, told what both functions hand back. -/
import Derived.Test.YthcpnbjlgbobaaaHarS
import Derived.Test.YthcpnbjlgbobaaaKit
import Derived.Lib.Hide
namespace Go.Proofs.Ythcpnbjlgbobaaa
open Go.RowKit
set_option linter.unusedVariables false

set_option maxHeartbeats 4000000 in
theorem lawPriceOf_core (W0 : World) (p0_0 p0_1 : Nat) (a1 : Int) (a2 : Int) (X0 : Nat) (o1 : Bool)
    (hs : ∀ (w : World) , Calls Try.prog 20 #[.agg #[.float .f32 p0_0, .float .f32 p0_1], .int .i64 a1, .int .i64 a2] w fun e w' => ∃ (r0 : Nat), e = .returned (.tuple #[.float .f32 r0, .bool o1]) ∧ Is r0 X0 ∧ Ext w w')
    (hi : ∀ (w : World) , Calls Try.prog 21 #[.agg #[.float .f32 p0_0, .float .f32 p0_1], .int .i64 a1, .int .i64 a2] w fun e w' => ∃ (r0 : Nat), e = .returned (.tuple #[.float .f32 r0, .bool o1]) ∧ Is r0 X0 ∧ Ext w w') :
    Calls Try.prog 5 #[.agg #[.float .f32 p0_0, .float .f32 p0_1], .int .i64 a1, .int .i64 a2] W0 fun e w' => e = .returned (.bool true) ∧ Ext W0 w' := by
  have HS := Lib.hid hs
  have HI := Lib.hid hi
  clear hs hi
  have hE := Ext.refl W0
  have ne1 : (o1 != o1) = false := by cases o1 <;> rfl
  go_enter Try.func5, Try.ntmps5
  go_wp2_with fail
  refine calls_at (X := fun w' => Ext W0 w' ∧ Box2 w' (W0.heap.size) (.float .f32 p0_0) (.float .f32 p0_1)) ?_ ?_
  · refine ⟨?_, ?_⟩
    · repeat (first | with_reducible exact Ext.refl _ | (with_reducible refine Ext.setCell ?_ (by simp; try omega) _) | (with_reducible refine Ext.alloc ?_ _) | (with_reducible refine Ext.drewN ?_ _))
    · refine ⟨?_, ?_⟩ <;> simp [go_sem, *]
  rintro w1 ⟨hx, B0⟩
  have s_w1 : W0.heap.size ≤ w1.heap.size := hx.size
  replace hE := hE.trans hx
  clear hx
  have lt_B0 := B0.lt
  refine (toPrices_any p0_0 p0_1 _).mono ?_
  rintro e w2 ⟨rfl, hx⟩
  have s_w2 : w1.heap.size ≤ w2.heap.size := hx.size
  replace hE := hE.trans hx
  replace B0 := B0.ext hx
  clear hx
  have ⟨uB0_0, uB0_1⟩ := B0
  have ulB0 := B0.lt
  go_wp2_with fail
  clear uB0_0 uB0_1 ulB0
  refine (HS.out _  ).mono ?_
  rintro e w3 ⟨wr0, rfl, wh0, hx⟩
  have s_w3 : w2.heap.size ≤ w3.heap.size := hx.size
  replace hE := hE.trans hx
  replace B0 := B0.ext hx
  clear hx
  have ⟨uB0_0, uB0_1⟩ := B0
  have ulB0 := B0.lt
  go_wp2_with fail
  clear uB0_0 uB0_1 ulB0
  refine (toPrices_any p0_0 p0_1 _).mono ?_
  rintro e w4 ⟨rfl, hx⟩
  have s_w4 : w3.heap.size ≤ w4.heap.size := hx.size
  replace hE := hE.trans hx
  replace B0 := B0.ext hx
  clear hx
  have ⟨uB0_0, uB0_1⟩ := B0
  have ulB0 := B0.lt
  go_wp2_with fail
  clear uB0_0 uB0_1 ulB0
  refine (HI.out _  ).mono ?_
  rintro e w5 ⟨gr0, rfl, gh0, hx⟩
  have s_w5 : w4.heap.size ≤ w5.heap.size := hx.size
  replace hE := hE.trans hx
  replace B0 := B0.ext hx
  clear hx
  have ⟨uB0_0, uB0_1⟩ := B0
  have ulB0 := B0.lt
  go_wp2_with fail
  clear uB0_0 uB0_1 ulB0
  refine calls_at (X := fun w' => Ext w5 w') (by repeat (first | with_reducible exact Ext.refl _ | (with_reducible refine Ext.setCell ?_ (by simp; try omega) _) | (with_reducible refine Ext.alloc ?_ _) | (with_reducible refine Ext.drewN ?_ _))) ?_
  rintro w6 hx
  have s_w6 : w5.heap.size ≤ w6.heap.size := hx.size
  replace hE := hE.trans hx
  replace B0 := B0.ext hx
  clear hx
  refine (sameFloat_any _ _ _ (cv_same _ _ _ _ (gh0.2.trans wh0.2.symm))).mono ?_
  rintro e w7 ⟨rfl, hww⟩
  have hx : Ext w6 w7 := by rw [hww]; exact Ext.refl _
  clear hww
  have s_w7 : w6.heap.size ≤ w7.heap.size := hx.size
  replace hE := hE.trans hx
  replace B0 := B0.ext hx
  clear hx
  have ⟨uB0_0, uB0_1⟩ := B0
  have ulB0 := B0.lt
  go_wp2
  go_ret
  exact ⟨rfl, by assumption⟩
end Go.Proofs.Ythcpnbjlgbobaaa
