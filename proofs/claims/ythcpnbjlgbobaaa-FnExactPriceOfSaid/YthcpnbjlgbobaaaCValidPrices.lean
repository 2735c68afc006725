/- The walk of the law FnExactValidPrices, told what both functions hand back. -/
import Derived.Test.YthcpnbjlgbobaaaHarS
import Derived.Test.YthcpnbjlgbobaaaKit
import Derived.Lib.Hide
namespace Go.Proofs.Ythcpnbjlgbobaaa
open Go.RowKit
set_option linter.unusedVariables false

set_option maxHeartbeats 4000000 in
theorem lawValidPrices_core (W0 : World) (p0_0 p0_1 : Nat) (o0 : Bool)
    (hs : ∀ (w : World) , Calls Try.prog 15 #[.agg #[.float .f32 p0_0, .float .f32 p0_1]] w fun e w' => e = .returned (.bool o0) ∧ Ext w w')
    (hi : ∀ (w : World) , Calls Try.prog 17 #[.agg #[.float .f32 p0_0, .float .f32 p0_1]] w fun e w' => e = .returned (.bool o0) ∧ Ext w w') :
    Calls Try.prog 3 #[.agg #[.float .f32 p0_0, .float .f32 p0_1]] W0 fun e w' => e = .returned (.bool true) ∧ Ext W0 w' := by
  have HS := Lib.hid hs
  have HI := Lib.hid hi
  clear hs hi
  have hE := Ext.refl W0
  have ne0 : (o0 != o0) = false := by cases o0 <;> rfl
  go_enter Try.func3, Try.ntmps3
  go_wp2_with fail
  refine calls_at (X := fun w' => Ext W0 w' ∧ Box2 w' (W0.heap.size) (.float .f32 p0_0) (.float .f32 p0_1)) ?_ ?_
  · refine ⟨?_, ?_⟩
    · repeat (first | with_reducible exact Ext.refl _ | (with_reducible refine Ext.setCell ?_ (by simp; try omega) _) | (with_reducible refine Ext.alloc ?_ _) | (with_reducible refine Ext.drewN ?_ _))
    · refine ⟨?_, ?_⟩ <;> simp [go_sem, *]
  rintro w1 ⟨hx, B0⟩
  have s_w1 : W0.heap.size ≤ w1.heap.size := hx.size
  replace hE := hE.trans hx
  clear hx
  have lt_B0 := B0.lt
  refine (toPrices_any p0_0 p0_1 _).mono ?_
  rintro e w2 ⟨rfl, hx⟩
  have s_w2 : w1.heap.size ≤ w2.heap.size := hx.size
  replace hE := hE.trans hx
  replace B0 := B0.ext hx
  clear hx
  have ⟨uB0_0, uB0_1⟩ := B0
  have ulB0 := B0.lt
  go_wp2_with fail
  clear uB0_0 uB0_1 ulB0
  refine (HS.out _  ).mono ?_
  rintro e w3 ⟨rfl, hx⟩
  have s_w3 : w2.heap.size ≤ w3.heap.size := hx.size
  replace hE := hE.trans hx
  replace B0 := B0.ext hx
  clear hx
  have ⟨uB0_0, uB0_1⟩ := B0
  have ulB0 := B0.lt
  go_wp2_with fail
  clear uB0_0 uB0_1 ulB0
  refine (toPrices_any p0_0 p0_1 _).mono ?_
  rintro e w4 ⟨rfl, hx⟩
  have s_w4 : w3.heap.size ≤ w4.heap.size := hx.size
  replace hE := hE.trans hx
  replace B0 := B0.ext hx
  clear hx
  have ⟨uB0_0, uB0_1⟩ := B0
  have ulB0 := B0.lt
  go_wp2_with fail
  clear uB0_0 uB0_1 ulB0
  refine (HI.out _  ).mono ?_
  rintro e w5 ⟨rfl, hx⟩
  have s_w5 : w4.heap.size ≤ w5.heap.size := hx.size
  replace hE := hE.trans hx
  replace B0 := B0.ext hx
  clear hx
  have ⟨uB0_0, uB0_1⟩ := B0
  have ulB0 := B0.lt
  go_wp2
  go_ret
  exact ⟨rfl, by assumption⟩
end Go.Proofs.Ythcpnbjlgbobaaa
