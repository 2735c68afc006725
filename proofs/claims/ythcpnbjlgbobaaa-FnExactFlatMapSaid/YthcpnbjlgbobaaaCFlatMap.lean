/- The walk of the law FnExactFlatMap, told what both functions hand back. -/
import Derived.Test.YthcpnbjlgbobaaaHarS
import Derived.Test.YthcpnbjlgbobaaaKit
import Derived.Lib.Hide
namespace Go.Proofs.Ythcpnbjlgbobaaa
open Go.RowKit
set_option linter.unusedVariables false

set_option maxHeartbeats 4000000 in
theorem lawFlatMap_core (W0 : World) (a0 : Int) (a1 : Int) (a2 : Nat) (o0_0 o0_1 : Int) (L0 : List Nat) (hL0 : L0.length ≤ 4096) (o1 : Bool)
    (hs : ∀ (w : World) , Calls Try.prog 37 #[.int .i64 a0, .int .i64 a1, .float .f32 a2] w fun e w' => ∃ (A0 : Option Addr) (c0 : Nat) (b0 : List Nat), e = .returned (.tuple #[.agg #[.int .i64 o0_0, .int .i64 o0_1, .slice A0 b0.length c0], .bool o1]) ∧ OwnF w' w.heap.size 22 (.slice A0 b0.length c0) b0 ∧ b0.map nrm = L0 ∧ Ext w w')
    (hi : ∀ (w : World) , Calls Try.prog 38 #[.int .i64 a0, .int .i64 a1, .float .f32 a2] w fun e w' => ∃ (A0 : Option Addr) (c0 : Nat) (b0 : List Nat), e = .returned (.tuple #[.agg #[.int .i64 o0_0, .int .i64 o0_1, .slice A0 b0.length c0], .bool o1]) ∧ OwnF w' w.heap.size 22 (.slice A0 b0.length c0) b0 ∧ b0.map nrm = L0 ∧ Ext w w') :
    Calls Try.prog 10 #[.int .i64 a0, .int .i64 a1, .float .f32 a2] W0 fun e w' => e = .returned (.bool true) ∧ Ext W0 w' := by
  have HS := Lib.hid hs
  have HI := Lib.hid hi
  clear hs hi
  have hE := Ext.refl W0
  have ne1 : (o1 != o1) = false := by cases o1 <;> rfl
  go_enter Try.func10, Try.ntmps10
  go_wp2_with fail
  refine (HS.out _  ).mono ?_
  rintro e w1 ⟨wA0, wc0, wb0, rfl, wo0, wm0, hx⟩
  have s_w1 : W0.heap.size ≤ w1.heap.size := hx.size
  replace hE := hE.trans hx
  clear hx
  have wl0 : wb0.length ≤ 4096 := by have := congrArg List.length wm0; simp only [List.length_map] at this; omega
  have wq0 := wo0.row
  go_wp2_with fail
  refine calls_at (X := fun w' => Ext w1 w' ∧ Box3 w' (w1.heap.size) (.int .i64 o0_0) (.int .i64 o0_1) (.slice wA0 wb0.length wc0)) ?_ ?_
  · refine ⟨?_, ?_⟩
    · repeat (first | with_reducible exact Ext.refl _ | (with_reducible refine Ext.setCell ?_ (by simp; try omega) _) | (with_reducible refine Ext.alloc ?_ _) | (with_reducible refine Ext.drewN ?_ _))
    · refine ⟨?_, ?_, ?_⟩ <;> simp [go_sem, *]
  rintro w2 ⟨hx, wB0⟩
  have s_w2 : w1.heap.size ≤ w2.heap.size := hx.size
  replace hE := hE.trans hx
  replace wo0 := wo0.ext hx
  clear hx
  have lt_wB0 := wB0.lt
  refine (HI.out _  ).mono ?_
  rintro e w3 ⟨gA0, gc0, gb0, rfl, go0, gm0, hx⟩
  have s_w3 : w2.heap.size ≤ w3.heap.size := hx.size
  replace hE := hE.trans hx
  replace wo0 := wo0.ext hx
  replace wB0 := wB0.ext hx
  clear hx
  have gl0 : gb0.length ≤ 4096 := by have := congrArg List.length gm0; simp only [List.length_map] at this; omega
  have gq0 := go0.row
  have ⟨uwB0_0, uwB0_1, uwB0_2⟩ := wB0
  have ulwB0 := wB0.lt
  go_wp2_with fail
  clear uwB0_0 uwB0_1 uwB0_2 ulwB0
  refine calls_at (X := fun w' => Ext w3 w' ∧ Box3 w' (w3.heap.size) (.int .i64 o0_0) (.int .i64 o0_1) (.slice gA0 gb0.length gc0)) ?_ ?_
  · refine ⟨?_, ?_⟩
    · repeat (first | with_reducible exact Ext.refl _ | (with_reducible refine Ext.setCell ?_ (by simp; try omega) _) | (with_reducible refine Ext.alloc ?_ _) | (with_reducible refine Ext.drewN ?_ _))
    · refine ⟨?_, ?_, ?_⟩ <;> simp [go_sem, *]
  rintro w4 ⟨hx, gB0⟩
  have s_w4 : w3.heap.size ≤ w4.heap.size := hx.size
  replace hE := hE.trans hx
  replace wo0 := wo0.ext hx
  replace wB0 := wB0.ext hx
  replace go0 := go0.ext hx
  clear hx
  have lt_gB0 := gB0.lt
  refine (eqMap_any o0_0 o0_1 _ _ _ _ _ _ _ _ _ (by unfold maxLen; omega) go0.reads wo0.reads (gm0.trans wm0.symm)).mono ?_
  rintro e w5 ⟨rfl, hx⟩
  have s_w5 : w4.heap.size ≤ w5.heap.size := hx.size
  replace hE := hE.trans hx
  replace wo0 := wo0.ext hx
  replace wB0 := wB0.ext hx
  replace go0 := go0.ext hx
  replace gB0 := gB0.ext hx
  clear hx
  have ⟨uwB0_0, uwB0_1, uwB0_2⟩ := wB0
  have ulwB0 := wB0.lt
  have ⟨ugB0_0, ugB0_1, ugB0_2⟩ := gB0
  have ulgB0 := gB0.lt
  go_wp2_with fail
  clear uwB0_0 uwB0_1 uwB0_2 ulwB0 ugB0_0 ugB0_1 ugB0_2 ulgB0
  refine (markMap_i o0_0 o0_1 gA0 gb0.length gc0 gb0 (1) _ _ (by omega) (by omega) go0).mono ?_
  rintro e w6 ⟨rfl, hm, hgr⟩
  have s_w6 : w5.heap.size ≤ w6.heap.size := hgr.size
  replace hE := Ext.grown hE hgr (fun g hg => by have := gq0 g hg; omega)
  replace wo0 := wo0.grown hgr (rows_apart wq0 gq0 (by omega))
  replace wB0 := wB0.grown hgr (row_box gq0 _ (by omega))
  replace gB0 := gB0.grown hgr (row_box gq0 _ (by omega))
  clear hgr
  clear go0
  have go0 := hm
  clear hm
  have ⟨uwB0_0, uwB0_1, uwB0_2⟩ := wB0
  have ulwB0 := wB0.lt
  have ⟨ugB0_0, ugB0_1, ugB0_2⟩ := gB0
  have ulgB0 := gB0.lt
  go_wp2_with fail
  clear uwB0_0 uwB0_1 uwB0_2 ulwB0 ugB0_0 ugB0_1 ugB0_2 ulgB0
  refine (heldMap_i o0_0 o0_1 gA0 gb0.length gc0 gb0.length (1) _ _ (by omega) (by omega) go0).mono ?_
  rintro e w7 ⟨rfl, hx⟩
  have s_w7 : w6.heap.size ≤ w7.heap.size := hx.size
  replace hE := hE.trans hx
  replace wo0 := wo0.ext hx
  replace wB0 := wB0.ext hx
  replace go0 := go0.ext hx
  replace gB0 := gB0.ext hx
  clear hx
  have nm : ¬ 1 + (gb0.length : Int) < 0 := by omega
  have nn : (1 + (gb0.length : Int) != 1 + (gb0.length : Int)) = false := by simp
  have ⟨uwB0_0, uwB0_1, uwB0_2⟩ := wB0
  have ulwB0 := wB0.lt
  have ⟨ugB0_0, ugB0_1, ugB0_2⟩ := gB0
  have ulgB0 := gB0.lt
  go_wp2_with fail
  clear uwB0_0 uwB0_1 uwB0_2 ulwB0 ugB0_0 ugB0_1 ugB0_2 ulgB0
  refine (HI.out _  ).mono ?_
  rintro e w8 ⟨hA0, hc0, hb0, rfl, ho0, hm0, hx⟩
  have s_w8 : w7.heap.size ≤ w8.heap.size := hx.size
  replace hE := hE.trans hx
  replace wo0 := wo0.ext hx
  replace wB0 := wB0.ext hx
  replace go0 := go0.ext hx
  replace gB0 := gB0.ext hx
  clear hx
  have hl0 : hb0.length ≤ 4096 := by have := congrArg List.length hm0; simp only [List.length_map] at this; omega
  have hq0 := ho0.row
  have ⟨uwB0_0, uwB0_1, uwB0_2⟩ := wB0
  have ulwB0 := wB0.lt
  have ⟨ugB0_0, ugB0_1, ugB0_2⟩ := gB0
  have ulgB0 := gB0.lt
  go_wp2_with fail
  clear uwB0_0 uwB0_1 uwB0_2 ulwB0 ugB0_0 ugB0_1 ugB0_2 ulgB0
  refine calls_at (X := fun w' => Ext w8 w' ∧ Box3 w' (w8.heap.size) (.int .i64 o0_0) (.int .i64 o0_1) (.slice hA0 hb0.length hc0)) ?_ ?_
  · refine ⟨?_, ?_⟩
    · repeat (first | with_reducible exact Ext.refl _ | (with_reducible refine Ext.setCell ?_ (by simp; try omega) _) | (with_reducible refine Ext.alloc ?_ _) | (with_reducible refine Ext.drewN ?_ _))
    · refine ⟨?_, ?_, ?_⟩ <;> simp [go_sem, *]
  rintro w9 ⟨hx, hB0⟩
  have s_w9 : w8.heap.size ≤ w9.heap.size := hx.size
  replace hE := hE.trans hx
  replace wo0 := wo0.ext hx
  replace wB0 := wB0.ext hx
  replace go0 := go0.ext hx
  replace gB0 := gB0.ext hx
  replace ho0 := ho0.ext hx
  clear hx
  have lt_hB0 := hB0.lt
  refine (eqMap_any o0_0 o0_1 _ _ _ _ _ _ _ _ _ (by unfold maxLen; omega) ho0.reads wo0.reads (hm0.trans wm0.symm)).mono ?_
  rintro e w10 ⟨rfl, hx⟩
  have s_w10 : w9.heap.size ≤ w10.heap.size := hx.size
  replace hE := hE.trans hx
  replace wo0 := wo0.ext hx
  replace wB0 := wB0.ext hx
  replace go0 := go0.ext hx
  replace gB0 := gB0.ext hx
  replace ho0 := ho0.ext hx
  replace hB0 := hB0.ext hx
  clear hx
  have ⟨uwB0_0, uwB0_1, uwB0_2⟩ := wB0
  have ulwB0 := wB0.lt
  have ⟨ugB0_0, ugB0_1, ugB0_2⟩ := gB0
  have ulgB0 := gB0.lt
  have ⟨uhB0_0, uhB0_1, uhB0_2⟩ := hB0
  have ulhB0 := hB0.lt
  go_wp2_with fail
  clear uwB0_0 uwB0_1 uwB0_2 ulwB0 ugB0_0 ugB0_1 ugB0_2 ulgB0 uhB0_0 uhB0_1 uhB0_2 ulhB0
  refine (heldMap_i o0_0 o0_1 gA0 gb0.length gc0 gb0.length (1) _ _ (by omega) (by omega) go0).mono ?_
  rintro e w11 ⟨rfl, hx⟩
  have s_w11 : w10.heap.size ≤ w11.heap.size := hx.size
  replace hE := hE.trans hx
  replace wo0 := wo0.ext hx
  replace wB0 := wB0.ext hx
  replace go0 := go0.ext hx
  replace gB0 := gB0.ext hx
  replace ho0 := ho0.ext hx
  replace hB0 := hB0.ext hx
  clear hx
  have ⟨uwB0_0, uwB0_1, uwB0_2⟩ := wB0
  have ulwB0 := wB0.lt
  have ⟨ugB0_0, ugB0_1, ugB0_2⟩ := gB0
  have ulgB0 := gB0.lt
  have ⟨uhB0_0, uhB0_1, uhB0_2⟩ := hB0
  have ulhB0 := hB0.lt
  go_wp2
  go_ret
  exact ⟨rfl, by assumption⟩
end Go.Proofs.Ythcpnbjlgbobaaa
