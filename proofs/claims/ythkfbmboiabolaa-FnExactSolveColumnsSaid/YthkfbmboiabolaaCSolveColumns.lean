/- The walk of the law FnExactSolveColumns, told what both functions hand back. -/
import Derived.Test.YthkfbmboiabolaaHarS
import Derived.Test.YthkfbmboiabolaaCube
import Derived.Test.YthkfbmboiabolaaEdge
import Derived.Lib.Hide
namespace Go.Proofs.Ythkfbmboiabolaa
open Go.RowKit
set_option linter.unusedVariables false

set_option maxHeartbeats 4000000 in
set_option maxRecDepth 8000 in
theorem lawSolveColumns_core (W0 : World) (z0_0 z0_1 z0_2 : Int) (A0 : Option Addr) (n0 e0 : Nat) (bs0 : List Nat) (hn0 : n0 ≤ maxLen) (hr0 : Reads W0 A0 n0 bs0) (p1_0 p1_1 : Nat) (o0_0 o0_1 : Int) (L0 : List Nat) (hL0 : L0.length ≤ 4096) (o1 : Bool)
    (hs : ∀ (w : World) (D0 : Option Addr), Reads w D0 n0 bs0 → Calls Try.prog 34 #[.agg #[.int .i64 z0_0, .int .i64 z0_1, .int .i64 z0_2, .slice D0 n0 n0], .agg #[.float .f32 p1_0, .float .f32 p1_1]] w fun e w' => ∃ (A0 : Option Addr) (c0 : Nat) (b0 : List Nat), e = .returned (.tuple #[.agg #[.int .i64 o0_0, .int .i64 o0_1, .slice A0 b0.length c0], .bool o1]) ∧ OwnF w' w.heap.size 23 (.slice A0 b0.length c0) b0 ∧ b0.map nrm = L0 ∧ Ext w w')
    (hi : ∀ (w : World) (D0 : Option Addr), Reads w D0 n0 bs0 → Calls Try.prog 35 #[.agg #[.int .i64 z0_0, .int .i64 z0_1, .int .i64 z0_2, .slice D0 n0 n0], .agg #[.float .f32 p1_0, .float .f32 p1_1]] w fun e w' => ∃ (A0 : Option Addr) (c0 : Nat) (b0 : List Nat), e = .returned (.tuple #[.agg #[.int .i64 o0_0, .int .i64 o0_1, .slice A0 b0.length c0], .bool o1]) ∧ OwnF w' w.heap.size 23 (.slice A0 b0.length c0) b0 ∧ b0.map nrm = L0 ∧ Ext w w') :
    Calls Try.prog 7 #[.agg #[.int .i64 z0_0, .int .i64 z0_1, .int .i64 z0_2, .slice A0 n0 e0], .agg #[.float .f32 p1_0, .float .f32 p1_1]] W0 fun e w' => e = .returned (.bool true) ∧ Ext W0 w' := by
  have HS := Lib.hid hs
  have HI := Lib.hid hi
  clear hs hi
  have hE := Ext.refl W0
  have ne1 : (o1 != o1) = false := by cases o1 <;> rfl
  go_enter Try.func7, Try.ntmps7
  go_wp2_with fail
  refine calls_at (X := fun w' => Ext W0 w' ∧ Box4 w' (W0.heap.size) (.int .i64 z0_0) (.int .i64 z0_1) (.int .i64 z0_2) (.slice A0 n0 e0) ∧ Box2 w' (W0.heap.size + 1) (.float .f32 p1_0) (.float .f32 p1_1)) ?_ ?_
  · refine ⟨?_, ?_, ?_⟩
    · repeat (first | with_reducible exact Ext.refl _ |  (with_reducible refine Ext.setCell ?_ (by simp; try omega) _) | (with_reducible refine Ext.alloc ?_ _) | (with_reducible refine Ext.drewN ?_ _))
    · refine ⟨?_, ?_, ?_, ?_⟩ <;> simp [go_sem, *]
    · refine ⟨?_, ?_⟩ <;> simp [go_sem, *]
  rintro w1 ⟨hx, B0, B1⟩
  have s_w1 : W0.heap.size ≤ w1.heap.size := hx.size
  replace hE := hE.trans hx
  clear hx
  have lt_B0 := B0.lt
  have lt_B1 := B1.lt
  by_cases hf0 : (n0 : Int) ≤ 1048576
  rotate_left
  · refine (szVolume_over z0_0 z0_1 z0_2 A0 n0 e0 (1048576) _ hn0 (by omega) (by omega) (by omega)).mono ?_
    rintro e wz ⟨rfl, hx⟩
    go_wp2
    go_ret
    exact ⟨rfl, hE.trans hx⟩
  refine (szVolume_fits z0_0 z0_1 z0_2 A0 n0 e0 (1048576) _ hn0 (by omega) (by omega) hf0).mono ?_
  rintro e w2 ⟨rfl, hx⟩
  have s_w2 : w1.heap.size ≤ w2.heap.size := hx.size
  replace hE := hE.trans hx
  replace B0 := B0.ext hx
  replace B1 := B1.ext hx
  clear hx
  have nl0 : ¬ 1048576 - (n0 : Int) < 0 := by omega
  have hq0 : n0 ≤ 1048576 := by omega
  have hl0 : bs0.length = n0 := hr0.1
  have ⟨uB0_0, uB0_1, uB0_2, uB0_3⟩ := B0
  have ulB0 := B0.lt
  have ⟨uB1_0, uB1_1⟩ := B1
  have ulB1 := B1.lt
  go_wp2_with fail
  refine region_we 7 9 9 [none, some (fun u W => ∃ g, u = .agg #[.int .i64 z0_0, .int .i64 z0_1, .int .i64 z0_2, .slice (some ⟨g, 0, none⟩) n0 n0] ∧ Reads W (some ⟨g, 0, none⟩) n0 bs0), none, none, some (fun u W => ∃ (A0 : Option Addr) (c0 : Nat) (b0 : List Nat), u = .tuple #[.agg #[.int .i64 o0_0, .int .i64 o0_1, .slice A0 b0.length c0], .bool o1] ∧ OwnF W w2.heap.size 23 (.slice A0 b0.length c0) b0 ∧ b0.map nrm = L0), none, none, none, none] (by kernel_rfl) (by kernel_rfl) (by kernel_rfl) ?_
  dsimp only [addEdge]
  simp only [List.take_succ_cons, List.take_zero, List.drop_succ_cons, List.drop_zero]
  repeat ((first | refine wx_skip rfl ?_ | refine wx_nilCheck rfl rfl _ rfl _ rfl ?_ | (refine wx_float rfl rfl _ _ _ _ _ _ _ rfl rfl rfl rfl ?_; intro r hr) | (refine wx_k rfl rfl rfl (fun K hK => ?_); go_big_quiet_op; refine hK _ ?_; clear hK K) | (refine wx_callR _ rfl rfl 18 _ _ rfl (by kernel_rfl) (fun W hW hF => ?_) ?_; (· go_simp; (with_reducible refine (toVolume_any z0_0 z0_1 z0_2 A0 n0 e0 bs0 W hq0 (hr0.ext (hE.trans hW))).mono ?_); rintro e w' ⟨g, _, rfl, ho, hx⟩; exact ⟨_, rfl, ⟨g, rfl, ho.reads⟩, hx⟩); rintro u V0 hV0 ⟨g0, rfl, hrd0⟩) | (refine wx_call rfl rfl 11 _ _ rfl (by kernel_rfl) (by kernel_rfl) (.agg #[.float .f32 p1_0, .float .f32 p1_1]) (fun W hW hF => ?_) ?_; (· go_simp; (with_reducible refine (toPrices_any p1_0 p1_1 W).mono ?_); rintro e w' h; exact h)) | (refine wx_callR _ rfl rfl 34 _ _ rfl (by kernel_rfl) (fun W hW hF => ?_) ?_; (· go_simp; have hVW0 : Ext V0 W := hF 1 (by kernel_rfl); (with_reducible refine (HS.out W (some ⟨g0, 0, none⟩) (hrd0.ext hVW0)).mono ?_); rintro e w' ⟨A0, c0, b0, rfl, o0', m0, hx⟩; exact ⟨_, rfl, ⟨A0, c0, b0, rfl, o0'.weaken hW.size, m0⟩, hx⟩); rintro u VF hVF ⟨wA0, wc0, wb0, rfl, wo0, wm0⟩) | (refine wx_alloc rfl rfl 54 rfl #[.int .i64 0, .int .i64 0, .slice none 0 0] (fun Z => by simp [Instr.alloc, go_sem]) ?_; intro Va hVa)); (try simp only [Act.put, List.setIfInBounds_toArray, List.set_cons_zero, List.set_cons_succ]); (try simp only [List.tail_cons]))
  refine wx_nil (fun W hW hF => ?_)
  have hFW : Ext VF W := hF 4
  have hAW : Ext (Va.alloc (.cells #[.int .i64 0, .int .i64 0, .slice none 0 0] 54)) W := hF 8
  have hAg : w2.heap.size ≤ Va.heap.size := hVa.size
  have rB := (⟨by simp [go_sem], by simp [go_sem], by simp [go_sem], by simp [go_sem], by simp [go_sem], by simp [go_sem]⟩ : Res3 (Va.alloc (.cells #[.int .i64 0, .int .i64 0, .slice none 0 0] 54)) Va.heap.size).ext hAW
  have rH : W.heap[Va.heap.size]? = some (.cells #[.int .i64 0, .int .i64 0, .slice none 0 0] 54 (0, 0)) := (hAW.block _ (by simp)).trans (heap_alloc_new _ _)
  clear hAW
  generalize Va.heap.size = HBw at hAg rB rH ⊢
  clear uB0_0 uB0_1 uB0_2 uB0_3 ulB0 uB1_0 uB1_1 ulB1 hF
  replace wo0 := wo0.ext hFW
  have wn := wo0.ne_block rH (by decide)
  clear hFW rH
  have hBl := rB.lt
  have wl0 : wb0.length ≤ 4096 := by have := congrArg List.length wm0; simp only [List.length_map] at this; omega
  have ⟨uB0_0, uB0_1, uB0_2, uB0_3⟩ := B0.ext hW
  have ulB0 := B0.lt
  have ⟨uB1_0, uB1_1⟩ := B1.ext hW
  have ulB1 := B1.lt
  have ⟨rc0, rc1, rc2, rf0, rf1, rf2⟩ := rB
  go_wp2_with fail
  clear uB0_0 uB0_1 uB0_2 uB0_3 ulB0 uB1_0 uB1_1 ulB1
  refine np_at (X := fun w' => Ext w2 w' ∧ Box3 w' (HBw) (.int .i64 o0_0) (.int .i64 o0_1) (.slice wA0 wb0.length wc0) ∧ W.heap.size ≤ w'.heap.size ∧ OwnF w' w2.heap.size 23 (.slice wA0 wb0.length wc0) wb0) ?_ ?_
  · refine ⟨?_, ?_, ?_, ?_⟩
    · repeat (first | with_reducible exact Ext.refl _ | with_reducible exact hW | (with_reducible refine Ext.setCell ?_ (by first | (dsimp only; omega) | omega) _) | (with_reducible refine Ext.alloc ?_ _) | (with_reducible refine Ext.drewN ?_ _))
    · refine ⟨?_, ?_, ?_⟩ <;> simp [go_sem, *]
    · simp
    · repeat (first | with_reducible exact wo0 | (with_reducible refine OwnF.set_ne ?_ (fun g hg => by have := wn g hg; dsimp only; omega) _))
  clear wo0 rB rc0 rc1 rc2 rf0 rf1 rf2
  rintro w3 ⟨hx, wB0, hWs, wo0⟩
  clear hW
  have s_w3 : w2.heap.size ≤ w3.heap.size := hx.size
  replace hE := hE.trans hx
  replace B0 := B0.ext hx
  replace B1 := B1.ext hx
  clear hx
  have wq0 := wo0.row
  have lt_wB0 := wB0.lt
  have ⟨uB0_0, uB0_1, uB0_2, uB0_3⟩ := B0
  have ulB0 := B0.lt
  have ⟨uB1_0, uB1_1⟩ := B1
  have ulB1 := B1.lt
  have ⟨uwB0_0, uwB0_1, uwB0_2⟩ := wB0
  have ulwB0 := wB0.lt
  go_wp2_with fail
  clear uB0_0 uB0_1 uB0_2 uB0_3 ulB0 uB1_0 uB1_1 ulB1 uwB0_0 uwB0_1 uwB0_2 ulwB0
  refine (toVolume_any z0_0 z0_1 z0_2 A0 n0 e0 bs0 _ hq0 (hr0.ext hE)).mono ?_
  rintro e w4 ⟨xg0, xk0, rfl, xt0, hx⟩
  have s_w4 : w3.heap.size ≤ w4.heap.size := hx.size
  replace hE := hE.trans hx
  replace B0 := B0.ext hx
  replace B1 := B1.ext hx
  replace wo0 := wo0.ext hx
  replace wB0 := wB0.ext hx
  clear hx
  have xq0 := xt0.row
  have ⟨uB0_0, uB0_1, uB0_2, uB0_3⟩ := B0
  have ulB0 := B0.lt
  have ⟨uB1_0, uB1_1⟩ := B1
  have ulB1 := B1.lt
  have ⟨uwB0_0, uwB0_1, uwB0_2⟩ := wB0
  have ulwB0 := wB0.lt
  go_wp2_with fail
  clear uB0_0 uB0_1 uB0_2 uB0_3 ulB0 uB1_0 uB1_1 ulB1 uwB0_0 uwB0_1 uwB0_2 ulwB0
  refine wp_at (X := fun w' => Ext w4 w' ∧ Box4 w' (w4.heap.size) (.int .i64 z0_0) (.int .i64 z0_1) (.int .i64 z0_2) (.slice (some ⟨xg0, 0, none⟩) n0 n0)) ?_ ?_
  · refine ⟨?_, ?_⟩
    · repeat (first | with_reducible exact Ext.refl _ |  (with_reducible refine Ext.setCell ?_ (by simp; try omega) _) | (with_reducible refine Ext.alloc ?_ _) | (with_reducible refine Ext.drewN ?_ _))
    · refine ⟨?_, ?_, ?_, ?_⟩ <;> simp [go_sem, *]
  rintro w5 ⟨hx, xB0⟩
  have s_w5 : w4.heap.size ≤ w5.heap.size := hx.size
  replace hE := hE.trans hx
  replace B0 := B0.ext hx
  replace B1 := B1.ext hx
  replace wo0 := wo0.ext hx
  replace wB0 := wB0.ext hx
  replace xt0 := xt0.ext hx
  clear hx
  have lt_xB0 := xB0.lt
  have ⟨uB0_0, uB0_1, uB0_2, uB0_3⟩ := B0
  have ulB0 := B0.lt
  have ⟨uB1_0, uB1_1⟩ := B1
  have ulB1 := B1.lt
  have ⟨uwB0_0, uwB0_1, uwB0_2⟩ := wB0
  have ulwB0 := wB0.lt
  have ⟨uxB0_0, uxB0_1, uxB0_2, uxB0_3⟩ := xB0
  have ulxB0 := xB0.lt
  refine region_we 6 8 8 [none, none, none, some (fun u W => ∃ (A0 : Option Addr) (c0 : Nat) (b0 : List Nat), u = .tuple #[.agg #[.int .i64 o0_0, .int .i64 o0_1, .slice A0 b0.length c0], .bool o1] ∧ OwnF W w5.heap.size 23 (.slice A0 b0.length c0) b0 ∧ b0.map nrm = L0), none, none, none, none] (by kernel_rfl) (by kernel_rfl) (by kernel_rfl) ?_
  dsimp only [addEdge]
  simp only [List.take_succ_cons, List.take_zero, List.drop_succ_cons, List.drop_zero]
  repeat ((first | refine wx_skip rfl ?_ | refine wx_nilCheck rfl rfl _ rfl _ rfl ?_ | (refine wx_float rfl rfl _ _ _ _ _ _ _ rfl rfl rfl rfl ?_; intro r hr) | (refine wx_k rfl rfl rfl (fun K hK => ?_); go_big_quiet_op; refine hK _ ?_; clear hK K) | (refine wx_call rfl rfl 11 _ _ rfl (by kernel_rfl) (by kernel_rfl) (.agg #[.float .f32 p1_0, .float .f32 p1_1]) (fun W hW hF => ?_) ?_; (· go_simp; (with_reducible refine (toPrices_any p1_0 p1_1 W).mono ?_); rintro e w' h; exact h)) | (refine wx_callR _ rfl rfl 35 _ _ rfl (by kernel_rfl) (fun W hW hF => ?_) ?_; (· go_simp; (with_reducible refine (HI.out W (some ⟨xg0, 0, none⟩) (xt0.ext hW).reads).mono ?_); rintro e w' ⟨A0, c0, b0, rfl, o0', m0, hx⟩; exact ⟨_, rfl, ⟨A0, c0, b0, rfl, o0'.weaken hW.size, m0⟩, hx⟩); rintro u VF hVF ⟨gA0, gc0, gb0, rfl, go0, gm0⟩) | (refine wx_alloc rfl rfl 54 rfl #[.int .i64 0, .int .i64 0, .slice none 0 0] (fun Z => by simp [Instr.alloc, go_sem]) ?_; intro Va hVa)); (try simp only [Act.put, List.setIfInBounds_toArray, List.set_cons_zero, List.set_cons_succ]); (try simp only [List.tail_cons]))
  refine wx_nil (fun W hW hF => ?_)
  have hFW : Ext VF W := hF 3
  have hAW : Ext (Va.alloc (.cells #[.int .i64 0, .int .i64 0, .slice none 0 0] 54)) W := hF 7
  have hAg : w5.heap.size ≤ Va.heap.size := hVa.size
  have rB := (⟨by simp [go_sem], by simp [go_sem], by simp [go_sem], by simp [go_sem], by simp [go_sem], by simp [go_sem]⟩ : Res3 (Va.alloc (.cells #[.int .i64 0, .int .i64 0, .slice none 0 0] 54)) Va.heap.size).ext hAW
  have rH : W.heap[Va.heap.size]? = some (.cells #[.int .i64 0, .int .i64 0, .slice none 0 0] 54 (0, 0)) := (hAW.block _ (by simp)).trans (heap_alloc_new _ _)
  clear hAW
  generalize Va.heap.size = HBg at hAg rB rH ⊢
  clear uB0_0 uB0_1 uB0_2 uB0_3 ulB0 uB1_0 uB1_1 ulB1 uwB0_0 uwB0_1 uwB0_2 ulwB0 uxB0_0 uxB0_1 uxB0_2 uxB0_3 ulxB0 hF
  replace go0 := go0.ext hFW
  have gn := go0.ne_block rH (by decide)
  clear hFW rH
  have hBl := rB.lt
  have gl0 : gb0.length ≤ 4096 := by have := congrArg List.length gm0; simp only [List.length_map] at this; omega
  have ⟨uB0_0, uB0_1, uB0_2, uB0_3⟩ := B0.ext hW
  have ulB0 := B0.lt
  have ⟨uB1_0, uB1_1⟩ := B1.ext hW
  have ulB1 := B1.lt
  have ⟨uwB0_0, uwB0_1, uwB0_2⟩ := wB0.ext hW
  have ulwB0 := wB0.lt
  have ⟨uxB0_0, uxB0_1, uxB0_2, uxB0_3⟩ := xB0.ext hW
  have ulxB0 := xB0.lt
  have ⟨rc0, rc1, rc2, rf0, rf1, rf2⟩ := rB
  go_wp2_with fail
  clear uB0_0 uB0_1 uB0_2 uB0_3 ulB0 uB1_0 uB1_1 ulB1 uwB0_0 uwB0_1 uwB0_2 ulwB0 uxB0_0 uxB0_1 uxB0_2 uxB0_3 ulxB0
  refine np_at (X := fun w' => Ext w5 w' ∧ Box3 w' (HBg) (.int .i64 o0_0) (.int .i64 o0_1) (.slice gA0 gb0.length gc0) ∧ W.heap.size ≤ w'.heap.size ∧ OwnF w' w5.heap.size 23 (.slice gA0 gb0.length gc0) gb0) ?_ ?_
  · refine ⟨?_, ?_, ?_, ?_⟩
    · repeat (first | with_reducible exact Ext.refl _ | with_reducible exact hW | (with_reducible refine Ext.setCell ?_ (by first | (dsimp only; omega) | omega) _) | (with_reducible refine Ext.alloc ?_ _) | (with_reducible refine Ext.drewN ?_ _))
    · refine ⟨?_, ?_, ?_⟩ <;> simp [go_sem, *]
    · simp
    · repeat (first | with_reducible exact go0 | (with_reducible refine OwnF.set_ne ?_ (fun g hg => by have := gn g hg; dsimp only; omega) _))
  clear go0 rB rc0 rc1 rc2 rf0 rf1 rf2
  rintro w6 ⟨hx, gB0, hWs, go0⟩
  clear hW
  have s_w6 : w5.heap.size ≤ w6.heap.size := hx.size
  replace hE := hE.trans hx
  replace B0 := B0.ext hx
  replace B1 := B1.ext hx
  replace wo0 := wo0.ext hx
  replace wB0 := wB0.ext hx
  replace xt0 := xt0.ext hx
  replace xB0 := xB0.ext hx
  clear hx
  have gq0 := go0.row
  have lt_gB0 := gB0.lt
  have ⟨uB0_0, uB0_1, uB0_2, uB0_3⟩ := B0
  have ulB0 := B0.lt
  have ⟨uB1_0, uB1_1⟩ := B1
  have ulB1 := B1.lt
  have ⟨uwB0_0, uwB0_1, uwB0_2⟩ := wB0
  have ulwB0 := wB0.lt
  have ⟨uxB0_0, uxB0_1, uxB0_2, uxB0_3⟩ := xB0
  have ulxB0 := xB0.lt
  have ⟨ugB0_0, ugB0_1, ugB0_2⟩ := gB0
  have ulgB0 := gB0.lt
  go_wp2_with fail
  clear uB0_0 uB0_1 uB0_2 uB0_3 ulB0 uB1_0 uB1_1 ulB1 uwB0_0 uwB0_1 uwB0_2 ulwB0 uxB0_0 uxB0_1 uxB0_2 uxB0_3 ulxB0 ugB0_0 ugB0_1 ugB0_2 ulgB0
  refine (eqMap_any o0_0 o0_1 _ _ _ _ _ _ _ _ _ (by unfold maxLen; omega) go0.reads wo0.reads (gm0.trans wm0.symm)).mono ?_
  rintro e w7 ⟨rfl, hx⟩
  have s_w7 : w6.heap.size ≤ w7.heap.size := hx.size
  replace hE := hE.trans hx
  replace B0 := B0.ext hx
  replace B1 := B1.ext hx
  replace wo0 := wo0.ext hx
  replace wB0 := wB0.ext hx
  replace xt0 := xt0.ext hx
  replace xB0 := xB0.ext hx
  replace go0 := go0.ext hx
  replace gB0 := gB0.ext hx
  clear hx
  have ⟨uB0_0, uB0_1, uB0_2, uB0_3⟩ := B0
  have ulB0 := B0.lt
  have ⟨uB1_0, uB1_1⟩ := B1
  have ulB1 := B1.lt
  have ⟨uwB0_0, uwB0_1, uwB0_2⟩ := wB0
  have ulwB0 := wB0.lt
  have ⟨uxB0_0, uxB0_1, uxB0_2, uxB0_3⟩ := xB0
  have ulxB0 := xB0.lt
  have ⟨ugB0_0, ugB0_1, ugB0_2⟩ := gB0
  have ulgB0 := gB0.lt
  go_wp2_with fail
  refine region_wx0 [none, none, some (fun u W => ∃ g, u = .agg #[.int .i64 z0_0, .int .i64 z0_1, .int .i64 z0_2, .slice (some ⟨g, 0, none⟩) n0 n0] ∧ Reads W (some ⟨g, 0, none⟩) n0 bs0)] (by kernel_rfl) (by kernel_rfl) ?_
  repeat ((first | refine wx_skip rfl ?_ | refine wx_nilCheck rfl rfl _ rfl _ rfl ?_ | (refine wx_float rfl rfl _ _ _ _ _ _ _ rfl rfl rfl rfl ?_; intro r hr) | (refine wx_k rfl rfl rfl (fun K hK => ?_); go_big_quiet_op; refine hK _ ?_; clear hK K) | (refine wx_callR _ rfl rfl 18 _ _ rfl (by kernel_rfl) (fun W hW hF => ?_) ?_; (· go_simp; (with_reducible refine (toVolume_any z0_0 z0_1 z0_2 A0 n0 e0 bs0 W hq0 (hr0.ext (hE.trans hW))).mono ?_); rintro e w' ⟨g, _, rfl, ho, hx⟩; exact ⟨_, rfl, ⟨g, rfl, ho.reads⟩, hx⟩); rintro u V hV ⟨g, rfl, hrd⟩) | (refine wx_call rfl rfl 22 _ _ rfl (by kernel_rfl) (by kernel_rfl) (.bool true) (fun W hW hF => ?_) ?_; (· go_simp; have hVW : Ext V W := hF 2 (by kernel_rfl); (with_reducible refine (eqVolume_any z0_0 z0_1 z0_2 _ _ _ _ _ _ bs0 bs0 W hn0 (xt0.ext hW).reads (hrd.ext hVW) rfl).mono ?_); rintro e w' h; exact h))); (try simp only [Act.put, List.setIfInBounds_toArray, List.set_cons_zero, List.set_cons_succ]); (try simp only [List.tail_cons]))
  refine wx_nil (fun W hW hF => ?_)
  clear uB0_0 uB0_1 uB0_2 uB0_3 ulB0 uB1_0 uB1_1 ulB1 uwB0_0 uwB0_1 uwB0_2 ulwB0 uxB0_0 uxB0_1 uxB0_2 uxB0_3 ulxB0 ugB0_0 ugB0_1 ugB0_2 ulgB0 hF
  obtain ⟨w8, rfl⟩ : ∃ w', w' = W := ⟨W, rfl⟩
  have hx := hW
  clear hW
  have s_w8 : w7.heap.size ≤ w8.heap.size := hx.size
  replace hE := hE.trans hx
  replace B0 := B0.ext hx
  replace B1 := B1.ext hx
  replace wo0 := wo0.ext hx
  replace wB0 := wB0.ext hx
  replace xt0 := xt0.ext hx
  replace xB0 := xB0.ext hx
  replace go0 := go0.ext hx
  replace gB0 := gB0.ext hx
  clear hx
  have ⟨uB0_0, uB0_1, uB0_2, uB0_3⟩ := B0
  have ulB0 := B0.lt
  have ⟨uB1_0, uB1_1⟩ := B1
  have ulB1 := B1.lt
  have ⟨uwB0_0, uwB0_1, uwB0_2⟩ := wB0
  have ulwB0 := wB0.lt
  have ⟨uxB0_0, uxB0_1, uxB0_2, uxB0_3⟩ := xB0
  have ulxB0 := xB0.lt
  have ⟨ugB0_0, ugB0_1, ugB0_2⟩ := gB0
  have ulgB0 := gB0.lt
  go_wp2_with fail
  clear uB0_0 uB0_1 uB0_2 uB0_3 ulB0 uB1_0 uB1_1 ulB1 uwB0_0 uwB0_1 uwB0_2 ulwB0 uxB0_0 uxB0_1 uxB0_2 uxB0_3 ulxB0 ugB0_0 ugB0_1 ugB0_2 ulgB0
  refine (markVolume_i z0_0 z0_1 z0_2 (some ⟨xg0, 0, none⟩) n0 n0 bs0 (1) _ _ (by omega) (by omega) xt0).mono ?_
  rintro e w9 ⟨rfl, hm, hgr⟩
  clear hm
  have s_w9 : w8.heap.size ≤ w9.heap.size := hgr.size
  replace hE := Ext.grown hE hgr (fun g hg => by have := xq0 g hg; omega)
  replace B0 := B0.grown hgr (row_box xq0 _ (by omega))
  replace B1 := B1.grown hgr (row_box xq0 _ (by omega))
  replace wo0 := wo0.grown hgr (rows_apart wq0 xq0 (by omega))
  replace wB0 := wB0.grown hgr (row_box xq0 _ (by omega))
  replace xB0 := xB0.grown hgr (row_box xq0 _ (by omega))
  replace go0 := go0.grown hgr (rows_apart gq0 xq0 (by omega))
  replace gB0 := gB0.grown hgr (row_box xq0 _ (by omega))
  clear hgr
  clear xt0
  have nk : ¬ 1 + (bs0.length : Int) < 0 := by omega
  have ⟨uB0_0, uB0_1, uB0_2, uB0_3⟩ := B0
  have ulB0 := B0.lt
  have ⟨uB1_0, uB1_1⟩ := B1
  have ulB1 := B1.lt
  have ⟨uwB0_0, uwB0_1, uwB0_2⟩ := wB0
  have ulwB0 := wB0.lt
  have ⟨uxB0_0, uxB0_1, uxB0_2, uxB0_3⟩ := xB0
  have ulxB0 := xB0.lt
  have ⟨ugB0_0, ugB0_1, ugB0_2⟩ := gB0
  have ulgB0 := gB0.lt
  go_wp2_with fail
  clear uB0_0 uB0_1 uB0_2 uB0_3 ulB0 uB1_0 uB1_1 ulB1 uwB0_0 uwB0_1 uwB0_2 ulwB0 uxB0_0 uxB0_1 uxB0_2 uxB0_3 ulxB0 ugB0_0 ugB0_1 ugB0_2 ulgB0
  refine (eqMap_any o0_0 o0_1 _ _ _ _ _ _ _ _ _ (by unfold maxLen; omega) go0.reads wo0.reads (gm0.trans wm0.symm)).mono ?_
  rintro e w10 ⟨rfl, hx⟩
  have s_w10 : w9.heap.size ≤ w10.heap.size := hx.size
  replace hE := hE.trans hx
  replace B0 := B0.ext hx
  replace B1 := B1.ext hx
  replace wo0 := wo0.ext hx
  replace wB0 := wB0.ext hx
  replace xB0 := xB0.ext hx
  replace go0 := go0.ext hx
  replace gB0 := gB0.ext hx
  clear hx
  have ⟨uB0_0, uB0_1, uB0_2, uB0_3⟩ := B0
  have ulB0 := B0.lt
  have ⟨uB1_0, uB1_1⟩ := B1
  have ulB1 := B1.lt
  have ⟨uwB0_0, uwB0_1, uwB0_2⟩ := wB0
  have ulwB0 := wB0.lt
  have ⟨uxB0_0, uxB0_1, uxB0_2, uxB0_3⟩ := xB0
  have ulxB0 := xB0.lt
  have ⟨ugB0_0, ugB0_1, ugB0_2⟩ := gB0
  have ulgB0 := gB0.lt
  go_wp2_with fail
  clear uB0_0 uB0_1 uB0_2 uB0_3 ulB0 uB1_0 uB1_1 ulB1 uwB0_0 uwB0_1 uwB0_2 ulwB0 uxB0_0 uxB0_1 uxB0_2 uxB0_3 ulxB0 ugB0_0 ugB0_1 ugB0_2 ulgB0
  refine (markMap_i o0_0 o0_1 gA0 gb0.length gc0 gb0 (1) _ _ (by omega) (by omega) go0).mono ?_
  rintro e w11 ⟨rfl, hm, hgr⟩
  have s_w11 : w10.heap.size ≤ w11.heap.size := hgr.size
  replace hE := Ext.grown hE hgr (fun g hg => by have := gq0 g hg; omega)
  replace B0 := B0.grown hgr (row_box gq0 _ (by omega))
  replace B1 := B1.grown hgr (row_box gq0 _ (by omega))
  replace wo0 := wo0.grown hgr (rows_apart wq0 gq0 (by omega))
  replace wB0 := wB0.grown hgr (row_box gq0 _ (by omega))
  replace xB0 := xB0.grown hgr (row_box gq0 _ (by omega))
  replace gB0 := gB0.grown hgr (fun he => gn HBg he.symm rfl)
  clear hgr
  clear go0
  have go0 := hm
  clear hm
  have ⟨uB0_0, uB0_1, uB0_2, uB0_3⟩ := B0
  have ulB0 := B0.lt
  have ⟨uB1_0, uB1_1⟩ := B1
  have ulB1 := B1.lt
  have ⟨uwB0_0, uwB0_1, uwB0_2⟩ := wB0
  have ulwB0 := wB0.lt
  have ⟨uxB0_0, uxB0_1, uxB0_2, uxB0_3⟩ := xB0
  have ulxB0 := xB0.lt
  have ⟨ugB0_0, ugB0_1, ugB0_2⟩ := gB0
  have ulgB0 := gB0.lt
  go_wp2_with fail
  clear uB0_0 uB0_1 uB0_2 uB0_3 ulB0 uB1_0 uB1_1 ulB1 uwB0_0 uwB0_1 uwB0_2 ulwB0 uxB0_0 uxB0_1 uxB0_2 uxB0_3 ulxB0 ugB0_0 ugB0_1 ugB0_2 ulgB0
  refine (heldMap_i o0_0 o0_1 gA0 gb0.length gc0 gb0.length (1) _ _ (by omega) (by omega) go0).mono ?_
  rintro e w12 ⟨rfl, hx⟩
  have s_w12 : w11.heap.size ≤ w12.heap.size := hx.size
  replace hE := hE.trans hx
  replace B0 := B0.ext hx
  replace B1 := B1.ext hx
  replace wo0 := wo0.ext hx
  replace wB0 := wB0.ext hx
  replace xB0 := xB0.ext hx
  replace go0 := go0.ext hx
  replace gB0 := gB0.ext hx
  clear hx
  have nm : ¬ 1 + (gb0.length : Int) < 0 := by omega
  have nn : (1 + (gb0.length : Int) != 1 + (gb0.length : Int)) = false := by simp
  have ⟨uB0_0, uB0_1, uB0_2, uB0_3⟩ := B0
  have ulB0 := B0.lt
  have ⟨uB1_0, uB1_1⟩ := B1
  have ulB1 := B1.lt
  have ⟨uwB0_0, uwB0_1, uwB0_2⟩ := wB0
  have ulwB0 := wB0.lt
  have ⟨uxB0_0, uxB0_1, uxB0_2, uxB0_3⟩ := xB0
  have ulxB0 := xB0.lt
  have ⟨ugB0_0, ugB0_1, ugB0_2⟩ := gB0
  have ulgB0 := gB0.lt
  go_wp2_with fail
  refine region_we 7 9 9 [none, some (fun u W => ∃ g, u = .agg #[.int .i64 z0_0, .int .i64 z0_1, .int .i64 z0_2, .slice (some ⟨g, 0, none⟩) n0 n0] ∧ Reads W (some ⟨g, 0, none⟩) n0 bs0), none, none, some (fun u W => ∃ (A0 : Option Addr) (c0 : Nat) (b0 : List Nat), u = .tuple #[.agg #[.int .i64 o0_0, .int .i64 o0_1, .slice A0 b0.length c0], .bool o1] ∧ OwnF W w12.heap.size 23 (.slice A0 b0.length c0) b0 ∧ b0.map nrm = L0), none, none, none, none] (by kernel_rfl) (by kernel_rfl) (by kernel_rfl) ?_
  dsimp only [addEdge]
  simp only [List.take_succ_cons, List.take_zero, List.drop_succ_cons, List.drop_zero]
  repeat ((first | refine wx_skip rfl ?_ | refine wx_nilCheck rfl rfl _ rfl _ rfl ?_ | (refine wx_float rfl rfl _ _ _ _ _ _ _ rfl rfl rfl rfl ?_; intro r hr) | (refine wx_k rfl rfl rfl (fun K hK => ?_); go_big_quiet_op; refine hK _ ?_; clear hK K) | (refine wx_callR _ rfl rfl 18 _ _ rfl (by kernel_rfl) (fun W hW hF => ?_) ?_; (· go_simp; (with_reducible refine (toVolume_any z0_0 z0_1 z0_2 A0 n0 e0 bs0 W hq0 (hr0.ext (hE.trans hW))).mono ?_); rintro e w' ⟨g, _, rfl, ho, hx⟩; exact ⟨_, rfl, ⟨g, rfl, ho.reads⟩, hx⟩); rintro u V0 hV0 ⟨g0, rfl, hrd0⟩) | (refine wx_call rfl rfl 11 _ _ rfl (by kernel_rfl) (by kernel_rfl) (.agg #[.float .f32 p1_0, .float .f32 p1_1]) (fun W hW hF => ?_) ?_; (· go_simp; (with_reducible refine (toPrices_any p1_0 p1_1 W).mono ?_); rintro e w' h; exact h)) | (refine wx_callR _ rfl rfl 35 _ _ rfl (by kernel_rfl) (fun W hW hF => ?_) ?_; (· go_simp; have hVW0 : Ext V0 W := hF 1 (by kernel_rfl); (with_reducible refine (HI.out W (some ⟨g0, 0, none⟩) (hrd0.ext hVW0)).mono ?_); rintro e w' ⟨A0, c0, b0, rfl, o0', m0, hx⟩; exact ⟨_, rfl, ⟨A0, c0, b0, rfl, o0'.weaken hW.size, m0⟩, hx⟩); rintro u VF hVF ⟨hA0, hc0, hb0, rfl, ho0, hm0⟩) | (refine wx_alloc rfl rfl 54 rfl #[.int .i64 0, .int .i64 0, .slice none 0 0] (fun Z => by simp [Instr.alloc, go_sem]) ?_; intro Va hVa)); (try simp only [Act.put, List.setIfInBounds_toArray, List.set_cons_zero, List.set_cons_succ]); (try simp only [List.tail_cons]))
  refine wx_nil (fun W hW hF => ?_)
  have hFW : Ext VF W := hF 4
  have hAW : Ext (Va.alloc (.cells #[.int .i64 0, .int .i64 0, .slice none 0 0] 54)) W := hF 8
  have hAg : w12.heap.size ≤ Va.heap.size := hVa.size
  have rB := (⟨by simp [go_sem], by simp [go_sem], by simp [go_sem], by simp [go_sem], by simp [go_sem], by simp [go_sem]⟩ : Res3 (Va.alloc (.cells #[.int .i64 0, .int .i64 0, .slice none 0 0] 54)) Va.heap.size).ext hAW
  have rH : W.heap[Va.heap.size]? = some (.cells #[.int .i64 0, .int .i64 0, .slice none 0 0] 54 (0, 0)) := (hAW.block _ (by simp)).trans (heap_alloc_new _ _)
  clear hAW
  generalize Va.heap.size = HBh at hAg rB rH ⊢
  clear uB0_0 uB0_1 uB0_2 uB0_3 ulB0 uB1_0 uB1_1 ulB1 uwB0_0 uwB0_1 uwB0_2 ulwB0 uxB0_0 uxB0_1 uxB0_2 uxB0_3 ulxB0 ugB0_0 ugB0_1 ugB0_2 ulgB0 hF
  replace ho0 := ho0.ext hFW
  have hn := ho0.ne_block rH (by decide)
  clear hFW rH
  have hBl := rB.lt
  have hl0 : hb0.length ≤ 4096 := by have := congrArg List.length hm0; simp only [List.length_map] at this; omega
  have ⟨uB0_0, uB0_1, uB0_2, uB0_3⟩ := B0.ext hW
  have ulB0 := B0.lt
  have ⟨uB1_0, uB1_1⟩ := B1.ext hW
  have ulB1 := B1.lt
  have ⟨uwB0_0, uwB0_1, uwB0_2⟩ := wB0.ext hW
  have ulwB0 := wB0.lt
  have ⟨uxB0_0, uxB0_1, uxB0_2, uxB0_3⟩ := xB0.ext hW
  have ulxB0 := xB0.lt
  have ⟨ugB0_0, ugB0_1, ugB0_2⟩ := gB0.ext hW
  have ulgB0 := gB0.lt
  have ⟨rc0, rc1, rc2, rf0, rf1, rf2⟩ := rB
  go_wp2_with fail
  clear uB0_0 uB0_1 uB0_2 uB0_3 ulB0 uB1_0 uB1_1 ulB1 uwB0_0 uwB0_1 uwB0_2 ulwB0 uxB0_0 uxB0_1 uxB0_2 uxB0_3 ulxB0 ugB0_0 ugB0_1 ugB0_2 ulgB0
  refine np_at (X := fun w' => Ext w12 w' ∧ Box3 w' (HBh) (.int .i64 o0_0) (.int .i64 o0_1) (.slice hA0 hb0.length hc0) ∧ W.heap.size ≤ w'.heap.size ∧ OwnF w' w12.heap.size 23 (.slice hA0 hb0.length hc0) hb0) ?_ ?_
  · refine ⟨?_, ?_, ?_, ?_⟩
    · repeat (first | with_reducible exact Ext.refl _ | with_reducible exact hW | (with_reducible refine Ext.setCell ?_ (by first | (dsimp only; omega) | omega) _) | (with_reducible refine Ext.alloc ?_ _) | (with_reducible refine Ext.drewN ?_ _))
    · refine ⟨?_, ?_, ?_⟩ <;> simp [go_sem, *]
    · simp
    · repeat (first | with_reducible exact ho0 | (with_reducible refine OwnF.set_ne ?_ (fun g hg => by have := hn g hg; dsimp only; omega) _))
  clear ho0 rB rc0 rc1 rc2 rf0 rf1 rf2
  rintro w13 ⟨hx, hB0, hWs, ho0⟩
  clear hW
  have s_w13 : w12.heap.size ≤ w13.heap.size := hx.size
  replace hE := hE.trans hx
  replace B0 := B0.ext hx
  replace B1 := B1.ext hx
  replace wo0 := wo0.ext hx
  replace wB0 := wB0.ext hx
  replace xB0 := xB0.ext hx
  replace go0 := go0.ext hx
  replace gB0 := gB0.ext hx
  clear hx
  have hq0 := ho0.row
  have lt_hB0 := hB0.lt
  have ⟨uB0_0, uB0_1, uB0_2, uB0_3⟩ := B0
  have ulB0 := B0.lt
  have ⟨uB1_0, uB1_1⟩ := B1
  have ulB1 := B1.lt
  have ⟨uwB0_0, uwB0_1, uwB0_2⟩ := wB0
  have ulwB0 := wB0.lt
  have ⟨uxB0_0, uxB0_1, uxB0_2, uxB0_3⟩ := xB0
  have ulxB0 := xB0.lt
  have ⟨ugB0_0, ugB0_1, ugB0_2⟩ := gB0
  have ulgB0 := gB0.lt
  have ⟨uhB0_0, uhB0_1, uhB0_2⟩ := hB0
  have ulhB0 := hB0.lt
  go_wp2_with fail
  clear uB0_0 uB0_1 uB0_2 uB0_3 ulB0 uB1_0 uB1_1 ulB1 uwB0_0 uwB0_1 uwB0_2 ulwB0 uxB0_0 uxB0_1 uxB0_2 uxB0_3 ulxB0 ugB0_0 ugB0_1 ugB0_2 ulgB0 uhB0_0 uhB0_1 uhB0_2 ulhB0
  refine (eqMap_any o0_0 o0_1 _ _ _ _ _ _ _ _ _ (by unfold maxLen; omega) ho0.reads wo0.reads (hm0.trans wm0.symm)).mono ?_
  rintro e w14 ⟨rfl, hx⟩
  have s_w14 : w13.heap.size ≤ w14.heap.size := hx.size
  replace hE := hE.trans hx
  replace B0 := B0.ext hx
  replace B1 := B1.ext hx
  replace wo0 := wo0.ext hx
  replace wB0 := wB0.ext hx
  replace xB0 := xB0.ext hx
  replace go0 := go0.ext hx
  replace gB0 := gB0.ext hx
  replace ho0 := ho0.ext hx
  replace hB0 := hB0.ext hx
  clear hx
  have ⟨uB0_0, uB0_1, uB0_2, uB0_3⟩ := B0
  have ulB0 := B0.lt
  have ⟨uB1_0, uB1_1⟩ := B1
  have ulB1 := B1.lt
  have ⟨uwB0_0, uwB0_1, uwB0_2⟩ := wB0
  have ulwB0 := wB0.lt
  have ⟨uxB0_0, uxB0_1, uxB0_2, uxB0_3⟩ := xB0
  have ulxB0 := xB0.lt
  have ⟨ugB0_0, ugB0_1, ugB0_2⟩ := gB0
  have ulgB0 := gB0.lt
  have ⟨uhB0_0, uhB0_1, uhB0_2⟩ := hB0
  have ulhB0 := hB0.lt
  go_wp2_with fail
  clear uB0_0 uB0_1 uB0_2 uB0_3 ulB0 uB1_0 uB1_1 ulB1 uwB0_0 uwB0_1 uwB0_2 ulwB0 uxB0_0 uxB0_1 uxB0_2 uxB0_3 ulxB0 ugB0_0 ugB0_1 ugB0_2 ulgB0 uhB0_0 uhB0_1 uhB0_2 ulhB0
  refine (heldMap_i o0_0 o0_1 gA0 gb0.length gc0 gb0.length (1) _ _ (by omega) (by omega) go0).mono ?_
  rintro e w15 ⟨rfl, hx⟩
  have s_w15 : w14.heap.size ≤ w15.heap.size := hx.size
  replace hE := hE.trans hx
  replace B0 := B0.ext hx
  replace B1 := B1.ext hx
  replace wo0 := wo0.ext hx
  replace wB0 := wB0.ext hx
  replace xB0 := xB0.ext hx
  replace go0 := go0.ext hx
  replace gB0 := gB0.ext hx
  replace ho0 := ho0.ext hx
  replace hB0 := hB0.ext hx
  clear hx
  have ⟨uB0_0, uB0_1, uB0_2, uB0_3⟩ := B0
  have ulB0 := B0.lt
  have ⟨uB1_0, uB1_1⟩ := B1
  have ulB1 := B1.lt
  have ⟨uwB0_0, uwB0_1, uwB0_2⟩ := wB0
  have ulwB0 := wB0.lt
  have ⟨uxB0_0, uxB0_1, uxB0_2, uxB0_3⟩ := xB0
  have ulxB0 := xB0.lt
  have ⟨ugB0_0, ugB0_1, ugB0_2⟩ := gB0
  have ulgB0 := gB0.lt
  have ⟨uhB0_0, uhB0_1, uhB0_2⟩ := hB0
  have ulhB0 := hB0.lt
  go_wp2
  go_ret
  exact ⟨rfl, by assumption⟩
end Go.Proofs.Ythkfbmboiabolaa
