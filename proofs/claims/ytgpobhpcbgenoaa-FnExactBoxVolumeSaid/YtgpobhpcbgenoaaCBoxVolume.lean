/- The walk of the law FnExactBoxVolume, told what both functions hand back. -/
import Derived.Test.YtgpobhpcbgenoaaHarS
import Derived.Test.YtgpobhpcbgenoaaKit
import Derived.Lib.Hide
namespace Go.Proofs.Ytgpobhpcbgenoaa
open Go.RowKit
set_option linter.unusedVariables false

set_option maxHeartbeats 4000000 in
set_option maxRecDepth 8000 in
theorem lawBoxVolume_core (W0 : World) (z0_0 z0_1 z0_2 : Int) (A0 : Option Addr) (n0 e0 : Nat) (bs0 : List Nat) (hn0 : n0 ≤ maxLen) (hr0 : Reads W0 A0 n0 bs0) (a1 : Int) (o0_0 o0_1 o0_2 : Int) (L0 : List Nat) (hL0 : L0.length ≤ 4096) (o1 : Bool)
    (hs : ∀ (w : World) (D0 : Option Addr), Reads w D0 n0 bs0 → Calls Try.prog 42 #[.agg #[.int .i64 z0_0, .int .i64 z0_1, .int .i64 z0_2, .slice D0 n0 n0], .int .i64 a1] w fun e w' => ∃ (A0 : Option Addr) (c0 : Nat) (b0 : List Nat), e = .returned (.tuple #[.agg #[.int .i64 o0_0, .int .i64 o0_1, .int .i64 o0_2, .slice A0 b0.length c0], .bool o1]) ∧ OwnF w' w.heap.size 25 (.slice A0 b0.length c0) b0 ∧ b0.map nrm = L0 ∧ Ext w w')
    (hi : ∀ (w : World) (D0 : Option Addr), Reads w D0 n0 bs0 → Calls Try.prog 43 #[.agg #[.int .i64 z0_0, .int .i64 z0_1, .int .i64 z0_2, .slice D0 n0 n0], .int .i64 a1] w fun e w' => ∃ (A0 : Option Addr) (c0 : Nat) (b0 : List Nat), e = .returned (.tuple #[.agg #[.int .i64 o0_0, .int .i64 o0_1, .int .i64 o0_2, .slice A0 b0.length c0], .bool o1]) ∧ OwnF w' w.heap.size 25 (.slice A0 b0.length c0) b0 ∧ b0.map nrm = L0 ∧ Ext w w') :
    Calls Try.prog 8 #[.agg #[.int .i64 z0_0, .int .i64 z0_1, .int .i64 z0_2, .slice A0 n0 e0], .int .i64 a1] W0 fun e w' => e = .returned (.bool true) ∧ Ext W0 w' := by
  have HS := Lib.hid hs
  have HI := Lib.hid hi
  clear hs hi
  have hE := Ext.refl W0
  have ne1 : (o1 != o1) = false := by cases o1 <;> rfl
  go_enter Try.func8, Try.ntmps8
  go_wp2_with fail
  refine calls_at (X := fun w' => Ext W0 w' ∧ Box4 w' (W0.heap.size) (.int .i64 z0_0) (.int .i64 z0_1) (.int .i64 z0_2) (.slice A0 n0 e0)) ?_ ?_
  · refine ⟨?_, ?_⟩
    · repeat (first | with_reducible exact Ext.refl _ | (with_reducible refine Ext.setCell ?_ (by simp; try omega) _) | (with_reducible refine Ext.alloc ?_ _) | (with_reducible refine Ext.drewN ?_ _))
    · refine ⟨?_, ?_, ?_, ?_⟩ <;> simp [go_sem, *]
  rintro w1 ⟨hx, B0⟩
  have s_w1 : W0.heap.size ≤ w1.heap.size := hx.size
  replace hE := hE.trans hx
  clear hx
  have lt_B0 := B0.lt
  by_cases hf0 : (n0 : Int) ≤ 1048576
  rotate_left
  · refine (szVolume_over z0_0 z0_1 z0_2 A0 n0 e0 (1048576) _ hn0 (by omega) (by omega) (by omega)).mono ?_
    rintro e wz ⟨rfl, hx⟩
    go_wp2
    go_ret
    exact ⟨rfl, hE.trans hx⟩
  refine (szVolume_fits z0_0 z0_1 z0_2 A0 n0 e0 (1048576) _ hn0 (by omega) (by omega) hf0).mono ?_
  rintro e w2 ⟨rfl, hx⟩
  have s_w2 : w1.heap.size ≤ w2.heap.size := hx.size
  replace hE := hE.trans hx
  replace B0 := B0.ext hx
  clear hx
  have nl0 : ¬ 1048576 - (n0 : Int) < 0 := by omega
  have hq0 : n0 ≤ 1048576 := by omega
  have hl0 : bs0.length = n0 := hr0.1
  have ⟨uB0_0, uB0_1, uB0_2, uB0_3⟩ := B0
  have ulB0 := B0.lt
  go_wp2_with fail
  clear uB0_0 uB0_1 uB0_2 uB0_3 ulB0
  refine (toVolume_any z0_0 z0_1 z0_2 A0 n0 e0 bs0 _ hq0 (hr0.ext hE)).mono ?_
  rintro e w3 ⟨sg0, sk0, rfl, st0, hx⟩
  have s_w3 : w2.heap.size ≤ w3.heap.size := hx.size
  replace hE := hE.trans hx
  replace B0 := B0.ext hx
  clear hx
  have sq0 := st0.row
  have ⟨uB0_0, uB0_1, uB0_2, uB0_3⟩ := B0
  have ulB0 := B0.lt
  go_wp2_with fail
  clear uB0_0 uB0_1 uB0_2 uB0_3 ulB0
  refine (HS.out _ (some ⟨sg0, 0, none⟩) st0.reads).mono ?_
  rintro e w4 ⟨wA0, wc0, wb0, rfl, wo0, wm0, hx⟩
  have s_w4 : w3.heap.size ≤ w4.heap.size := hx.size
  replace hE := hE.trans hx
  replace B0 := B0.ext hx
  replace st0 := st0.ext hx
  clear hx
  have wl0 : wb0.length ≤ 4096 := by have := congrArg List.length wm0; simp only [List.length_map] at this; omega
  have wq0 := wo0.row
  clear st0 sq0
  have ⟨uB0_0, uB0_1, uB0_2, uB0_3⟩ := B0
  have ulB0 := B0.lt
  go_wp2_with fail
  clear uB0_0 uB0_1 uB0_2 uB0_3 ulB0
  refine calls_at (X := fun w' => Ext w4 w' ∧ Box4 w' (w4.heap.size) (.int .i64 o0_0) (.int .i64 o0_1) (.int .i64 o0_2) (.slice wA0 wb0.length wc0)) ?_ ?_
  · refine ⟨?_, ?_⟩
    · repeat (first | with_reducible exact Ext.refl _ | (with_reducible refine Ext.setCell ?_ (by simp; try omega) _) | (with_reducible refine Ext.alloc ?_ _) | (with_reducible refine Ext.drewN ?_ _))
    · refine ⟨?_, ?_, ?_, ?_⟩ <;> simp [go_sem, *]
  rintro w5 ⟨hx, wB0⟩
  have s_w5 : w4.heap.size ≤ w5.heap.size := hx.size
  replace hE := hE.trans hx
  replace B0 := B0.ext hx
  replace wo0 := wo0.ext hx
  clear hx
  have lt_wB0 := wB0.lt
  refine (toVolume_any z0_0 z0_1 z0_2 A0 n0 e0 bs0 _ hq0 (hr0.ext hE)).mono ?_
  rintro e w6 ⟨xg0, xk0, rfl, xt0, hx⟩
  have s_w6 : w5.heap.size ≤ w6.heap.size := hx.size
  replace hE := hE.trans hx
  replace B0 := B0.ext hx
  replace wo0 := wo0.ext hx
  replace wB0 := wB0.ext hx
  clear hx
  have xq0 := xt0.row
  have ⟨uB0_0, uB0_1, uB0_2, uB0_3⟩ := B0
  have ulB0 := B0.lt
  have ⟨uwB0_0, uwB0_1, uwB0_2, uwB0_3⟩ := wB0
  have ulwB0 := wB0.lt
  go_wp2_with fail
  clear uB0_0 uB0_1 uB0_2 uB0_3 ulB0 uwB0_0 uwB0_1 uwB0_2 uwB0_3 ulwB0
  refine calls_at (X := fun w' => Ext w6 w' ∧ Box4 w' (w6.heap.size) (.int .i64 z0_0) (.int .i64 z0_1) (.int .i64 z0_2) (.slice (some ⟨xg0, 0, none⟩) n0 n0)) ?_ ?_
  · refine ⟨?_, ?_⟩
    · repeat (first | with_reducible exact Ext.refl _ | (with_reducible refine Ext.setCell ?_ (by simp; try omega) _) | (with_reducible refine Ext.alloc ?_ _) | (with_reducible refine Ext.drewN ?_ _))
    · refine ⟨?_, ?_, ?_, ?_⟩ <;> simp [go_sem, *]
  rintro w7 ⟨hx, xB0⟩
  have s_w7 : w6.heap.size ≤ w7.heap.size := hx.size
  replace hE := hE.trans hx
  replace B0 := B0.ext hx
  replace wo0 := wo0.ext hx
  replace wB0 := wB0.ext hx
  replace xt0 := xt0.ext hx
  clear hx
  have lt_xB0 := xB0.lt
  refine (HI.out _ (some ⟨xg0, 0, none⟩) xt0.reads).mono ?_
  rintro e w8 ⟨gA0, gc0, gb0, rfl, go0, gm0, hx⟩
  have s_w8 : w7.heap.size ≤ w8.heap.size := hx.size
  replace hE := hE.trans hx
  replace B0 := B0.ext hx
  replace wo0 := wo0.ext hx
  replace wB0 := wB0.ext hx
  replace xt0 := xt0.ext hx
  replace xB0 := xB0.ext hx
  clear hx
  have gl0 : gb0.length ≤ 4096 := by have := congrArg List.length gm0; simp only [List.length_map] at this; omega
  have gq0 := go0.row
  have ⟨uB0_0, uB0_1, uB0_2, uB0_3⟩ := B0
  have ulB0 := B0.lt
  have ⟨uwB0_0, uwB0_1, uwB0_2, uwB0_3⟩ := wB0
  have ulwB0 := wB0.lt
  have ⟨uxB0_0, uxB0_1, uxB0_2, uxB0_3⟩ := xB0
  have ulxB0 := xB0.lt
  go_wp2_with fail
  clear uB0_0 uB0_1 uB0_2 uB0_3 ulB0 uwB0_0 uwB0_1 uwB0_2 uwB0_3 ulwB0 uxB0_0 uxB0_1 uxB0_2 uxB0_3 ulxB0
  refine calls_at (X := fun w' => Ext w8 w' ∧ Box4 w' (w8.heap.size) (.int .i64 o0_0) (.int .i64 o0_1) (.int .i64 o0_2) (.slice gA0 gb0.length gc0)) ?_ ?_
  · refine ⟨?_, ?_⟩
    · repeat (first | with_reducible exact Ext.refl _ | (with_reducible refine Ext.setCell ?_ (by simp; try omega) _) | (with_reducible refine Ext.alloc ?_ _) | (with_reducible refine Ext.drewN ?_ _))
    · refine ⟨?_, ?_, ?_, ?_⟩ <;> simp [go_sem, *]
  rintro w9 ⟨hx, gB0⟩
  have s_w9 : w8.heap.size ≤ w9.heap.size := hx.size
  replace hE := hE.trans hx
  replace B0 := B0.ext hx
  replace wo0 := wo0.ext hx
  replace wB0 := wB0.ext hx
  replace xt0 := xt0.ext hx
  replace xB0 := xB0.ext hx
  replace go0 := go0.ext hx
  clear hx
  have lt_gB0 := gB0.lt
  refine (eqVolume_any o0_0 o0_1 o0_2 _ _ _ _ _ _ _ _ _ (by unfold maxLen; omega) go0.reads wo0.reads (gm0.trans wm0.symm)).mono ?_
  rintro e w10 ⟨rfl, hx⟩
  have s_w10 : w9.heap.size ≤ w10.heap.size := hx.size
  replace hE := hE.trans hx
  replace B0 := B0.ext hx
  replace wo0 := wo0.ext hx
  replace wB0 := wB0.ext hx
  replace xt0 := xt0.ext hx
  replace xB0 := xB0.ext hx
  replace go0 := go0.ext hx
  replace gB0 := gB0.ext hx
  clear hx
  have ⟨uB0_0, uB0_1, uB0_2, uB0_3⟩ := B0
  have ulB0 := B0.lt
  have ⟨uwB0_0, uwB0_1, uwB0_2, uwB0_3⟩ := wB0
  have ulwB0 := wB0.lt
  have ⟨uxB0_0, uxB0_1, uxB0_2, uxB0_3⟩ := xB0
  have ulxB0 := xB0.lt
  have ⟨ugB0_0, ugB0_1, ugB0_2, ugB0_3⟩ := gB0
  have ulgB0 := gB0.lt
  go_wp2_with fail
  refine region_wx0 [none, none, some (fun u W => ∃ g, u = .agg #[.int .i64 z0_0, .int .i64 z0_1, .int .i64 z0_2, .slice (some ⟨g, 0, none⟩) n0 n0] ∧ Reads W (some ⟨g, 0, none⟩) n0 bs0)] (by kernel_rfl) (by kernel_rfl) ?_
  repeat ((first | refine wx_skip rfl ?_ | refine wx_nilCheck rfl rfl _ rfl _ rfl ?_ | (refine wx_float rfl rfl _ _ _ _ _ _ _ rfl rfl rfl rfl ?_; intro r hr) | (refine wx_k rfl rfl rfl (fun K hK => ?_); go_big_quiet_op; refine hK _ ?_; clear hK K) | (refine wx_callR _ rfl rfl 13 _ _ rfl (by kernel_rfl) (fun W hW hF => ?_) ?_; (· go_simp; (with_reducible refine (toVolume_any z0_0 z0_1 z0_2 A0 n0 e0 bs0 W hq0 (hr0.ext (hE.trans hW))).mono ?_); rintro e w' ⟨g, _, rfl, ho, hx⟩; exact ⟨_, rfl, ⟨g, rfl, ho.reads⟩, hx⟩); rintro u V hV ⟨g, rfl, hrd⟩) | (refine wx_call rfl rfl 18 _ _ rfl (by kernel_rfl) (by kernel_rfl) (.bool true) (fun W hW hF => ?_) ?_; (· go_simp; have hVW : Ext V W := hF 2 (by kernel_rfl); (with_reducible refine (eqVolume_any z0_0 z0_1 z0_2 _ _ _ _ _ _ bs0 bs0 W hn0 (xt0.ext hW).reads (hrd.ext hVW) rfl).mono ?_); rintro e w' h; exact h))); (try simp only [Act.put, List.setIfInBounds_toArray, List.set_cons_zero, List.set_cons_succ]); (try simp only [List.tail_cons]))
  refine wx_nil (fun W hW hF => ?_)
  clear uB0_0 uB0_1 uB0_2 uB0_3 ulB0 uwB0_0 uwB0_1 uwB0_2 uwB0_3 ulwB0 uxB0_0 uxB0_1 uxB0_2 uxB0_3 ulxB0 ugB0_0 ugB0_1 ugB0_2 ugB0_3 ulgB0 hF
  obtain ⟨w11, rfl⟩ : ∃ w', w' = W := ⟨W, rfl⟩
  have hx := hW
  clear hW
  have s_w11 : w10.heap.size ≤ w11.heap.size := hx.size
  replace hE := hE.trans hx
  replace B0 := B0.ext hx
  replace wo0 := wo0.ext hx
  replace wB0 := wB0.ext hx
  replace xt0 := xt0.ext hx
  replace xB0 := xB0.ext hx
  replace go0 := go0.ext hx
  replace gB0 := gB0.ext hx
  clear hx
  have ⟨uB0_0, uB0_1, uB0_2, uB0_3⟩ := B0
  have ulB0 := B0.lt
  have ⟨uwB0_0, uwB0_1, uwB0_2, uwB0_3⟩ := wB0
  have ulwB0 := wB0.lt
  have ⟨uxB0_0, uxB0_1, uxB0_2, uxB0_3⟩ := xB0
  have ulxB0 := xB0.lt
  have ⟨ugB0_0, ugB0_1, ugB0_2, ugB0_3⟩ := gB0
  have ulgB0 := gB0.lt
  go_wp2_with fail
  clear uB0_0 uB0_1 uB0_2 uB0_3 ulB0 uwB0_0 uwB0_1 uwB0_2 uwB0_3 ulwB0 uxB0_0 uxB0_1 uxB0_2 uxB0_3 ulxB0 ugB0_0 ugB0_1 ugB0_2 ugB0_3 ulgB0
  refine (markVolume_i z0_0 z0_1 z0_2 (some ⟨xg0, 0, none⟩) n0 n0 bs0 (1) _ _ (by omega) (by omega) xt0).mono ?_
  rintro e w12 ⟨rfl, hm, hgr⟩
  clear hm
  have s_w12 : w11.heap.size ≤ w12.heap.size := hgr.size
  replace hE := Ext.grown hE hgr (fun g hg => by have := xq0 g hg; omega)
  replace B0 := B0.grown hgr (row_box xq0 _ (by omega))
  replace wo0 := wo0.grown hgr (rows_apart wq0 xq0 (by omega))
  replace wB0 := wB0.grown hgr (row_box xq0 _ (by omega))
  replace xB0 := xB0.grown hgr (row_box xq0 _ (by omega))
  replace go0 := go0.grown hgr (rows_apart gq0 xq0 (by omega))
  replace gB0 := gB0.grown hgr (row_box xq0 _ (by omega))
  clear hgr
  clear xt0
  have nk : ¬ 1 + (bs0.length : Int) < 0 := by omega
  have ⟨uB0_0, uB0_1, uB0_2, uB0_3⟩ := B0
  have ulB0 := B0.lt
  have ⟨uwB0_0, uwB0_1, uwB0_2, uwB0_3⟩ := wB0
  have ulwB0 := wB0.lt
  have ⟨uxB0_0, uxB0_1, uxB0_2, uxB0_3⟩ := xB0
  have ulxB0 := xB0.lt
  have ⟨ugB0_0, ugB0_1, ugB0_2, ugB0_3⟩ := gB0
  have ulgB0 := gB0.lt
  go_wp2_with fail
  clear uB0_0 uB0_1 uB0_2 uB0_3 ulB0 uwB0_0 uwB0_1 uwB0_2 uwB0_3 ulwB0 uxB0_0 uxB0_1 uxB0_2 uxB0_3 ulxB0 ugB0_0 ugB0_1 ugB0_2 ugB0_3 ulgB0
  refine (eqVolume_any o0_0 o0_1 o0_2 _ _ _ _ _ _ _ _ _ (by unfold maxLen; omega) go0.reads wo0.reads (gm0.trans wm0.symm)).mono ?_
  rintro e w13 ⟨rfl, hx⟩
  have s_w13 : w12.heap.size ≤ w13.heap.size := hx.size
  replace hE := hE.trans hx
  replace B0 := B0.ext hx
  replace wo0 := wo0.ext hx
  replace wB0 := wB0.ext hx
  replace xB0 := xB0.ext hx
  replace go0 := go0.ext hx
  replace gB0 := gB0.ext hx
  clear hx
  have ⟨uB0_0, uB0_1, uB0_2, uB0_3⟩ := B0
  have ulB0 := B0.lt
  have ⟨uwB0_0, uwB0_1, uwB0_2, uwB0_3⟩ := wB0
  have ulwB0 := wB0.lt
  have ⟨uxB0_0, uxB0_1, uxB0_2, uxB0_3⟩ := xB0
  have ulxB0 := xB0.lt
  have ⟨ugB0_0, ugB0_1, ugB0_2, ugB0_3⟩ := gB0
  have ulgB0 := gB0.lt
  go_wp2_with fail
  clear uB0_0 uB0_1 uB0_2 uB0_3 ulB0 uwB0_0 uwB0_1 uwB0_2 uwB0_3 ulwB0 uxB0_0 uxB0_1 uxB0_2 uxB0_3 ulxB0 ugB0_0 ugB0_1 ugB0_2 ugB0_3 ulgB0
  refine (markVolume_i o0_0 o0_1 o0_2 gA0 gb0.length gc0 gb0 (1) _ _ (by omega) (by omega) go0).mono ?_
  rintro e w14 ⟨rfl, hm, hgr⟩
  have s_w14 : w13.heap.size ≤ w14.heap.size := hgr.size
  replace hE := Ext.grown hE hgr (fun g hg => by have := gq0 g hg; omega)
  replace B0 := B0.grown hgr (row_box gq0 _ (by omega))
  replace wo0 := wo0.grown hgr (rows_apart wq0 gq0 (by omega))
  replace wB0 := wB0.grown hgr (row_box gq0 _ (by omega))
  replace xB0 := xB0.grown hgr (row_box gq0 _ (by omega))
  replace gB0 := gB0.grown hgr (row_box gq0 _ (by omega))
  clear hgr
  clear go0
  have go0 := hm
  clear hm
  have ⟨uB0_0, uB0_1, uB0_2, uB0_3⟩ := B0
  have ulB0 := B0.lt
  have ⟨uwB0_0, uwB0_1, uwB0_2, uwB0_3⟩ := wB0
  have ulwB0 := wB0.lt
  have ⟨uxB0_0, uxB0_1, uxB0_2, uxB0_3⟩ := xB0
  have ulxB0 := xB0.lt
  have ⟨ugB0_0, ugB0_1, ugB0_2, ugB0_3⟩ := gB0
  have ulgB0 := gB0.lt
  go_wp2_with fail
  clear uB0_0 uB0_1 uB0_2 uB0_3 ulB0 uwB0_0 uwB0_1 uwB0_2 uwB0_3 ulwB0 uxB0_0 uxB0_1 uxB0_2 uxB0_3 ulxB0 ugB0_0 ugB0_1 ugB0_2 ugB0_3 ulgB0
  refine (heldVolume_i o0_0 o0_1 o0_2 gA0 gb0.length gc0 gb0.length (1) _ _ (by omega) (by omega) go0).mono ?_
  rintro e w15 ⟨rfl, hx⟩
  have s_w15 : w14.heap.size ≤ w15.heap.size := hx.size
  replace hE := hE.trans hx
  replace B0 := B0.ext hx
  replace wo0 := wo0.ext hx
  replace wB0 := wB0.ext hx
  replace xB0 := xB0.ext hx
  replace go0 := go0.ext hx
  replace gB0 := gB0.ext hx
  clear hx
  have nm : ¬ 1 + (gb0.length : Int) < 0 := by omega
  have nn : (1 + (gb0.length : Int) != 1 + (gb0.length : Int)) = false := by simp
  have ⟨uB0_0, uB0_1, uB0_2, uB0_3⟩ := B0
  have ulB0 := B0.lt
  have ⟨uwB0_0, uwB0_1, uwB0_2, uwB0_3⟩ := wB0
  have ulwB0 := wB0.lt
  have ⟨uxB0_0, uxB0_1, uxB0_2, uxB0_3⟩ := xB0
  have ulxB0 := xB0.lt
  have ⟨ugB0_0, ugB0_1, ugB0_2, ugB0_3⟩ := gB0
  have ulgB0 := gB0.lt
  go_wp2_with fail
  clear uB0_0 uB0_1 uB0_2 uB0_3 ulB0 uwB0_0 uwB0_1 uwB0_2 uwB0_3 ulwB0 uxB0_0 uxB0_1 uxB0_2 uxB0_3 ulxB0 ugB0_0 ugB0_1 ugB0_2 ugB0_3 ulgB0
  refine (toVolume_any z0_0 z0_1 z0_2 A0 n0 e0 bs0 _ hq0 (hr0.ext hE)).mono ?_
  rintro e w16 ⟨yg0, yk0, rfl, yt0, hx⟩
  have s_w16 : w15.heap.size ≤ w16.heap.size := hx.size
  replace hE := hE.trans hx
  replace B0 := B0.ext hx
  replace wo0 := wo0.ext hx
  replace wB0 := wB0.ext hx
  replace xB0 := xB0.ext hx
  replace go0 := go0.ext hx
  replace gB0 := gB0.ext hx
  clear hx
  have yq0 := yt0.row
  have ⟨uB0_0, uB0_1, uB0_2, uB0_3⟩ := B0
  have ulB0 := B0.lt
  have ⟨uwB0_0, uwB0_1, uwB0_2, uwB0_3⟩ := wB0
  have ulwB0 := wB0.lt
  have ⟨uxB0_0, uxB0_1, uxB0_2, uxB0_3⟩ := xB0
  have ulxB0 := xB0.lt
  have ⟨ugB0_0, ugB0_1, ugB0_2, ugB0_3⟩ := gB0
  have ulgB0 := gB0.lt
  go_wp2_with fail
  clear uB0_0 uB0_1 uB0_2 uB0_3 ulB0 uwB0_0 uwB0_1 uwB0_2 uwB0_3 ulwB0 uxB0_0 uxB0_1 uxB0_2 uxB0_3 ulxB0 ugB0_0 ugB0_1 ugB0_2 ugB0_3 ulgB0
  refine (HI.out _ (some ⟨yg0, 0, none⟩) yt0.reads).mono ?_
  rintro e w17 ⟨hA0, hc0, hb0, rfl, ho0, hm0, hx⟩
  have s_w17 : w16.heap.size ≤ w17.heap.size := hx.size
  replace hE := hE.trans hx
  replace B0 := B0.ext hx
  replace wo0 := wo0.ext hx
  replace wB0 := wB0.ext hx
  replace xB0 := xB0.ext hx
  replace go0 := go0.ext hx
  replace gB0 := gB0.ext hx
  replace yt0 := yt0.ext hx
  clear hx
  have hl0 : hb0.length ≤ 4096 := by have := congrArg List.length hm0; simp only [List.length_map] at this; omega
  have hq0 := ho0.row
  clear yt0 yq0
  have ⟨uB0_0, uB0_1, uB0_2, uB0_3⟩ := B0
  have ulB0 := B0.lt
  have ⟨uwB0_0, uwB0_1, uwB0_2, uwB0_3⟩ := wB0
  have ulwB0 := wB0.lt
  have ⟨uxB0_0, uxB0_1, uxB0_2, uxB0_3⟩ := xB0
  have ulxB0 := xB0.lt
  have ⟨ugB0_0, ugB0_1, ugB0_2, ugB0_3⟩ := gB0
  have ulgB0 := gB0.lt
  go_wp2_with fail
  clear uB0_0 uB0_1 uB0_2 uB0_3 ulB0 uwB0_0 uwB0_1 uwB0_2 uwB0_3 ulwB0 uxB0_0 uxB0_1 uxB0_2 uxB0_3 ulxB0 ugB0_0 ugB0_1 ugB0_2 ugB0_3 ulgB0
  refine calls_at (X := fun w' => Ext w17 w' ∧ Box4 w' (w17.heap.size) (.int .i64 o0_0) (.int .i64 o0_1) (.int .i64 o0_2) (.slice hA0 hb0.length hc0)) ?_ ?_
  · refine ⟨?_, ?_⟩
    · repeat (first | with_reducible exact Ext.refl _ | (with_reducible refine Ext.setCell ?_ (by simp; try omega) _) | (with_reducible refine Ext.alloc ?_ _) | (with_reducible refine Ext.drewN ?_ _))
    · refine ⟨?_, ?_, ?_, ?_⟩ <;> simp [go_sem, *]
  rintro w18 ⟨hx, hB0⟩
  have s_w18 : w17.heap.size ≤ w18.heap.size := hx.size
  replace hE := hE.trans hx
  replace B0 := B0.ext hx
  replace wo0 := wo0.ext hx
  replace wB0 := wB0.ext hx
  replace xB0 := xB0.ext hx
  replace go0 := go0.ext hx
  replace gB0 := gB0.ext hx
  replace ho0 := ho0.ext hx
  clear hx
  have lt_hB0 := hB0.lt
  refine (eqVolume_any o0_0 o0_1 o0_2 _ _ _ _ _ _ _ _ _ (by unfold maxLen; omega) ho0.reads wo0.reads (hm0.trans wm0.symm)).mono ?_
  rintro e w19 ⟨rfl, hx⟩
  have s_w19 : w18.heap.size ≤ w19.heap.size := hx.size
  replace hE := hE.trans hx
  replace B0 := B0.ext hx
  replace wo0 := wo0.ext hx
  replace wB0 := wB0.ext hx
  replace xB0 := xB0.ext hx
  replace go0 := go0.ext hx
  replace gB0 := gB0.ext hx
  replace ho0 := ho0.ext hx
  replace hB0 := hB0.ext hx
  clear hx
  have ⟨uB0_0, uB0_1, uB0_2, uB0_3⟩ := B0
  have ulB0 := B0.lt
  have ⟨uwB0_0, uwB0_1, uwB0_2, uwB0_3⟩ := wB0
  have ulwB0 := wB0.lt
  have ⟨uxB0_0, uxB0_1, uxB0_2, uxB0_3⟩ := xB0
  have ulxB0 := xB0.lt
  have ⟨ugB0_0, ugB0_1, ugB0_2, ugB0_3⟩ := gB0
  have ulgB0 := gB0.lt
  have ⟨uhB0_0, uhB0_1, uhB0_2, uhB0_3⟩ := hB0
  have ulhB0 := hB0.lt
  go_wp2_with fail
  clear uB0_0 uB0_1 uB0_2 uB0_3 ulB0 uwB0_0 uwB0_1 uwB0_2 uwB0_3 ulwB0 uxB0_0 uxB0_1 uxB0_2 uxB0_3 ulxB0 ugB0_0 ugB0_1 ugB0_2 ugB0_3 ulgB0 uhB0_0 uhB0_1 uhB0_2 uhB0_3 ulhB0
  refine (heldVolume_i o0_0 o0_1 o0_2 gA0 gb0.length gc0 gb0.length (1) _ _ (by omega) (by omega) go0).mono ?_
  rintro e w20 ⟨rfl, hx⟩
  have s_w20 : w19.heap.size ≤ w20.heap.size := hx.size
  replace hE := hE.trans hx
  replace B0 := B0.ext hx
  replace wo0 := wo0.ext hx
  replace wB0 := wB0.ext hx
  replace xB0 := xB0.ext hx
  replace go0 := go0.ext hx
  replace gB0 := gB0.ext hx
  replace ho0 := ho0.ext hx
  replace hB0 := hB0.ext hx
  clear hx
  have ⟨uB0_0, uB0_1, uB0_2, uB0_3⟩ := B0
  have ulB0 := B0.lt
  have ⟨uwB0_0, uwB0_1, uwB0_2, uwB0_3⟩ := wB0
  have ulwB0 := wB0.lt
  have ⟨uxB0_0, uxB0_1, uxB0_2, uxB0_3⟩ := xB0
  have ulxB0 := xB0.lt
  have ⟨ugB0_0, ugB0_1, ugB0_2, ugB0_3⟩ := gB0
  have ulgB0 := gB0.lt
  have ⟨uhB0_0, uhB0_1, uhB0_2, uhB0_3⟩ := hB0
  have ulhB0 := hB0.lt
  go_wp2
  go_ret
  exact ⟨rfl, by assumption⟩
end Go.Proofs.Ytgpobhpcbgenoaa
