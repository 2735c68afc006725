/- The walk of the law FnExactJumpsOf, told what both functions hand back. -/
import Derived.Test.YtgpobhpcbgenoaaHarS
import Derived.Test.YtgpobhpcbgenoaaCube
import Derived.Test.YtgpobhpcbgenoaaEdge
import Derived.Test.YtgpobhpcbgenoaaHarI
import Derived.Lib.Hide
namespace Go.Proofs.Ytgpobhpcbgenoaa
open Go.RowKit
set_option linter.unusedVariables false

set_option maxHeartbeats 4000000 in
set_option maxRecDepth 8000 in
theorem lawJumpsOf_core (W0 : World) (z0_0 z0_1 z0_2 : Int) (A0 : Option Addr) (n0 e0 : Nat) (bs0 : List Nat) (hn0 : n0 ≤ maxLen) (hr0 : Reads W0 A0 n0 bs0) (z1_0 z1_1 : Int) (A1 : Option Addr) (n1 e1 : Nat) (bs1 : List Nat) (hn1 : n1 ≤ maxLen) (hr1 : Reads W0 A1 n1 bs1) (L0 : List Int) (hL0 : L0.length ≤ 4096) (o1 : Bool)
    (hs : ∀ (w : World) (D0 : Option Addr) (D1 : Option Addr), Reads w D0 n0 bs0 → Reads w D1 n1 bs1 → Calls Try.prog 20 #[.agg #[.int .i64 z0_0, .int .i64 z0_1, .int .i64 z0_2, .slice D0 n0 n0], .agg #[.int .i64 z1_0, .int .i64 z1_1, .slice D1 n1 n1]] w fun e w' => ∃ (A0 : Option Addr) (c0 : Nat) (b0 : List Int), e = .returned (.tuple #[.slice A0 b0.length c0, .bool o1]) ∧ OwnI w' w.heap.size 2 (.slice A0 b0.length c0) b0 ∧ Eqi b0 L0 ∧ Ext w w')
    (hi : ∀ (w : World) (D0 : Option Addr) (D1 : Option Addr), Reads w D0 n0 bs0 → Reads w D1 n1 bs1 → Calls Try.prog 21 #[.agg #[.int .i64 z0_0, .int .i64 z0_1, .int .i64 z0_2, .slice D0 n0 n0], .agg #[.int .i64 z1_0, .int .i64 z1_1, .slice D1 n1 n1]] w fun e w' => ∃ (A0 : Option Addr) (c0 : Nat) (b0 : List Int), e = .returned (.tuple #[.slice A0 b0.length c0, .bool o1]) ∧ OwnI w' w.heap.size 2 (.slice A0 b0.length c0) b0 ∧ Eqi b0 L0 ∧ Ext w w') :
    Calls Try.prog 4 #[.agg #[.int .i64 z0_0, .int .i64 z0_1, .int .i64 z0_2, .slice A0 n0 e0], .agg #[.int .i64 z1_0, .int .i64 z1_1, .slice A1 n1 e1]] W0 fun e w' => e = .returned (.bool true) ∧ Ext W0 w' := by
  have HS := Lib.hid hs
  have HI := Lib.hid hi
  clear hs hi
  have hE := Ext.refl W0
  have ne1 : (o1 != o1) = false := by cases o1 <;> rfl
  go_enter Try.func4, Try.ntmps4
  go_wp2_with fail
  refine calls_at (X := fun w' => Ext W0 w' ∧ Box4 w' (W0.heap.size) (.int .i64 z0_0) (.int .i64 z0_1) (.int .i64 z0_2) (.slice A0 n0 e0) ∧ Box3 w' (W0.heap.size + 1) (.int .i64 z1_0) (.int .i64 z1_1) (.slice A1 n1 e1)) ?_ ?_
  · refine ⟨?_, ?_, ?_⟩
    · repeat (first | with_reducible exact Ext.refl _ |  (with_reducible refine Ext.setCell ?_ (by simp; try omega) _) | (with_reducible refine Ext.alloc ?_ _) | (with_reducible refine Ext.drewN ?_ _))
    · refine ⟨?_, ?_, ?_, ?_⟩ <;> simp [go_sem, *]
    · refine ⟨?_, ?_, ?_⟩ <;> simp [go_sem, *]
  rintro w1 ⟨hx, B0, B1⟩
  have s_w1 : W0.heap.size ≤ w1.heap.size := hx.size
  replace hE := hE.trans hx
  clear hx
  have lt_B0 := B0.lt
  have lt_B1 := B1.lt
  by_cases hf0 : (n0 : Int) ≤ 1048576
  rotate_left
  · refine (szVolume_over z0_0 z0_1 z0_2 A0 n0 e0 (1048576) _ hn0 (by omega) (by omega) (by omega)).mono ?_
    rintro e wz ⟨rfl, hx⟩
    go_wp2
    go_ret
    exact ⟨rfl, hE.trans hx⟩
  refine (szVolume_fits z0_0 z0_1 z0_2 A0 n0 e0 (1048576) _ hn0 (by omega) (by omega) hf0).mono ?_
  rintro e w2 ⟨rfl, hx⟩
  have s_w2 : w1.heap.size ≤ w2.heap.size := hx.size
  replace hE := hE.trans hx
  replace B0 := B0.ext hx
  replace B1 := B1.ext hx
  clear hx
  have nl0 : ¬ 1048576 - (n0 : Int) < 0 := by omega
  have ⟨uB0_0, uB0_1, uB0_2, uB0_3⟩ := B0
  have ulB0 := B0.lt
  have ⟨uB1_0, uB1_1, uB1_2⟩ := B1
  have ulB1 := B1.lt
  go_wp2_with fail
  clear uB0_0 uB0_1 uB0_2 uB0_3 ulB0 uB1_0 uB1_1 uB1_2 ulB1
  by_cases hf1 : (n1 : Int) ≤ 1048576 - (n0 : Int)
  rotate_left
  · refine (szMap_over z1_0 z1_1 A1 n1 e1 (1048576 - (n0 : Int)) _ hn1 (by omega) (by omega) (by omega)).mono ?_
    rintro e wz ⟨rfl, hx⟩
    go_wp2
    go_ret
    exact ⟨rfl, hE.trans hx⟩
  refine (szMap_fits z1_0 z1_1 A1 n1 e1 (1048576 - (n0 : Int)) _ hn1 (by omega) (by omega) hf1).mono ?_
  rintro e w3 ⟨rfl, hx⟩
  have s_w3 : w2.heap.size ≤ w3.heap.size := hx.size
  replace hE := hE.trans hx
  replace B0 := B0.ext hx
  replace B1 := B1.ext hx
  clear hx
  have nl1 : ¬ 1048576 - (n0 : Int) - (n1 : Int) < 0 := by omega
  have hq0 : n0 ≤ 1048576 := by omega
  have hl0 : bs0.length = n0 := hr0.1
  have hq1 : n1 ≤ 1048576 := by omega
  have hl1 : bs1.length = n1 := hr1.1
  have ⟨uB0_0, uB0_1, uB0_2, uB0_3⟩ := B0
  have ulB0 := B0.lt
  have ⟨uB1_0, uB1_1, uB1_2⟩ := B1
  have ulB1 := B1.lt
  go_wp2_with fail
  refine region_we 7 8 8 [none, some (fun u W => ∃ g, u = .agg #[.int .i64 z0_0, .int .i64 z0_1, .int .i64 z0_2, .slice (some ⟨g, 0, none⟩) n0 n0] ∧ Reads W (some ⟨g, 0, none⟩) n0 bs0), none, some (fun u W => ∃ g, u = .agg #[.int .i64 z1_0, .int .i64 z1_1, .slice (some ⟨g, 0, none⟩) n1 n1] ∧ Reads W (some ⟨g, 0, none⟩) n1 bs1), some (fun u W => ∃ (A0 : Option Addr) (c0 : Nat) (b0 : List Int), u = .tuple #[.slice A0 b0.length c0, .bool o1] ∧ OwnI W w3.heap.size 2 (.slice A0 b0.length c0) b0 ∧ Eqi b0 L0), none, none, none] (by kernel_rfl) (by kernel_rfl) (by kernel_rfl) ?_
  dsimp only [addEdge]
  simp only [List.take_succ_cons, List.take_zero, List.drop_succ_cons, List.drop_zero]
  repeat ((first | refine wx_skip rfl ?_ | refine wx_nilCheck rfl rfl _ rfl _ rfl ?_ | (refine wx_float rfl rfl _ _ _ _ _ _ _ rfl rfl rfl rfl ?_; intro r hr) | (refine wx_k rfl rfl rfl (fun K hK => ?_); go_big_quiet_op; refine hK _ ?_; clear hK K) | (refine wx_callR _ rfl rfl 13 _ _ rfl (by kernel_rfl) (fun W hW hF => ?_) ?_; (· go_simp; (with_reducible refine (toVolume_any z0_0 z0_1 z0_2 A0 n0 e0 bs0 W hq0 (hr0.ext (hE.trans hW))).mono ?_); rintro e w' ⟨g, _, rfl, ho, hx⟩; exact ⟨_, rfl, ⟨g, rfl, ho.reads⟩, hx⟩); rintro u V0 hV0 ⟨g0, rfl, hrd0⟩) | (refine wx_callR _ rfl rfl 15 _ _ rfl (by kernel_rfl) (fun W hW hF => ?_) ?_; (· go_simp; (with_reducible refine (toMap_any z1_0 z1_1 A1 n1 e1 bs1 W hq1 (hr1.ext (hE.trans hW))).mono ?_); rintro e w' ⟨g, _, rfl, ho, hx⟩; exact ⟨_, rfl, ⟨g, rfl, ho.reads⟩, hx⟩); rintro u V1 hV1 ⟨g1, rfl, hrd1⟩) | (refine wx_callR _ rfl rfl 20 _ _ rfl (by kernel_rfl) (fun W hW hF => ?_) ?_; (· go_simp; have hVW0 : Ext V0 W := hF 1 (by kernel_rfl); have hVW1 : Ext V1 W := hF 3 (by kernel_rfl); (with_reducible refine (HS.out W (some ⟨g0, 0, none⟩) (some ⟨g1, 0, none⟩) (hrd0.ext hVW0) (hrd1.ext hVW1)).mono ?_); rintro e w' ⟨A0, c0, b0, rfl, o0', m0, hx⟩; exact ⟨_, rfl, ⟨A0, c0, b0, rfl, o0'.weaken hW.size, m0⟩, hx⟩); rintro u VF hVF ⟨wA0, wc0, wb0, rfl, wo0, wm0⟩)); (try simp only [Act.put, List.setIfInBounds_toArray, List.set_cons_zero, List.set_cons_succ]); (try simp only [List.tail_cons]))
  refine wx_nil (fun W hW hF => ?_)
  have hFW : Ext VF W := hF 4
  clear uB0_0 uB0_1 uB0_2 uB0_3 ulB0 uB1_0 uB1_1 uB1_2 ulB1 hF
  obtain ⟨w4, rfl⟩ : ∃ w', w' = W := ⟨W, rfl⟩
  have hx := hW
  clear hW
  have s_w4 : w3.heap.size ≤ w4.heap.size := hx.size
  replace hE := hE.trans hx
  replace B0 := B0.ext hx
  replace B1 := B1.ext hx
  clear hx
  replace wo0 := wo0.ext hFW
  clear hFW
  have ⟨uB0_0, uB0_1, uB0_2, uB0_3⟩ := B0
  have ulB0 := B0.lt
  have ⟨uB1_0, uB1_1, uB1_2⟩ := B1
  have ulB1 := B1.lt
  go_wp2_with fail
  refine np_at (X := fun w' => w4 = w') rfl ?_
  rintro w' rfl
  have wl0 : wb0.length ≤ 4096 := by rw [wm0.out]; omega
  have wq0 := wo0.row
  have ⟨uB0_0, uB0_1, uB0_2, uB0_3⟩ := B0
  have ulB0 := B0.lt
  have ⟨uB1_0, uB1_1, uB1_2⟩ := B1
  have ulB1 := B1.lt
  go_wp2_with fail
  clear uB0_0 uB0_1 uB0_2 uB0_3 ulB0 uB1_0 uB1_1 uB1_2 ulB1
  refine (toVolume_any z0_0 z0_1 z0_2 A0 n0 e0 bs0 _ hq0 (hr0.ext hE)).mono ?_
  rintro e w5 ⟨xg0, xk0, rfl, xt0, hx⟩
  have s_w5 : w4.heap.size ≤ w5.heap.size := hx.size
  replace hE := hE.trans hx
  replace B0 := B0.ext hx
  replace B1 := B1.ext hx
  replace wo0 := wo0.ext hx
  clear hx
  have xq0 := xt0.row
  have ⟨uB0_0, uB0_1, uB0_2, uB0_3⟩ := B0
  have ulB0 := B0.lt
  have ⟨uB1_0, uB1_1, uB1_2⟩ := B1
  have ulB1 := B1.lt
  go_wp2_with fail
  clear uB0_0 uB0_1 uB0_2 uB0_3 ulB0 uB1_0 uB1_1 uB1_2 ulB1
  refine calls_at (X := fun w' => Ext w5 w' ∧ Box4 w' (w5.heap.size) (.int .i64 z0_0) (.int .i64 z0_1) (.int .i64 z0_2) (.slice (some ⟨xg0, 0, none⟩) n0 n0)) ?_ ?_
  · refine ⟨?_, ?_⟩
    · repeat (first | with_reducible exact Ext.refl _ |  (with_reducible refine Ext.setCell ?_ (by simp; try omega) _) | (with_reducible refine Ext.alloc ?_ _) | (with_reducible refine Ext.drewN ?_ _))
    · refine ⟨?_, ?_, ?_, ?_⟩ <;> simp [go_sem, *]
  rintro w6 ⟨hx, xB0⟩
  have s_w6 : w5.heap.size ≤ w6.heap.size := hx.size
  replace hE := hE.trans hx
  replace B0 := B0.ext hx
  replace B1 := B1.ext hx
  replace wo0 := wo0.ext hx
  replace xt0 := xt0.ext hx
  clear hx
  have lt_xB0 := xB0.lt
  refine (toMap_any z1_0 z1_1 A1 n1 e1 bs1 _ hq1 (hr1.ext hE)).mono ?_
  rintro e w7 ⟨xg1, xk1, rfl, xt1, hx⟩
  have s_w7 : w6.heap.size ≤ w7.heap.size := hx.size
  replace hE := hE.trans hx
  replace B0 := B0.ext hx
  replace B1 := B1.ext hx
  replace wo0 := wo0.ext hx
  replace xt0 := xt0.ext hx
  replace xB0 := xB0.ext hx
  clear hx
  have xq1 := xt1.row
  have ⟨uB0_0, uB0_1, uB0_2, uB0_3⟩ := B0
  have ulB0 := B0.lt
  have ⟨uB1_0, uB1_1, uB1_2⟩ := B1
  have ulB1 := B1.lt
  have ⟨uxB0_0, uxB0_1, uxB0_2, uxB0_3⟩ := xB0
  have ulxB0 := xB0.lt
  go_wp2_with fail
  clear uB0_0 uB0_1 uB0_2 uB0_3 ulB0 uB1_0 uB1_1 uB1_2 ulB1 uxB0_0 uxB0_1 uxB0_2 uxB0_3 ulxB0
  refine calls_at (X := fun w' => Ext w7 w' ∧ Box3 w' (w7.heap.size) (.int .i64 z1_0) (.int .i64 z1_1) (.slice (some ⟨xg1, 0, none⟩) n1 n1)) ?_ ?_
  · refine ⟨?_, ?_⟩
    · repeat (first | with_reducible exact Ext.refl _ |  (with_reducible refine Ext.setCell ?_ (by simp; try omega) _) | (with_reducible refine Ext.alloc ?_ _) | (with_reducible refine Ext.drewN ?_ _))
    · refine ⟨?_, ?_, ?_⟩ <;> simp [go_sem, *]
  rintro w8 ⟨hx, xB1⟩
  have s_w8 : w7.heap.size ≤ w8.heap.size := hx.size
  replace hE := hE.trans hx
  replace B0 := B0.ext hx
  replace B1 := B1.ext hx
  replace wo0 := wo0.ext hx
  replace xt0 := xt0.ext hx
  replace xB0 := xB0.ext hx
  replace xt1 := xt1.ext hx
  clear hx
  have lt_xB1 := xB1.lt
  refine (HI.out _ (some ⟨xg0, 0, none⟩) (some ⟨xg1, 0, none⟩) xt0.reads xt1.reads).mono ?_
  rintro e w9 ⟨gA0, gc0, gb0, rfl, go0, gm0, hx⟩
  have s_w9 : w8.heap.size ≤ w9.heap.size := hx.size
  replace hE := hE.trans hx
  replace B0 := B0.ext hx
  replace B1 := B1.ext hx
  replace wo0 := wo0.ext hx
  replace xt0 := xt0.ext hx
  replace xB0 := xB0.ext hx
  replace xt1 := xt1.ext hx
  replace xB1 := xB1.ext hx
  clear hx
  have gl0 : gb0.length ≤ 4096 := by rw [gm0.out]; omega
  have gq0 := go0.row
  have ⟨uB0_0, uB0_1, uB0_2, uB0_3⟩ := B0
  have ulB0 := B0.lt
  have ⟨uB1_0, uB1_1, uB1_2⟩ := B1
  have ulB1 := B1.lt
  have ⟨uxB0_0, uxB0_1, uxB0_2, uxB0_3⟩ := xB0
  have ulxB0 := xB0.lt
  have ⟨uxB1_0, uxB1_1, uxB1_2⟩ := xB1
  have ulxB1 := xB1.lt
  go_wp2_with fail
  clear uB0_0 uB0_1 uB0_2 uB0_3 ulB0 uB1_0 uB1_1 uB1_2 ulB1 uxB0_0 uxB0_1 uxB0_2 uxB0_3 ulxB0 uxB1_0 uxB1_1 uxB1_2 ulxB1
  refine (eqI64S_any  _ _ _ _ _ _ _ _ _ (by unfold maxLen; omega) go0.reads wo0.reads (gm0.trans wm0.symm)).mono ?_
  rintro e w10 ⟨rfl, hx⟩
  have s_w10 : w9.heap.size ≤ w10.heap.size := hx.size
  replace hE := hE.trans hx
  replace B0 := B0.ext hx
  replace B1 := B1.ext hx
  replace wo0 := wo0.ext hx
  replace xt0 := xt0.ext hx
  replace xB0 := xB0.ext hx
  replace xt1 := xt1.ext hx
  replace xB1 := xB1.ext hx
  replace go0 := go0.ext hx
  clear hx
  have ⟨uB0_0, uB0_1, uB0_2, uB0_3⟩ := B0
  have ulB0 := B0.lt
  have ⟨uB1_0, uB1_1, uB1_2⟩ := B1
  have ulB1 := B1.lt
  have ⟨uxB0_0, uxB0_1, uxB0_2, uxB0_3⟩ := xB0
  have ulxB0 := xB0.lt
  have ⟨uxB1_0, uxB1_1, uxB1_2⟩ := xB1
  have ulxB1 := xB1.lt
  go_wp2_with fail
  refine region_wx0 [none, none, some (fun u W => ∃ g, u = .agg #[.int .i64 z0_0, .int .i64 z0_1, .int .i64 z0_2, .slice (some ⟨g, 0, none⟩) n0 n0] ∧ Reads W (some ⟨g, 0, none⟩) n0 bs0)] (by kernel_rfl) (by kernel_rfl) ?_
  repeat ((first | refine wx_skip rfl ?_ | refine wx_nilCheck rfl rfl _ rfl _ rfl ?_ | (refine wx_float rfl rfl _ _ _ _ _ _ _ rfl rfl rfl rfl ?_; intro r hr) | (refine wx_k rfl rfl rfl (fun K hK => ?_); go_big_quiet_op; refine hK _ ?_; clear hK K) | (refine wx_callR _ rfl rfl 13 _ _ rfl (by kernel_rfl) (fun W hW hF => ?_) ?_; (· go_simp; (with_reducible refine (toVolume_any z0_0 z0_1 z0_2 A0 n0 e0 bs0 W hq0 (hr0.ext (hE.trans hW))).mono ?_); rintro e w' ⟨g, _, rfl, ho, hx⟩; exact ⟨_, rfl, ⟨g, rfl, ho.reads⟩, hx⟩); rintro u V hV ⟨g, rfl, hrd⟩) | (refine wx_call rfl rfl 18 _ _ rfl (by kernel_rfl) (by kernel_rfl) (.bool true) (fun W hW hF => ?_) ?_; (· go_simp; have hVW : Ext V W := hF 2 (by kernel_rfl); (with_reducible refine (eqVolume_any z0_0 z0_1 z0_2 _ _ _ _ _ _ bs0 bs0 W hn0 (xt0.ext hW).reads (hrd.ext hVW) rfl).mono ?_); rintro e w' h; exact h))); (try simp only [Act.put, List.setIfInBounds_toArray, List.set_cons_zero, List.set_cons_succ]); (try simp only [List.tail_cons]))
  refine wx_nil (fun W hW hF => ?_)
  clear uB0_0 uB0_1 uB0_2 uB0_3 ulB0 uB1_0 uB1_1 uB1_2 ulB1 uxB0_0 uxB0_1 uxB0_2 uxB0_3 ulxB0 uxB1_0 uxB1_1 uxB1_2 ulxB1 hF
  obtain ⟨w11, rfl⟩ : ∃ w', w' = W := ⟨W, rfl⟩
  have hx := hW
  clear hW
  have s_w11 : w10.heap.size ≤ w11.heap.size := hx.size
  replace hE := hE.trans hx
  replace B0 := B0.ext hx
  replace B1 := B1.ext hx
  replace wo0 := wo0.ext hx
  replace xt0 := xt0.ext hx
  replace xB0 := xB0.ext hx
  replace xt1 := xt1.ext hx
  replace xB1 := xB1.ext hx
  replace go0 := go0.ext hx
  clear hx
  have ⟨uB0_0, uB0_1, uB0_2, uB0_3⟩ := B0
  have ulB0 := B0.lt
  have ⟨uB1_0, uB1_1, uB1_2⟩ := B1
  have ulB1 := B1.lt
  have ⟨uxB0_0, uxB0_1, uxB0_2, uxB0_3⟩ := xB0
  have ulxB0 := xB0.lt
  have ⟨uxB1_0, uxB1_1, uxB1_2⟩ := xB1
  have ulxB1 := xB1.lt
  go_wp2_with fail
  refine region_wx0 [none, none, some (fun u W => ∃ g, u = .agg #[.int .i64 z1_0, .int .i64 z1_1, .slice (some ⟨g, 0, none⟩) n1 n1] ∧ Reads W (some ⟨g, 0, none⟩) n1 bs1)] (by kernel_rfl) (by kernel_rfl) ?_
  repeat ((first | refine wx_skip rfl ?_ | refine wx_nilCheck rfl rfl _ rfl _ rfl ?_ | (refine wx_float rfl rfl _ _ _ _ _ _ _ rfl rfl rfl rfl ?_; intro r hr) | (refine wx_k rfl rfl rfl (fun K hK => ?_); go_big_quiet_op; refine hK _ ?_; clear hK K) | (refine wx_callR _ rfl rfl 15 _ _ rfl (by kernel_rfl) (fun W hW hF => ?_) ?_; (· go_simp; (with_reducible refine (toMap_any z1_0 z1_1 A1 n1 e1 bs1 W hq1 (hr1.ext (hE.trans hW))).mono ?_); rintro e w' ⟨g, _, rfl, ho, hx⟩; exact ⟨_, rfl, ⟨g, rfl, ho.reads⟩, hx⟩); rintro u V hV ⟨g, rfl, hrd⟩) | (refine wx_call rfl rfl 19 _ _ rfl (by kernel_rfl) (by kernel_rfl) (.bool true) (fun W hW hF => ?_) ?_; (· go_simp; have hVW : Ext V W := hF 2 (by kernel_rfl); (with_reducible refine (eqMap_any z1_0 z1_1 _ _ _ _ _ _ bs1 bs1 W hn1 (xt1.ext hW).reads (hrd.ext hVW) rfl).mono ?_); rintro e w' h; exact h))); (try simp only [Act.put, List.setIfInBounds_toArray, List.set_cons_zero, List.set_cons_succ]); (try simp only [List.tail_cons]))
  refine wx_nil (fun W hW hF => ?_)
  clear uB0_0 uB0_1 uB0_2 uB0_3 ulB0 uB1_0 uB1_1 uB1_2 ulB1 uxB0_0 uxB0_1 uxB0_2 uxB0_3 ulxB0 uxB1_0 uxB1_1 uxB1_2 ulxB1 hF
  obtain ⟨w12, rfl⟩ : ∃ w', w' = W := ⟨W, rfl⟩
  have hx := hW
  clear hW
  have s_w12 : w11.heap.size ≤ w12.heap.size := hx.size
  replace hE := hE.trans hx
  replace B0 := B0.ext hx
  replace B1 := B1.ext hx
  replace wo0 := wo0.ext hx
  replace xt0 := xt0.ext hx
  replace xB0 := xB0.ext hx
  replace xt1 := xt1.ext hx
  replace xB1 := xB1.ext hx
  replace go0 := go0.ext hx
  clear hx
  have HL0 := Lib.hid hl0
  clear hl0
  have HL1 := Lib.hid hl1
  clear hl1
  have ⟨uB0_0, uB0_1, uB0_2, uB0_3⟩ := B0
  have ulB0 := B0.lt
  have ⟨uB1_0, uB1_1, uB1_2⟩ := B1
  have ulB1 := B1.lt
  have ⟨uxB0_0, uxB0_1, uxB0_2, uxB0_3⟩ := xB0
  have ulxB0 := xB0.lt
  have ⟨uxB1_0, uxB1_1, uxB1_2⟩ := xB1
  have ulxB1 := xB1.lt
  go_wp2_with fail
  clear uB0_0 uB0_1 uB0_2 uB0_3 ulB0 uB1_0 uB1_1 uB1_2 ulB1 uxB0_0 uxB0_1 uxB0_2 uxB0_3 ulxB0 uxB1_0 uxB1_1 uxB1_2 ulxB1
  refine (markVolume_i z0_0 z0_1 z0_2 (some ⟨xg0, 0, none⟩) n0 n0 bs0 (1) _ _ (by have := HL0.out; have := HL1.out; omega) (by have := HL0.out; have := HL1.out; omega) xt0).mono ?_
  rintro e w13 ⟨rfl, hm, hgr⟩
  clear hm
  have s_w13 : w12.heap.size ≤ w13.heap.size := hgr.size
  replace hE := Ext.grown hE hgr (fun g hg => by have := xq0 g hg; omega)
  replace B0 := B0.grown hgr (row_box xq0 _ (by omega))
  replace B1 := B1.grown hgr (row_box xq0 _ (by omega))
  replace wo0 := wo0.grown hgr (rows_apart wq0 xq0 (by omega))
  replace xB0 := xB0.grown hgr (row_box xq0 _ (by omega))
  replace xt1 := xt1.grown hgr (rows_apart xq1 xq0 (by omega))
  replace xB1 := xB1.grown hgr (row_box xq0 _ (by omega))
  replace go0 := go0.grown hgr (rows_apart gq0 xq0 (by omega))
  clear hgr
  clear xt0
  have ⟨uB0_0, uB0_1, uB0_2, uB0_3⟩ := B0
  have ulB0 := B0.lt
  have ⟨uB1_0, uB1_1, uB1_2⟩ := B1
  have ulB1 := B1.lt
  have ⟨uxB0_0, uxB0_1, uxB0_2, uxB0_3⟩ := xB0
  have ulxB0 := xB0.lt
  have ⟨uxB1_0, uxB1_1, uxB1_2⟩ := xB1
  have ulxB1 := xB1.lt
  go_wp2_with fail
  clear uB0_0 uB0_1 uB0_2 uB0_3 ulB0 uB1_0 uB1_1 uB1_2 ulB1 uxB0_0 uxB0_1 uxB0_2 uxB0_3 ulxB0 uxB1_0 uxB1_1 uxB1_2 ulxB1
  refine (markMap_i z1_0 z1_1 (some ⟨xg1, 0, none⟩) n1 n1 bs1 (1 + (bs0.length : Int)) _ _ (by have := HL0.out; have := HL1.out; omega) (by have := HL0.out; have := HL1.out; omega) xt1).mono ?_
  rintro e w14 ⟨rfl, hm, hgr⟩
  clear hm
  have s_w14 : w13.heap.size ≤ w14.heap.size := hgr.size
  replace hE := Ext.grown hE hgr (fun g hg => by have := xq1 g hg; omega)
  replace B0 := B0.grown hgr (row_box xq1 _ (by omega))
  replace B1 := B1.grown hgr (row_box xq1 _ (by omega))
  replace wo0 := wo0.grown hgr (rows_apart wq0 xq1 (by omega))
  replace xB0 := xB0.grown hgr (row_box xq1 _ (by omega))
  replace xB1 := xB1.grown hgr (row_box xq1 _ (by omega))
  replace go0 := go0.grown hgr (rows_apart gq0 xq1 (by omega))
  clear hgr
  clear xt1
  have nk : ¬ 1 + (bs0.length : Int) + (bs1.length : Int) < 0 := by omega
  have ⟨uB0_0, uB0_1, uB0_2, uB0_3⟩ := B0
  have ulB0 := B0.lt
  have ⟨uB1_0, uB1_1, uB1_2⟩ := B1
  have ulB1 := B1.lt
  have ⟨uxB0_0, uxB0_1, uxB0_2, uxB0_3⟩ := xB0
  have ulxB0 := xB0.lt
  have ⟨uxB1_0, uxB1_1, uxB1_2⟩ := xB1
  have ulxB1 := xB1.lt
  go_wp2_with fail
  clear uB0_0 uB0_1 uB0_2 uB0_3 ulB0 uB1_0 uB1_1 uB1_2 ulB1 uxB0_0 uxB0_1 uxB0_2 uxB0_3 ulxB0 uxB1_0 uxB1_1 uxB1_2 ulxB1
  refine (eqI64S_any  _ _ _ _ _ _ _ _ _ (by unfold maxLen; omega) go0.reads wo0.reads (gm0.trans wm0.symm)).mono ?_
  rintro e w15 ⟨rfl, hx⟩
  have s_w15 : w14.heap.size ≤ w15.heap.size := hx.size
  replace hE := hE.trans hx
  replace B0 := B0.ext hx
  replace B1 := B1.ext hx
  replace wo0 := wo0.ext hx
  replace xB0 := xB0.ext hx
  replace xB1 := xB1.ext hx
  replace go0 := go0.ext hx
  clear hx
  have ⟨uB0_0, uB0_1, uB0_2, uB0_3⟩ := B0
  have ulB0 := B0.lt
  have ⟨uB1_0, uB1_1, uB1_2⟩ := B1
  have ulB1 := B1.lt
  have ⟨uxB0_0, uxB0_1, uxB0_2, uxB0_3⟩ := xB0
  have ulxB0 := xB0.lt
  have ⟨uxB1_0, uxB1_1, uxB1_2⟩ := xB1
  have ulxB1 := xB1.lt
  go_wp2_with fail
  clear uB0_0 uB0_1 uB0_2 uB0_3 ulB0 uB1_0 uB1_1 uB1_2 ulB1 uxB0_0 uxB0_1 uxB0_2 uxB0_3 ulxB0 uxB1_0 uxB1_1 uxB1_2 ulxB1
  refine (markI64S_i  gA0 gb0.length gc0 gb0 (1) _ _ (by omega) (by omega) go0).mono ?_
  rintro e w16 ⟨rfl, hm, hgr⟩
  have s_w16 : w15.heap.size ≤ w16.heap.size := hgr.size
  replace hE := Ext.grown hE hgr (fun g hg => by have := gq0 g hg; omega)
  replace B0 := B0.grown hgr (row_box gq0 _ (by omega))
  replace B1 := B1.grown hgr (row_box gq0 _ (by omega))
  replace wo0 := wo0.grown hgr (rows_apart wq0 gq0 (by omega))
  replace xB0 := xB0.grown hgr (row_box gq0 _ (by omega))
  replace xB1 := xB1.grown hgr (row_box gq0 _ (by omega))
  clear hgr
  clear go0
  have go0 := hm
  clear hm
  have ⟨uB0_0, uB0_1, uB0_2, uB0_3⟩ := B0
  have ulB0 := B0.lt
  have ⟨uB1_0, uB1_1, uB1_2⟩ := B1
  have ulB1 := B1.lt
  have ⟨uxB0_0, uxB0_1, uxB0_2, uxB0_3⟩ := xB0
  have ulxB0 := xB0.lt
  have ⟨uxB1_0, uxB1_1, uxB1_2⟩ := xB1
  have ulxB1 := xB1.lt
  go_wp2_with fail
  clear uB0_0 uB0_1 uB0_2 uB0_3 ulB0 uB1_0 uB1_1 uB1_2 ulB1 uxB0_0 uxB0_1 uxB0_2 uxB0_3 ulxB0 uxB1_0 uxB1_1 uxB1_2 ulxB1
  refine (heldI64S_i  gA0 gb0.length gc0 gb0.length (1) _ _ (by omega) (by omega) go0).mono ?_
  rintro e w17 ⟨rfl, hx⟩
  have s_w17 : w16.heap.size ≤ w17.heap.size := hx.size
  replace hE := hE.trans hx
  replace B0 := B0.ext hx
  replace B1 := B1.ext hx
  replace wo0 := wo0.ext hx
  replace xB0 := xB0.ext hx
  replace xB1 := xB1.ext hx
  replace go0 := go0.ext hx
  clear hx
  have nm : ¬ 1 + (gb0.length : Int) < 0 := by omega
  have nn : (1 + (gb0.length : Int) != 1 + (gb0.length : Int)) = false := by simp
  have ⟨uB0_0, uB0_1, uB0_2, uB0_3⟩ := B0
  have ulB0 := B0.lt
  have ⟨uB1_0, uB1_1, uB1_2⟩ := B1
  have ulB1 := B1.lt
  have ⟨uxB0_0, uxB0_1, uxB0_2, uxB0_3⟩ := xB0
  have ulxB0 := xB0.lt
  have ⟨uxB1_0, uxB1_1, uxB1_2⟩ := xB1
  have ulxB1 := xB1.lt
  go_wp2_with fail
  refine region_we 7 8 8 [none, some (fun u W => ∃ g, u = .agg #[.int .i64 z0_0, .int .i64 z0_1, .int .i64 z0_2, .slice (some ⟨g, 0, none⟩) n0 n0] ∧ Reads W (some ⟨g, 0, none⟩) n0 bs0), none, some (fun u W => ∃ g, u = .agg #[.int .i64 z1_0, .int .i64 z1_1, .slice (some ⟨g, 0, none⟩) n1 n1] ∧ Reads W (some ⟨g, 0, none⟩) n1 bs1), some (fun u W => ∃ (A0 : Option Addr) (c0 : Nat) (b0 : List Int), u = .tuple #[.slice A0 b0.length c0, .bool o1] ∧ OwnI W w17.heap.size 2 (.slice A0 b0.length c0) b0 ∧ Eqi b0 L0), none, none, none] (by kernel_rfl) (by kernel_rfl) (by kernel_rfl) ?_
  dsimp only [addEdge]
  simp only [List.take_succ_cons, List.take_zero, List.drop_succ_cons, List.drop_zero]
  repeat ((first | refine wx_skip rfl ?_ | refine wx_nilCheck rfl rfl _ rfl _ rfl ?_ | (refine wx_float rfl rfl _ _ _ _ _ _ _ rfl rfl rfl rfl ?_; intro r hr) | (refine wx_k rfl rfl rfl (fun K hK => ?_); go_big_quiet_op; refine hK _ ?_; clear hK K) | (refine wx_callR _ rfl rfl 13 _ _ rfl (by kernel_rfl) (fun W hW hF => ?_) ?_; (· go_simp; (with_reducible refine (toVolume_any z0_0 z0_1 z0_2 A0 n0 e0 bs0 W hq0 (hr0.ext (hE.trans hW))).mono ?_); rintro e w' ⟨g, _, rfl, ho, hx⟩; exact ⟨_, rfl, ⟨g, rfl, ho.reads⟩, hx⟩); rintro u V0 hV0 ⟨g0, rfl, hrd0⟩) | (refine wx_callR _ rfl rfl 15 _ _ rfl (by kernel_rfl) (fun W hW hF => ?_) ?_; (· go_simp; (with_reducible refine (toMap_any z1_0 z1_1 A1 n1 e1 bs1 W hq1 (hr1.ext (hE.trans hW))).mono ?_); rintro e w' ⟨g, _, rfl, ho, hx⟩; exact ⟨_, rfl, ⟨g, rfl, ho.reads⟩, hx⟩); rintro u V1 hV1 ⟨g1, rfl, hrd1⟩) | (refine wx_callR _ rfl rfl 21 _ _ rfl (by kernel_rfl) (fun W hW hF => ?_) ?_; (· go_simp; have hVW0 : Ext V0 W := hF 1 (by kernel_rfl); have hVW1 : Ext V1 W := hF 3 (by kernel_rfl); (with_reducible refine (HI.out W (some ⟨g0, 0, none⟩) (some ⟨g1, 0, none⟩) (hrd0.ext hVW0) (hrd1.ext hVW1)).mono ?_); rintro e w' ⟨A0, c0, b0, rfl, o0', m0, hx⟩; exact ⟨_, rfl, ⟨A0, c0, b0, rfl, o0'.weaken hW.size, m0⟩, hx⟩); rintro u VF hVF ⟨hA0, hc0, hb0, rfl, ho0, hm0⟩)); (try simp only [Act.put, List.setIfInBounds_toArray, List.set_cons_zero, List.set_cons_succ]); (try simp only [List.tail_cons]))
  refine wx_nil (fun W hW hF => ?_)
  have hFW : Ext VF W := hF 4
  clear uB0_0 uB0_1 uB0_2 uB0_3 ulB0 uB1_0 uB1_1 uB1_2 ulB1 uxB0_0 uxB0_1 uxB0_2 uxB0_3 ulxB0 uxB1_0 uxB1_1 uxB1_2 ulxB1 hF
  obtain ⟨w18, rfl⟩ : ∃ w', w' = W := ⟨W, rfl⟩
  have hx := hW
  clear hW
  have s_w18 : w17.heap.size ≤ w18.heap.size := hx.size
  replace hE := hE.trans hx
  replace B0 := B0.ext hx
  replace B1 := B1.ext hx
  replace wo0 := wo0.ext hx
  replace xB0 := xB0.ext hx
  replace xB1 := xB1.ext hx
  replace go0 := go0.ext hx
  clear hx
  replace ho0 := ho0.ext hFW
  clear hFW
  have ⟨uB0_0, uB0_1, uB0_2, uB0_3⟩ := B0
  have ulB0 := B0.lt
  have ⟨uB1_0, uB1_1, uB1_2⟩ := B1
  have ulB1 := B1.lt
  have ⟨uxB0_0, uxB0_1, uxB0_2, uxB0_3⟩ := xB0
  have ulxB0 := xB0.lt
  have ⟨uxB1_0, uxB1_1, uxB1_2⟩ := xB1
  have ulxB1 := xB1.lt
  go_wp2_with fail
  refine np_at (X := fun w' => w18 = w') rfl ?_
  rintro w' rfl
  have hl0 : hb0.length ≤ 4096 := by rw [hm0.out]; omega
  have hq0 := ho0.row
  have ⟨uB0_0, uB0_1, uB0_2, uB0_3⟩ := B0
  have ulB0 := B0.lt
  have ⟨uB1_0, uB1_1, uB1_2⟩ := B1
  have ulB1 := B1.lt
  have ⟨uxB0_0, uxB0_1, uxB0_2, uxB0_3⟩ := xB0
  have ulxB0 := xB0.lt
  have ⟨uxB1_0, uxB1_1, uxB1_2⟩ := xB1
  have ulxB1 := xB1.lt
  go_wp2_with fail
  clear uB0_0 uB0_1 uB0_2 uB0_3 ulB0 uB1_0 uB1_1 uB1_2 ulB1 uxB0_0 uxB0_1 uxB0_2 uxB0_3 ulxB0 uxB1_0 uxB1_1 uxB1_2 ulxB1
  refine (eqI64S_any  _ _ _ _ _ _ _ _ _ (by unfold maxLen; omega) ho0.reads wo0.reads (hm0.trans wm0.symm)).mono ?_
  rintro e w19 ⟨rfl, hx⟩
  have s_w19 : w18.heap.size ≤ w19.heap.size := hx.size
  replace hE := hE.trans hx
  replace B0 := B0.ext hx
  replace B1 := B1.ext hx
  replace wo0 := wo0.ext hx
  replace xB0 := xB0.ext hx
  replace xB1 := xB1.ext hx
  replace go0 := go0.ext hx
  replace ho0 := ho0.ext hx
  clear hx
  have ⟨uB0_0, uB0_1, uB0_2, uB0_3⟩ := B0
  have ulB0 := B0.lt
  have ⟨uB1_0, uB1_1, uB1_2⟩ := B1
  have ulB1 := B1.lt
  have ⟨uxB0_0, uxB0_1, uxB0_2, uxB0_3⟩ := xB0
  have ulxB0 := xB0.lt
  have ⟨uxB1_0, uxB1_1, uxB1_2⟩ := xB1
  have ulxB1 := xB1.lt
  go_wp2_with fail
  clear uB0_0 uB0_1 uB0_2 uB0_3 ulB0 uB1_0 uB1_1 uB1_2 ulB1 uxB0_0 uxB0_1 uxB0_2 uxB0_3 ulxB0 uxB1_0 uxB1_1 uxB1_2 ulxB1
  refine (heldI64S_i  gA0 gb0.length gc0 gb0.length (1) _ _ (by omega) (by omega) go0).mono ?_
  rintro e w20 ⟨rfl, hx⟩
  have s_w20 : w19.heap.size ≤ w20.heap.size := hx.size
  replace hE := hE.trans hx
  replace B0 := B0.ext hx
  replace B1 := B1.ext hx
  replace wo0 := wo0.ext hx
  replace xB0 := xB0.ext hx
  replace xB1 := xB1.ext hx
  replace go0 := go0.ext hx
  replace ho0 := ho0.ext hx
  clear hx
  have ⟨uB0_0, uB0_1, uB0_2, uB0_3⟩ := B0
  have ulB0 := B0.lt
  have ⟨uB1_0, uB1_1, uB1_2⟩ := B1
  have ulB1 := B1.lt
  have ⟨uxB0_0, uxB0_1, uxB0_2, uxB0_3⟩ := xB0
  have ulxB0 := xB0.lt
  have ⟨uxB1_0, uxB1_1, uxB1_2⟩ := xB1
  have ulxB1 := xB1.lt
  go_wp2
  go_ret
  exact ⟨rfl, by assumption⟩
end Go.Proofs.Ytgpobhpcbgenoaa
