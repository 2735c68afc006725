/- The walk of the law FnExactJumpCosts, told what both functions hand back. -/
import Derived.Test.YthkfbmboiabolaaHarS
import Derived.Test.YthkfbmboiabolaaCube
import Derived.Test.YthkfbmboiabolaaEdge
import Derived.Test.YthkfbmboiabolaaHarI
import Derived.Lib.Hide
namespace Go.Proofs.Ythkfbmboiabolaa
open Go.RowKit
set_option linter.unusedVariables false

set_option maxHeartbeats 4000000 in
set_option maxRecDepth 8000 in
theorem lawJumpCosts_core (W0 : World) (A0 : Option Addr) (n0 e0 : Nat) (bs0 : List Nat) (hn0 : n0 ≤ maxLen) (hr0 : Reads W0 A0 n0 bs0) (p1_0 p1_1 : Nat) (L0 : List Nat) (hL0 : L0.length ≤ 4096) (o1 : Bool)
    (hs : ∀ (w : World) (D0 : Option Addr), Reads w D0 n0 bs0 → Calls Try.prog 9 #[.slice D0 n0 n0, .agg #[.float .f32 p1_0, .float .f32 p1_1]] w fun e w' => ∃ (A0 : Option Addr) (c0 : Nat) (b0 : List Nat), e = .returned (.tuple #[.slice A0 b0.length c0, .bool o1]) ∧ OwnF w' w.heap.size 23 (.slice A0 b0.length c0) b0 ∧ b0.map nrm = L0 ∧ Ext w w')
    (hi : ∀ (w : World) (D0 : Option Addr), Reads w D0 n0 bs0 → Calls Try.prog 12 #[.slice D0 n0 n0, .agg #[.float .f32 p1_0, .float .f32 p1_1]] w fun e w' => ∃ (A0 : Option Addr) (c0 : Nat) (b0 : List Nat), e = .returned (.tuple #[.slice A0 b0.length c0, .bool o1]) ∧ OwnF w' w.heap.size 23 (.slice A0 b0.length c0) b0 ∧ b0.map nrm = L0 ∧ Ext w w') :
    Calls Try.prog 3 #[.slice A0 n0 e0, .agg #[.float .f32 p1_0, .float .f32 p1_1]] W0 fun e w' => e = .returned (.bool true) ∧ Ext W0 w' := by
  have HS := Lib.hid hs
  have HI := Lib.hid hi
  clear hs hi
  have hE := Ext.refl W0
  have ne1 : (o1 != o1) = false := by cases o1 <;> rfl
  by_cases hf0 : (1048576 : Int) < (n0 : Int)
  · go_enter Try.func3, Try.ntmps3
    go_wp2
    go_ret
    refine ⟨rfl, ?_⟩
    repeat (first | with_reducible exact Ext.refl _ | (with_reducible refine Ext.alloc ?_ _))
  go_enter Try.func3, Try.ntmps3
  have hq0 : n0 ≤ 1048576 := by omega
  have hl0 : bs0.length = n0 := hr0.1
  go_wp2_with fail
  refine wp_at (X := fun w' => Ext W0 w' ∧ Box2 w' (W0.heap.size) (.float .f32 p1_0) (.float .f32 p1_1)) ?_ ?_
  · refine ⟨?_, ?_⟩
    · repeat (first | with_reducible exact Ext.refl _ |  (with_reducible refine Ext.setCell ?_ (by simp; try omega) _) | (with_reducible refine Ext.alloc ?_ _) | (with_reducible refine Ext.drewN ?_ _))
    · refine ⟨?_, ?_⟩ <;> simp [go_sem, *]
  rintro w1 ⟨hx, B1⟩
  have s_w1 : W0.heap.size ≤ w1.heap.size := hx.size
  replace hE := hE.trans hx
  clear hx
  have lt_B1 := B1.lt
  have ⟨uB1_0, uB1_1⟩ := B1
  have ulB1 := B1.lt
  refine region_we 7 8 8 [none, some (fun u W => ∃ g, u = .slice (some ⟨g, 0, none⟩) n0 n0 ∧ Reads W (some ⟨g, 0, none⟩) n0 bs0), none, none, some (fun u W => ∃ (A0 : Option Addr) (c0 : Nat) (b0 : List Nat), u = .tuple #[.slice A0 b0.length c0, .bool o1] ∧ OwnF W w1.heap.size 23 (.slice A0 b0.length c0) b0 ∧ b0.map nrm = L0), none, none, none] (by kernel_rfl) (by kernel_rfl) (by kernel_rfl) ?_
  dsimp only [addEdge]
  simp only [List.take_succ_cons, List.take_zero, List.drop_succ_cons, List.drop_zero]
  repeat ((first | refine wx_skip rfl ?_ | refine wx_nilCheck rfl rfl _ rfl _ rfl ?_ | (refine wx_float rfl rfl _ _ _ _ _ _ _ rfl rfl rfl rfl ?_; intro r hr) | (refine wx_k rfl rfl rfl (fun K hK => ?_); go_big_quiet_op; refine hK _ ?_; clear hK K) | (refine wx_callR _ rfl rfl 10 _ _ rfl (by kernel_rfl) (fun W hW hF => ?_) ?_; (· go_simp; (with_reducible refine (toF32S_any A0 n0 e0 bs0 W hq0 (hr0.ext (hE.trans hW))).mono ?_); rintro e w' ⟨g, _, rfl, ho, hx⟩; exact ⟨_, rfl, ⟨g, rfl, ho.reads⟩, hx⟩); rintro u V0 hV0 ⟨g0, rfl, hrd0⟩) | (refine wx_call rfl rfl 11 _ _ rfl (by kernel_rfl) (by kernel_rfl) (.agg #[.float .f32 p1_0, .float .f32 p1_1]) (fun W hW hF => ?_) ?_; (· go_simp; (with_reducible refine (toPrices_any p1_0 p1_1 W).mono ?_); rintro e w' h; exact h)) | (refine wx_callR _ rfl rfl 9 _ _ rfl (by kernel_rfl) (fun W hW hF => ?_) ?_; (· go_simp; have hVW0 : Ext V0 W := hF 1 (by kernel_rfl); (with_reducible refine (HS.out W (some ⟨g0, 0, none⟩) (hrd0.ext hVW0)).mono ?_); rintro e w' ⟨A0, c0, b0, rfl, o0', m0, hx⟩; exact ⟨_, rfl, ⟨A0, c0, b0, rfl, o0'.weaken hW.size, m0⟩, hx⟩); rintro u VF hVF ⟨wA0, wc0, wb0, rfl, wo0, wm0⟩)); (try simp only [Act.put, List.setIfInBounds_toArray, List.set_cons_zero, List.set_cons_succ]); (try simp only [List.tail_cons]))
  refine wx_nil (fun W hW hF => ?_)
  have hFW : Ext VF W := hF 4
  clear uB1_0 uB1_1 ulB1 hF
  obtain ⟨w2, rfl⟩ : ∃ w', w' = W := ⟨W, rfl⟩
  have hx := hW
  clear hW
  have s_w2 : w1.heap.size ≤ w2.heap.size := hx.size
  replace hE := hE.trans hx
  replace B1 := B1.ext hx
  clear hx
  replace wo0 := wo0.ext hFW
  clear hFW
  have ⟨uB1_0, uB1_1⟩ := B1
  have ulB1 := B1.lt
  go_wp2_with fail
  refine np_at (X := fun w' => w2 = w') rfl ?_
  rintro w' rfl
  have wl0 : wb0.length ≤ 4096 := by have := congrArg List.length wm0; simp only [List.length_map] at this; omega
  have wq0 := wo0.row
  have ⟨uB1_0, uB1_1⟩ := B1
  have ulB1 := B1.lt
  go_wp2_with fail
  clear uB1_0 uB1_1 ulB1
  refine (toF32S_any  A0 n0 e0 bs0 _ hq0 (hr0.ext hE)).mono ?_
  rintro e w3 ⟨xg0, xk0, rfl, xt0, hx⟩
  have s_w3 : w2.heap.size ≤ w3.heap.size := hx.size
  replace hE := hE.trans hx
  replace B1 := B1.ext hx
  replace wo0 := wo0.ext hx
  clear hx
  have xq0 := xt0.row
  have ⟨uB1_0, uB1_1⟩ := B1
  have ulB1 := B1.lt
  go_wp2_with fail
  clear uB1_0 uB1_1 ulB1
  refine (toPrices_any p1_0 p1_1 _).mono ?_
  rintro e w4 ⟨rfl, hx⟩
  have s_w4 : w3.heap.size ≤ w4.heap.size := hx.size
  replace hE := hE.trans hx
  replace B1 := B1.ext hx
  replace wo0 := wo0.ext hx
  replace xt0 := xt0.ext hx
  clear hx
  have ⟨uB1_0, uB1_1⟩ := B1
  have ulB1 := B1.lt
  go_wp2_with fail
  clear uB1_0 uB1_1 ulB1
  refine (HI.out _ (some ⟨xg0, 0, none⟩) xt0.reads).mono ?_
  rintro e w5 ⟨gA0, gc0, gb0, rfl, go0, gm0, hx⟩
  have s_w5 : w4.heap.size ≤ w5.heap.size := hx.size
  replace hE := hE.trans hx
  replace B1 := B1.ext hx
  replace wo0 := wo0.ext hx
  replace xt0 := xt0.ext hx
  clear hx
  have gl0 : gb0.length ≤ 4096 := by have := congrArg List.length gm0; simp only [List.length_map] at this; omega
  have gq0 := go0.row
  have ⟨uB1_0, uB1_1⟩ := B1
  have ulB1 := B1.lt
  go_wp2_with fail
  clear uB1_0 uB1_1 ulB1
  refine (eqF32S_any  _ _ _ _ _ _ _ _ _ (by unfold maxLen; omega) go0.reads wo0.reads (gm0.trans wm0.symm)).mono ?_
  rintro e w6 ⟨rfl, hx⟩
  have s_w6 : w5.heap.size ≤ w6.heap.size := hx.size
  replace hE := hE.trans hx
  replace B1 := B1.ext hx
  replace wo0 := wo0.ext hx
  replace xt0 := xt0.ext hx
  replace go0 := go0.ext hx
  clear hx
  have ⟨uB1_0, uB1_1⟩ := B1
  have ulB1 := B1.lt
  go_wp2_with fail
  clear uB1_0 uB1_1 ulB1
  refine (toF32S_any A0 n0 e0 bs0 _ hq0 (hr0.ext hE)).mono ?_
  rintro e w7 ⟨tg0, tk0, rfl, tt0, hx⟩
  have s_w7 : w6.heap.size ≤ w7.heap.size := hx.size
  replace hE := hE.trans hx
  replace B1 := B1.ext hx
  replace wo0 := wo0.ext hx
  replace xt0 := xt0.ext hx
  replace go0 := go0.ext hx
  clear hx
  have ⟨uB1_0, uB1_1⟩ := B1
  have ulB1 := B1.lt
  go_wp2_with fail
  clear uB1_0 uB1_1 ulB1
  refine (eqF32S_any _ _ _ _ _ _ bs0 bs0 _ hn0 xt0.reads tt0.reads rfl).mono ?_
  rintro e w8 ⟨rfl, hx⟩
  clear tt0 tk0
  have s_w8 : w7.heap.size ≤ w8.heap.size := hx.size
  replace hE := hE.trans hx
  replace B1 := B1.ext hx
  replace wo0 := wo0.ext hx
  replace xt0 := xt0.ext hx
  replace go0 := go0.ext hx
  clear hx
  have ⟨uB1_0, uB1_1⟩ := B1
  have ulB1 := B1.lt
  go_wp2_with fail
  clear uB1_0 uB1_1 ulB1
  refine (markF32S_i  (some ⟨xg0, 0, none⟩) n0 n0 bs0 (1) _ _ (by omega) (by omega) xt0).mono ?_
  rintro e w9 ⟨rfl, hm, hgr⟩
  clear hm
  have s_w9 : w8.heap.size ≤ w9.heap.size := hgr.size
  replace hE := Ext.grown hE hgr (fun g hg => by have := xq0 g hg; omega)
  replace B1 := B1.grown hgr (row_box xq0 _ (by omega))
  replace wo0 := wo0.grown hgr (rows_apart wq0 xq0 (by omega))
  replace go0 := go0.grown hgr (rows_apart gq0 xq0 (by omega))
  clear hgr
  clear xt0
  have nk : ¬ 1 + (bs0.length : Int) < 0 := by omega
  have ⟨uB1_0, uB1_1⟩ := B1
  have ulB1 := B1.lt
  go_wp2_with fail
  clear uB1_0 uB1_1 ulB1
  refine (eqF32S_any  _ _ _ _ _ _ _ _ _ (by unfold maxLen; omega) go0.reads wo0.reads (gm0.trans wm0.symm)).mono ?_
  rintro e w10 ⟨rfl, hx⟩
  have s_w10 : w9.heap.size ≤ w10.heap.size := hx.size
  replace hE := hE.trans hx
  replace B1 := B1.ext hx
  replace wo0 := wo0.ext hx
  replace go0 := go0.ext hx
  clear hx
  have ⟨uB1_0, uB1_1⟩ := B1
  have ulB1 := B1.lt
  go_wp2_with fail
  clear uB1_0 uB1_1 ulB1
  refine (markF32S_i  gA0 gb0.length gc0 gb0 (1) _ _ (by omega) (by omega) go0).mono ?_
  rintro e w11 ⟨rfl, hm, hgr⟩
  have s_w11 : w10.heap.size ≤ w11.heap.size := hgr.size
  replace hE := Ext.grown hE hgr (fun g hg => by have := gq0 g hg; omega)
  replace B1 := B1.grown hgr (row_box gq0 _ (by omega))
  replace wo0 := wo0.grown hgr (rows_apart wq0 gq0 (by omega))
  clear hgr
  clear go0
  have go0 := hm
  clear hm
  have ⟨uB1_0, uB1_1⟩ := B1
  have ulB1 := B1.lt
  go_wp2_with fail
  clear uB1_0 uB1_1 ulB1
  refine (heldF32S_i  gA0 gb0.length gc0 gb0.length (1) _ _ (by omega) (by omega) go0).mono ?_
  rintro e w12 ⟨rfl, hx⟩
  have s_w12 : w11.heap.size ≤ w12.heap.size := hx.size
  replace hE := hE.trans hx
  replace B1 := B1.ext hx
  replace wo0 := wo0.ext hx
  replace go0 := go0.ext hx
  clear hx
  have nm : ¬ 1 + (gb0.length : Int) < 0 := by omega
  have nn : (1 + (gb0.length : Int) != 1 + (gb0.length : Int)) = false := by simp
  have ⟨uB1_0, uB1_1⟩ := B1
  have ulB1 := B1.lt
  go_wp2_with fail
  refine region_we 7 8 8 [none, some (fun u W => ∃ g, u = .slice (some ⟨g, 0, none⟩) n0 n0 ∧ Reads W (some ⟨g, 0, none⟩) n0 bs0), none, none, some (fun u W => ∃ (A0 : Option Addr) (c0 : Nat) (b0 : List Nat), u = .tuple #[.slice A0 b0.length c0, .bool o1] ∧ OwnF W w12.heap.size 23 (.slice A0 b0.length c0) b0 ∧ b0.map nrm = L0), none, none, none] (by kernel_rfl) (by kernel_rfl) (by kernel_rfl) ?_
  dsimp only [addEdge]
  simp only [List.take_succ_cons, List.take_zero, List.drop_succ_cons, List.drop_zero]
  repeat ((first | refine wx_skip rfl ?_ | refine wx_nilCheck rfl rfl _ rfl _ rfl ?_ | (refine wx_float rfl rfl _ _ _ _ _ _ _ rfl rfl rfl rfl ?_; intro r hr) | (refine wx_k rfl rfl rfl (fun K hK => ?_); go_big_quiet_op; refine hK _ ?_; clear hK K) | (refine wx_callR _ rfl rfl 10 _ _ rfl (by kernel_rfl) (fun W hW hF => ?_) ?_; (· go_simp; (with_reducible refine (toF32S_any A0 n0 e0 bs0 W hq0 (hr0.ext (hE.trans hW))).mono ?_); rintro e w' ⟨g, _, rfl, ho, hx⟩; exact ⟨_, rfl, ⟨g, rfl, ho.reads⟩, hx⟩); rintro u V0 hV0 ⟨g0, rfl, hrd0⟩) | (refine wx_call rfl rfl 11 _ _ rfl (by kernel_rfl) (by kernel_rfl) (.agg #[.float .f32 p1_0, .float .f32 p1_1]) (fun W hW hF => ?_) ?_; (· go_simp; (with_reducible refine (toPrices_any p1_0 p1_1 W).mono ?_); rintro e w' h; exact h)) | (refine wx_callR _ rfl rfl 12 _ _ rfl (by kernel_rfl) (fun W hW hF => ?_) ?_; (· go_simp; have hVW0 : Ext V0 W := hF 1 (by kernel_rfl); (with_reducible refine (HI.out W (some ⟨g0, 0, none⟩) (hrd0.ext hVW0)).mono ?_); rintro e w' ⟨A0, c0, b0, rfl, o0', m0, hx⟩; exact ⟨_, rfl, ⟨A0, c0, b0, rfl, o0'.weaken hW.size, m0⟩, hx⟩); rintro u VF hVF ⟨hA0, hc0, hb0, rfl, ho0, hm0⟩)); (try simp only [Act.put, List.setIfInBounds_toArray, List.set_cons_zero, List.set_cons_succ]); (try simp only [List.tail_cons]))
  refine wx_nil (fun W hW hF => ?_)
  have hFW : Ext VF W := hF 4
  clear uB1_0 uB1_1 ulB1 hF
  obtain ⟨w13, rfl⟩ : ∃ w', w' = W := ⟨W, rfl⟩
  have hx := hW
  clear hW
  have s_w13 : w12.heap.size ≤ w13.heap.size := hx.size
  replace hE := hE.trans hx
  replace B1 := B1.ext hx
  replace wo0 := wo0.ext hx
  replace go0 := go0.ext hx
  clear hx
  replace ho0 := ho0.ext hFW
  clear hFW
  have ⟨uB1_0, uB1_1⟩ := B1
  have ulB1 := B1.lt
  go_wp2_with fail
  refine np_at (X := fun w' => w13 = w') rfl ?_
  rintro w' rfl
  have hl0 : hb0.length ≤ 4096 := by have := congrArg List.length hm0; simp only [List.length_map] at this; omega
  have hq0 := ho0.row
  have ⟨uB1_0, uB1_1⟩ := B1
  have ulB1 := B1.lt
  go_wp2_with fail
  clear uB1_0 uB1_1 ulB1
  refine (eqF32S_any  _ _ _ _ _ _ _ _ _ (by unfold maxLen; omega) ho0.reads wo0.reads (hm0.trans wm0.symm)).mono ?_
  rintro e w14 ⟨rfl, hx⟩
  have s_w14 : w13.heap.size ≤ w14.heap.size := hx.size
  replace hE := hE.trans hx
  replace B1 := B1.ext hx
  replace wo0 := wo0.ext hx
  replace go0 := go0.ext hx
  replace ho0 := ho0.ext hx
  clear hx
  have ⟨uB1_0, uB1_1⟩ := B1
  have ulB1 := B1.lt
  go_wp2_with fail
  clear uB1_0 uB1_1 ulB1
  refine (heldF32S_i  gA0 gb0.length gc0 gb0.length (1) _ _ (by omega) (by omega) go0).mono ?_
  rintro e w15 ⟨rfl, hx⟩
  have s_w15 : w14.heap.size ≤ w15.heap.size := hx.size
  replace hE := hE.trans hx
  replace B1 := B1.ext hx
  replace wo0 := wo0.ext hx
  replace go0 := go0.ext hx
  replace ho0 := ho0.ext hx
  clear hx
  have ⟨uB1_0, uB1_1⟩ := B1
  have ulB1 := B1.lt
  go_wp2
  go_ret
  exact ⟨rfl, by assumption⟩
end Go.Proofs.Ythkfbmboiabolaa
