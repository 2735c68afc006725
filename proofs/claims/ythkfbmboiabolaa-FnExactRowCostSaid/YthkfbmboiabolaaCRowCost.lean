/- The walk of the law FnExactRowCost, told what both functions hand back. -/
import Derived.Test.YthkfbmboiabolaaHarS
import Derived.Test.YthkfbmboiabolaaCube
import Derived.Test.YthkfbmboiabolaaEdge
import Derived.Test.YthkfbmboiabolaaHarI
import Derived.Lib.Hide
namespace Go.Proofs.Ythkfbmboiabolaa
open Go.RowKit
set_option linter.unusedVariables false

set_option maxHeartbeats 4000000 in
set_option maxRecDepth 8000 in
theorem lawRowCost_core (W0 : World) (z0_0 z0_1 z0_2 : Int) (A0 : Option Addr) (n0 e0 : Nat) (bs0 : List Nat) (hn0 : n0 ≤ maxLen) (hr0 : Reads W0 A0 n0 bs0) (p1_0 p1_1 : Nat) (a2 : Int) (A3 : Option Addr) (n3 e3 : Nat) (bs3 : List Int) (hn3 : n3 ≤ maxLen) (hr3 : ReadsI W0 A3 n3 bs3) (X0 : Nat) (o1 : Bool)
    (hs : ∀ (w : World) (D0 : Option Addr) (D3 : Option Addr), Reads w D0 n0 bs0 → ReadsI w D3 n3 bs3 → Calls Try.prog 17 #[.agg #[.int .i64 z0_0, .int .i64 z0_1, .int .i64 z0_2, .slice D0 n0 n0], .agg #[.float .f32 p1_0, .float .f32 p1_1], .int .i64 a2, .slice D3 n3 n3] w fun e w' => ∃ (r0 : Nat), e = .returned (.tuple #[.float .f32 r0, .bool o1]) ∧ Is r0 X0 ∧ Ext w w')
    (hi : ∀ (w : World) (D0 : Option Addr) (D3 : Option Addr), Reads w D0 n0 bs0 → ReadsI w D3 n3 bs3 → Calls Try.prog 20 #[.agg #[.int .i64 z0_0, .int .i64 z0_1, .int .i64 z0_2, .slice D0 n0 n0], .agg #[.float .f32 p1_0, .float .f32 p1_1], .int .i64 a2, .slice D3 n3 n3] w fun e w' => ∃ (r0 : Nat), e = .returned (.tuple #[.float .f32 r0, .bool o1]) ∧ Is r0 X0 ∧ Ext w w') :
    Calls Try.prog 4 #[.agg #[.int .i64 z0_0, .int .i64 z0_1, .int .i64 z0_2, .slice A0 n0 e0], .agg #[.float .f32 p1_0, .float .f32 p1_1], .int .i64 a2, .slice A3 n3 e3] W0 fun e w' => e = .returned (.bool true) ∧ Ext W0 w' := by
  have HS := Lib.hid hs
  have HI := Lib.hid hi
  clear hs hi
  have hE := Ext.refl W0
  have ne1 : (o1 != o1) = false := by cases o1 <;> rfl
  by_cases hf3 : (1048576 : Int) < (n3 : Int)
  · go_enter Try.func4, Try.ntmps4
    go_wp2
    go_ret
    refine ⟨rfl, ?_⟩
    repeat (first | with_reducible exact Ext.refl _ | (with_reducible refine Ext.alloc ?_ _))
  go_enter Try.func4, Try.ntmps4
  go_wp2_with fail
  refine calls_at (X := fun w' => Ext W0 w' ∧ Box4 w' (W0.heap.size) (.int .i64 z0_0) (.int .i64 z0_1) (.int .i64 z0_2) (.slice A0 n0 e0) ∧ Box2 w' (W0.heap.size + 1) (.float .f32 p1_0) (.float .f32 p1_1)) ?_ ?_
  · refine ⟨?_, ?_, ?_⟩
    · repeat (first | with_reducible exact Ext.refl _ |  (with_reducible refine Ext.setCell ?_ (by simp; try omega) _) | (with_reducible refine Ext.alloc ?_ _) | (with_reducible refine Ext.drewN ?_ _))
    · refine ⟨?_, ?_, ?_, ?_⟩ <;> simp [go_sem, *]
    · refine ⟨?_, ?_⟩ <;> simp [go_sem, *]
  rintro w1 ⟨hx, B0, B1⟩
  have s_w1 : W0.heap.size ≤ w1.heap.size := hx.size
  replace hE := hE.trans hx
  clear hx
  have lt_B0 := B0.lt
  have lt_B1 := B1.lt
  by_cases hf0 : (n0 : Int) ≤ 1048576
  rotate_left
  · refine (szVolume_over z0_0 z0_1 z0_2 A0 n0 e0 (1048576) _ hn0 (by omega) (by omega) (by omega)).mono ?_
    rintro e wz ⟨rfl, hx⟩
    go_wp2
    go_ret
    exact ⟨rfl, hE.trans hx⟩
  refine (szVolume_fits z0_0 z0_1 z0_2 A0 n0 e0 (1048576) _ hn0 (by omega) (by omega) hf0).mono ?_
  rintro e w2 ⟨rfl, hx⟩
  have s_w2 : w1.heap.size ≤ w2.heap.size := hx.size
  replace hE := hE.trans hx
  replace B0 := B0.ext hx
  replace B1 := B1.ext hx
  clear hx
  have nl0 : ¬ 1048576 - (n0 : Int) < 0 := by omega
  have hq0 : n0 ≤ 1048576 := by omega
  have hl0 : bs0.length = n0 := hr0.1
  have hq3 : n3 ≤ 1048576 := by omega
  have hl3 : bs3.length = n3 := hr3.1
  have ⟨uB0_0, uB0_1, uB0_2, uB0_3⟩ := B0
  have ulB0 := B0.lt
  have ⟨uB1_0, uB1_1⟩ := B1
  have ulB1 := B1.lt
  go_wp2_with fail
  refine region_we 10 11 11 [none, some (fun u W => ∃ g, u = .agg #[.int .i64 z0_0, .int .i64 z0_1, .int .i64 z0_2, .slice (some ⟨g, 0, none⟩) n0 n0] ∧ Reads W (some ⟨g, 0, none⟩) n0 bs0), none, none, none, none, some (fun u W => ∃ g, u = .slice (some ⟨g, 0, none⟩) n3 n3 ∧ ReadsI W (some ⟨g, 0, none⟩) n3 bs3), some (fun u W => ∃ (r0 : Nat), u = .tuple #[.float .f32 r0, .bool o1] ∧ Is r0 X0), none, none, none] (by kernel_rfl) (by kernel_rfl) (by kernel_rfl) ?_
  dsimp only [addEdge]
  simp only [List.take_succ_cons, List.take_zero, List.drop_succ_cons, List.drop_zero]
  repeat ((first | refine wx_skip rfl ?_ | refine wx_nilCheck rfl rfl _ rfl _ rfl ?_ | (refine wx_float rfl rfl _ _ _ _ _ _ _ rfl rfl rfl rfl ?_; intro r hr) | (refine wx_k rfl rfl rfl (fun K hK => ?_); go_big_quiet_op; refine hK _ ?_; clear hK K) | (refine wx_callR _ rfl rfl 18 _ _ rfl (by kernel_rfl) (fun W hW hF => ?_) ?_; (· go_simp; (with_reducible refine (toVolume_any z0_0 z0_1 z0_2 A0 n0 e0 bs0 W hq0 (hr0.ext (hE.trans hW))).mono ?_); rintro e w' ⟨g, _, rfl, ho, hx⟩; exact ⟨_, rfl, ⟨g, rfl, ho.reads⟩, hx⟩); rintro u V0 hV0 ⟨g0, rfl, hrd0⟩) | (refine wx_call rfl rfl 11 _ _ rfl (by kernel_rfl) (by kernel_rfl) (.agg #[.float .f32 p1_0, .float .f32 p1_1]) (fun W hW hF => ?_) ?_; (· go_simp; (with_reducible refine (toPrices_any p1_0 p1_1 W).mono ?_); rintro e w' h; exact h)) | (refine wx_callR _ rfl rfl 19 _ _ rfl (by kernel_rfl) (fun W hW hF => ?_) ?_; (· go_simp; (with_reducible refine (toI64S_any A3 n3 e3 bs3 W hq3 (hr3.ext (hE.trans hW))).mono ?_); rintro e w' ⟨g, _, rfl, ho, hx⟩; exact ⟨_, rfl, ⟨g, rfl, ho.reads⟩, hx⟩); rintro u V3 hV3 ⟨g3, rfl, hrd3⟩) | (refine wx_callR _ rfl rfl 17 _ _ rfl (by kernel_rfl) (fun W hW hF => ?_) ?_; (· go_simp; have hVW0 : Ext V0 W := hF 1 (by kernel_rfl); have hVW3 : Ext V3 W := hF 6 (by kernel_rfl); (with_reducible refine (HS.out W (some ⟨g0, 0, none⟩) (some ⟨g3, 0, none⟩) (hrd0.ext hVW0) (hrd3.ext hVW3)).mono ?_); rintro e w' ⟨r0, rfl, h0, hx⟩; exact ⟨_, rfl, ⟨r0, rfl, h0⟩, hx⟩); rintro u VF hVF ⟨wr0, rfl, wh0⟩)); (try simp only [Act.put, List.setIfInBounds_toArray, List.set_cons_zero, List.set_cons_succ]); (try simp only [List.tail_cons]))
  refine wx_nil (fun W hW hF => ?_)
  have hFW : Ext VF W := hF 7
  clear uB0_0 uB0_1 uB0_2 uB0_3 ulB0 uB1_0 uB1_1 ulB1 hF
  obtain ⟨w3, rfl⟩ : ∃ w', w' = W := ⟨W, rfl⟩
  have hx := hW
  clear hW
  have s_w3 : w2.heap.size ≤ w3.heap.size := hx.size
  replace hE := hE.trans hx
  replace B0 := B0.ext hx
  replace B1 := B1.ext hx
  clear hx
  clear hFW
  have ⟨uB0_0, uB0_1, uB0_2, uB0_3⟩ := B0
  have ulB0 := B0.lt
  have ⟨uB1_0, uB1_1⟩ := B1
  have ulB1 := B1.lt
  go_wp2_with fail
  refine np_at (X := fun w' => w3 = w') rfl ?_
  rintro w' rfl
  have ⟨uB0_0, uB0_1, uB0_2, uB0_3⟩ := B0
  have ulB0 := B0.lt
  have ⟨uB1_0, uB1_1⟩ := B1
  have ulB1 := B1.lt
  go_wp2_with fail
  clear uB0_0 uB0_1 uB0_2 uB0_3 ulB0 uB1_0 uB1_1 ulB1
  refine (toVolume_any z0_0 z0_1 z0_2 A0 n0 e0 bs0 _ hq0 (hr0.ext hE)).mono ?_
  rintro e w4 ⟨xg0, xk0, rfl, xt0, hx⟩
  have s_w4 : w3.heap.size ≤ w4.heap.size := hx.size
  replace hE := hE.trans hx
  replace B0 := B0.ext hx
  replace B1 := B1.ext hx
  clear hx
  have xq0 := xt0.row
  have ⟨uB0_0, uB0_1, uB0_2, uB0_3⟩ := B0
  have ulB0 := B0.lt
  have ⟨uB1_0, uB1_1⟩ := B1
  have ulB1 := B1.lt
  go_wp2_with fail
  clear uB0_0 uB0_1 uB0_2 uB0_3 ulB0 uB1_0 uB1_1 ulB1
  refine calls_at (X := fun w' => Ext w4 w' ∧ Box4 w' (w4.heap.size) (.int .i64 z0_0) (.int .i64 z0_1) (.int .i64 z0_2) (.slice (some ⟨xg0, 0, none⟩) n0 n0)) ?_ ?_
  · refine ⟨?_, ?_⟩
    · repeat (first | with_reducible exact Ext.refl _ |  (with_reducible refine Ext.setCell ?_ (by simp; try omega) _) | (with_reducible refine Ext.alloc ?_ _) | (with_reducible refine Ext.drewN ?_ _))
    · refine ⟨?_, ?_, ?_, ?_⟩ <;> simp [go_sem, *]
  rintro w5 ⟨hx, xB0⟩
  have s_w5 : w4.heap.size ≤ w5.heap.size := hx.size
  replace hE := hE.trans hx
  replace B0 := B0.ext hx
  replace B1 := B1.ext hx
  replace xt0 := xt0.ext hx
  clear hx
  have lt_xB0 := xB0.lt
  refine (toI64S_any  A3 n3 e3 bs3 _ hq3 (hr3.ext hE)).mono ?_
  rintro e w6 ⟨xg3, xk3, rfl, xt3, hx⟩
  have s_w6 : w5.heap.size ≤ w6.heap.size := hx.size
  replace hE := hE.trans hx
  replace B0 := B0.ext hx
  replace B1 := B1.ext hx
  replace xt0 := xt0.ext hx
  replace xB0 := xB0.ext hx
  clear hx
  have xq3 := xt3.row
  have ⟨uB0_0, uB0_1, uB0_2, uB0_3⟩ := B0
  have ulB0 := B0.lt
  have ⟨uB1_0, uB1_1⟩ := B1
  have ulB1 := B1.lt
  have ⟨uxB0_0, uxB0_1, uxB0_2, uxB0_3⟩ := xB0
  have ulxB0 := xB0.lt
  go_wp2_with fail
  refine region_we 8 9 9 [none, none, none, none, none, some (fun u W => ∃ (r0 : Nat), u = .tuple #[.float .f32 r0, .bool o1] ∧ Is r0 X0), none, none, none] (by kernel_rfl) (by kernel_rfl) (by kernel_rfl) ?_
  dsimp only [addEdge]
  simp only [List.take_succ_cons, List.take_zero, List.drop_succ_cons, List.drop_zero]
  repeat ((first | refine wx_skip rfl ?_ | refine wx_nilCheck rfl rfl _ rfl _ rfl ?_ | (refine wx_float rfl rfl _ _ _ _ _ _ _ rfl rfl rfl rfl ?_; intro r hr) | (refine wx_k rfl rfl rfl (fun K hK => ?_); go_big_quiet_op; refine hK _ ?_; clear hK K) | (refine wx_call rfl rfl 11 _ _ rfl (by kernel_rfl) (by kernel_rfl) (.agg #[.float .f32 p1_0, .float .f32 p1_1]) (fun W hW hF => ?_) ?_; (· go_simp; (with_reducible refine (toPrices_any p1_0 p1_1 W).mono ?_); rintro e w' h; exact h)) | (refine wx_callR _ rfl rfl 20 _ _ rfl (by kernel_rfl) (fun W hW hF => ?_) ?_; (· go_simp; (with_reducible refine (HI.out W (some ⟨xg0, 0, none⟩) (some ⟨xg3, 0, none⟩) (xt0.ext hW).reads (xt3.ext hW).reads).mono ?_); rintro e w' ⟨r0, rfl, h0, hx⟩; exact ⟨_, rfl, ⟨r0, rfl, h0⟩, hx⟩); rintro u VF hVF ⟨gr0, rfl, gh0⟩)); (try simp only [Act.put, List.setIfInBounds_toArray, List.set_cons_zero, List.set_cons_succ]); (try simp only [List.tail_cons]))
  refine wx_nil (fun W hW hF => ?_)
  have hFW : Ext VF W := hF 5
  clear uB0_0 uB0_1 uB0_2 uB0_3 ulB0 uB1_0 uB1_1 ulB1 uxB0_0 uxB0_1 uxB0_2 uxB0_3 ulxB0 hF
  obtain ⟨w7, rfl⟩ : ∃ w', w' = W := ⟨W, rfl⟩
  have hx := hW
  clear hW
  have s_w7 : w6.heap.size ≤ w7.heap.size := hx.size
  replace hE := hE.trans hx
  replace B0 := B0.ext hx
  replace B1 := B1.ext hx
  replace xt0 := xt0.ext hx
  replace xB0 := xB0.ext hx
  replace xt3 := xt3.ext hx
  clear hx
  clear hFW
  have ⟨uB0_0, uB0_1, uB0_2, uB0_3⟩ := B0
  have ulB0 := B0.lt
  have ⟨uB1_0, uB1_1⟩ := B1
  have ulB1 := B1.lt
  have ⟨uxB0_0, uxB0_1, uxB0_2, uxB0_3⟩ := xB0
  have ulxB0 := xB0.lt
  go_wp2_with fail
  refine np_at (X := fun w' => w7 = w') rfl ?_
  rintro w' rfl
  have ⟨uB0_0, uB0_1, uB0_2, uB0_3⟩ := B0
  have ulB0 := B0.lt
  have ⟨uB1_0, uB1_1⟩ := B1
  have ulB1 := B1.lt
  have ⟨uxB0_0, uxB0_1, uxB0_2, uxB0_3⟩ := xB0
  have ulxB0 := xB0.lt
  go_wp2_with fail
  clear uB0_0 uB0_1 uB0_2 uB0_3 ulB0 uB1_0 uB1_1 ulB1 uxB0_0 uxB0_1 uxB0_2 uxB0_3 ulxB0
  refine calls_at (X := fun w' => Ext w7 w') (by repeat (first | with_reducible exact Ext.refl _ |  (with_reducible refine Ext.setCell ?_ (by simp; try omega) _) | (with_reducible refine Ext.alloc ?_ _) | (with_reducible refine Ext.drewN ?_ _))) ?_
  rintro w8 hx
  have s_w8 : w7.heap.size ≤ w8.heap.size := hx.size
  replace hE := hE.trans hx
  replace B0 := B0.ext hx
  replace B1 := B1.ext hx
  replace xt0 := xt0.ext hx
  replace xB0 := xB0.ext hx
  replace xt3 := xt3.ext hx
  clear hx
  refine (sameFloat_any _ _ _ (cv_same _ _ _ _ (gh0.2.trans wh0.2.symm))).mono ?_
  rintro e w9 ⟨rfl, hww⟩
  have hx : Ext w8 w9 := by rw [hww]; exact Ext.refl _
  clear hww
  have s_w9 : w8.heap.size ≤ w9.heap.size := hx.size
  replace hE := hE.trans hx
  replace B0 := B0.ext hx
  replace B1 := B1.ext hx
  replace xt0 := xt0.ext hx
  replace xB0 := xB0.ext hx
  replace xt3 := xt3.ext hx
  clear hx
  have ⟨uB0_0, uB0_1, uB0_2, uB0_3⟩ := B0
  have ulB0 := B0.lt
  have ⟨uB1_0, uB1_1⟩ := B1
  have ulB1 := B1.lt
  have ⟨uxB0_0, uxB0_1, uxB0_2, uxB0_3⟩ := xB0
  have ulxB0 := xB0.lt
  go_wp2_with fail
  refine region_wx0 [none, none, some (fun u W => ∃ g, u = .agg #[.int .i64 z0_0, .int .i64 z0_1, .int .i64 z0_2, .slice (some ⟨g, 0, none⟩) n0 n0] ∧ Reads W (some ⟨g, 0, none⟩) n0 bs0)] (by kernel_rfl) (by kernel_rfl) ?_
  repeat ((first | refine wx_skip rfl ?_ | refine wx_nilCheck rfl rfl _ rfl _ rfl ?_ | (refine wx_float rfl rfl _ _ _ _ _ _ _ rfl rfl rfl rfl ?_; intro r hr) | (refine wx_k rfl rfl rfl (fun K hK => ?_); go_big_quiet_op; refine hK _ ?_; clear hK K) | (refine wx_callR _ rfl rfl 18 _ _ rfl (by kernel_rfl) (fun W hW hF => ?_) ?_; (· go_simp; (with_reducible refine (toVolume_any z0_0 z0_1 z0_2 A0 n0 e0 bs0 W hq0 (hr0.ext (hE.trans hW))).mono ?_); rintro e w' ⟨g, _, rfl, ho, hx⟩; exact ⟨_, rfl, ⟨g, rfl, ho.reads⟩, hx⟩); rintro u V hV ⟨g, rfl, hrd⟩) | (refine wx_call rfl rfl 22 _ _ rfl (by kernel_rfl) (by kernel_rfl) (.bool true) (fun W hW hF => ?_) ?_; (· go_simp; have hVW : Ext V W := hF 2 (by kernel_rfl); (with_reducible refine (eqVolume_any z0_0 z0_1 z0_2 _ _ _ _ _ _ bs0 bs0 W hn0 (xt0.ext hW).reads (hrd.ext hVW) rfl).mono ?_); rintro e w' h; exact h))); (try simp only [Act.put, List.setIfInBounds_toArray, List.set_cons_zero, List.set_cons_succ]); (try simp only [List.tail_cons]))
  refine wx_nil (fun W hW hF => ?_)
  clear uB0_0 uB0_1 uB0_2 uB0_3 ulB0 uB1_0 uB1_1 ulB1 uxB0_0 uxB0_1 uxB0_2 uxB0_3 ulxB0 hF
  obtain ⟨w10, rfl⟩ : ∃ w', w' = W := ⟨W, rfl⟩
  have hx := hW
  clear hW
  have s_w10 : w9.heap.size ≤ w10.heap.size := hx.size
  replace hE := hE.trans hx
  replace B0 := B0.ext hx
  replace B1 := B1.ext hx
  replace xt0 := xt0.ext hx
  replace xB0 := xB0.ext hx
  replace xt3 := xt3.ext hx
  clear hx
  have ⟨uB0_0, uB0_1, uB0_2, uB0_3⟩ := B0
  have ulB0 := B0.lt
  have ⟨uB1_0, uB1_1⟩ := B1
  have ulB1 := B1.lt
  have ⟨uxB0_0, uxB0_1, uxB0_2, uxB0_3⟩ := xB0
  have ulxB0 := xB0.lt
  go_wp2_with fail
  clear uB0_0 uB0_1 uB0_2 uB0_3 ulB0 uB1_0 uB1_1 ulB1 uxB0_0 uxB0_1 uxB0_2 uxB0_3 ulxB0
  refine (toI64S_any A3 n3 e3 bs3 _ hq3 (hr3.ext hE)).mono ?_
  rintro e w11 ⟨tg3, tk3, rfl, tt3, hx⟩
  have s_w11 : w10.heap.size ≤ w11.heap.size := hx.size
  replace hE := hE.trans hx
  replace B0 := B0.ext hx
  replace B1 := B1.ext hx
  replace xt0 := xt0.ext hx
  replace xB0 := xB0.ext hx
  replace xt3 := xt3.ext hx
  clear hx
  have ⟨uB0_0, uB0_1, uB0_2, uB0_3⟩ := B0
  have ulB0 := B0.lt
  have ⟨uB1_0, uB1_1⟩ := B1
  have ulB1 := B1.lt
  have ⟨uxB0_0, uxB0_1, uxB0_2, uxB0_3⟩ := xB0
  have ulxB0 := xB0.lt
  go_wp2_with fail
  clear uB0_0 uB0_1 uB0_2 uB0_3 ulB0 uB1_0 uB1_1 ulB1 uxB0_0 uxB0_1 uxB0_2 uxB0_3 ulxB0
  refine (eqI64S_any _ _ _ _ _ _ bs3 bs3 _ hn3 xt3.reads tt3.reads rfl).mono ?_
  rintro e w12 ⟨rfl, hx⟩
  clear tt3 tk3
  have s_w12 : w11.heap.size ≤ w12.heap.size := hx.size
  replace hE := hE.trans hx
  replace B0 := B0.ext hx
  replace B1 := B1.ext hx
  replace xt0 := xt0.ext hx
  replace xB0 := xB0.ext hx
  replace xt3 := xt3.ext hx
  clear hx
  have ⟨uB0_0, uB0_1, uB0_2, uB0_3⟩ := B0
  have ulB0 := B0.lt
  have ⟨uB1_0, uB1_1⟩ := B1
  have ulB1 := B1.lt
  have ⟨uxB0_0, uxB0_1, uxB0_2, uxB0_3⟩ := xB0
  have ulxB0 := xB0.lt
  go_wp2
  go_ret
  exact ⟨rfl, by assumption⟩
end Go.Proofs.Ythkfbmboiabolaa
