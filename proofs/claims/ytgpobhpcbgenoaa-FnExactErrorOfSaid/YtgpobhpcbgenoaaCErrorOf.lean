/- The walk of the law FnExactErrorOf, told what both functions hand back. -/
import Derived.Test.YtgpobhpcbgenoaaHarS
import Derived.Test.YtgpobhpcbgenoaaCube
import Derived.Test.YtgpobhpcbgenoaaEdge
import Derived.Test.YtgpobhpcbgenoaaHarI
import Derived.Lib.Hide
namespace Go.Proofs.Ytgpobhpcbgenoaa
open Go.RowKit
set_option linter.unusedVariables false

set_option maxHeartbeats 4000000 in
set_option maxRecDepth 8000 in
theorem lawErrorOf_core (W0 : World) (z0_0 z0_1 : Int) (A0 : Option Addr) (n0 e0 : Nat) (bs0 : List Nat) (hn0 : n0 ≤ maxLen) (hr0 : Reads W0 A0 n0 bs0) (z1_0 z1_1 : Int) (A1 : Option Addr) (n1 e1 : Nat) (bs1 : List Nat) (hn1 : n1 ≤ maxLen) (hr1 : Reads W0 A1 n1 bs1) (z2_0 z2_1 : Int) (A2 : Option Addr) (n2 e2 : Nat) (bs2 : List Nat) (hn2 : n2 ≤ maxLen) (hr2 : Reads W0 A2 n2 bs2) (X0 : Nat) (o1 : Bool)
    (hs : ∀ (w : World) (D0 : Option Addr) (D1 : Option Addr) (D2 : Option Addr), Reads w D0 n0 bs0 → Reads w D1 n1 bs1 → Reads w D2 n2 bs2 → Calls Try.prog 34 #[.agg #[.int .i64 z0_0, .int .i64 z0_1, .slice D0 n0 n0], .agg #[.int .i64 z1_0, .int .i64 z1_1, .slice D1 n1 n1], .agg #[.int .i64 z2_0, .int .i64 z2_1, .slice D2 n2 n2]] w fun e w' => ∃ (r0 : Nat), e = .returned (.tuple #[.float .f32 r0, .bool o1]) ∧ Is r0 X0 ∧ Ext w w')
    (hi : ∀ (w : World) (D0 : Option Addr) (D1 : Option Addr) (D2 : Option Addr), Reads w D0 n0 bs0 → Reads w D1 n1 bs1 → Reads w D2 n2 bs2 → Calls Try.prog 35 #[.agg #[.int .i64 z0_0, .int .i64 z0_1, .slice D0 n0 n0], .agg #[.int .i64 z1_0, .int .i64 z1_1, .slice D1 n1 n1], .agg #[.int .i64 z2_0, .int .i64 z2_1, .slice D2 n2 n2]] w fun e w' => ∃ (r0 : Nat), e = .returned (.tuple #[.float .f32 r0, .bool o1]) ∧ Is r0 X0 ∧ Ext w w') :
    Calls Try.prog 6 #[.agg #[.int .i64 z0_0, .int .i64 z0_1, .slice A0 n0 e0], .agg #[.int .i64 z1_0, .int .i64 z1_1, .slice A1 n1 e1], .agg #[.int .i64 z2_0, .int .i64 z2_1, .slice A2 n2 e2]] W0 fun e w' => e = .returned (.bool true) ∧ Ext W0 w' := by
  have HS := Lib.hid hs
  have HI := Lib.hid hi
  clear hs hi
  have hE := Ext.refl W0
  have ne1 : (o1 != o1) = false := by cases o1 <;> rfl
  go_enter Try.func6, Try.ntmps6
  go_wp2_with fail
  refine calls_at (X := fun w' => Ext W0 w' ∧ Box3 w' (W0.heap.size) (.int .i64 z0_0) (.int .i64 z0_1) (.slice A0 n0 e0) ∧ Box3 w' (W0.heap.size + 1) (.int .i64 z1_0) (.int .i64 z1_1) (.slice A1 n1 e1) ∧ Box3 w' (W0.heap.size + 1 + 1) (.int .i64 z2_0) (.int .i64 z2_1) (.slice A2 n2 e2)) ?_ ?_
  · refine ⟨?_, ?_, ?_, ?_⟩
    · repeat (first | with_reducible exact Ext.refl _ |  (with_reducible refine Ext.setCell ?_ (by simp; try omega) _) | (with_reducible refine Ext.alloc ?_ _) | (with_reducible refine Ext.drewN ?_ _))
    · refine ⟨?_, ?_, ?_⟩ <;> simp [go_sem, *]
    · refine ⟨?_, ?_, ?_⟩ <;> simp [go_sem, *]
    · refine ⟨?_, ?_, ?_⟩ <;> simp [go_sem, *]
  rintro w1 ⟨hx, B0, B1, B2⟩
  have s_w1 : W0.heap.size ≤ w1.heap.size := hx.size
  replace hE := hE.trans hx
  clear hx
  have lt_B0 := B0.lt
  have lt_B1 := B1.lt
  have lt_B2 := B2.lt
  by_cases hf0 : (n0 : Int) ≤ 1048576
  rotate_left
  · refine (szPicture_over z0_0 z0_1 A0 n0 e0 (1048576) _ hn0 (by omega) (by omega) (by omega)).mono ?_
    rintro e wz ⟨rfl, hx⟩
    go_wp2
    go_ret
    exact ⟨rfl, hE.trans hx⟩
  refine (szPicture_fits z0_0 z0_1 A0 n0 e0 (1048576) _ hn0 (by omega) (by omega) hf0).mono ?_
  rintro e w2 ⟨rfl, hx⟩
  have s_w2 : w1.heap.size ≤ w2.heap.size := hx.size
  replace hE := hE.trans hx
  replace B0 := B0.ext hx
  replace B1 := B1.ext hx
  replace B2 := B2.ext hx
  clear hx
  have nl0 : ¬ 1048576 - (n0 : Int) < 0 := by omega
  have ⟨uB0_0, uB0_1, uB0_2⟩ := B0
  have ulB0 := B0.lt
  have ⟨uB1_0, uB1_1, uB1_2⟩ := B1
  have ulB1 := B1.lt
  have ⟨uB2_0, uB2_1, uB2_2⟩ := B2
  have ulB2 := B2.lt
  go_wp2_with fail
  clear uB0_0 uB0_1 uB0_2 ulB0 uB1_0 uB1_1 uB1_2 ulB1 uB2_0 uB2_1 uB2_2 ulB2
  by_cases hf1 : (n1 : Int) ≤ 1048576 - (n0 : Int)
  rotate_left
  · refine (szPicture_over z1_0 z1_1 A1 n1 e1 (1048576 - (n0 : Int)) _ hn1 (by omega) (by omega) (by omega)).mono ?_
    rintro e wz ⟨rfl, hx⟩
    go_wp2
    go_ret
    exact ⟨rfl, hE.trans hx⟩
  refine (szPicture_fits z1_0 z1_1 A1 n1 e1 (1048576 - (n0 : Int)) _ hn1 (by omega) (by omega) hf1).mono ?_
  rintro e w3 ⟨rfl, hx⟩
  have s_w3 : w2.heap.size ≤ w3.heap.size := hx.size
  replace hE := hE.trans hx
  replace B0 := B0.ext hx
  replace B1 := B1.ext hx
  replace B2 := B2.ext hx
  clear hx
  have nl1 : ¬ 1048576 - (n0 : Int) - (n1 : Int) < 0 := by omega
  have ⟨uB0_0, uB0_1, uB0_2⟩ := B0
  have ulB0 := B0.lt
  have ⟨uB1_0, uB1_1, uB1_2⟩ := B1
  have ulB1 := B1.lt
  have ⟨uB2_0, uB2_1, uB2_2⟩ := B2
  have ulB2 := B2.lt
  go_wp2_with fail
  clear uB0_0 uB0_1 uB0_2 ulB0 uB1_0 uB1_1 uB1_2 ulB1 uB2_0 uB2_1 uB2_2 ulB2
  by_cases hf2 : (n2 : Int) ≤ 1048576 - (n0 : Int) - (n1 : Int)
  rotate_left
  · refine (szMap_over z2_0 z2_1 A2 n2 e2 (1048576 - (n0 : Int) - (n1 : Int)) _ hn2 (by omega) (by omega) (by omega)).mono ?_
    rintro e wz ⟨rfl, hx⟩
    go_wp2
    go_ret
    exact ⟨rfl, hE.trans hx⟩
  refine (szMap_fits z2_0 z2_1 A2 n2 e2 (1048576 - (n0 : Int) - (n1 : Int)) _ hn2 (by omega) (by omega) hf2).mono ?_
  rintro e w4 ⟨rfl, hx⟩
  have s_w4 : w3.heap.size ≤ w4.heap.size := hx.size
  replace hE := hE.trans hx
  replace B0 := B0.ext hx
  replace B1 := B1.ext hx
  replace B2 := B2.ext hx
  clear hx
  have nl2 : ¬ 1048576 - (n0 : Int) - (n1 : Int) - (n2 : Int) < 0 := by omega
  have hq0 : n0 ≤ 1048576 := by omega
  have hl0 : bs0.length = n0 := hr0.1
  have hq1 : n1 ≤ 1048576 := by omega
  have hl1 : bs1.length = n1 := hr1.1
  have hq2 : n2 ≤ 1048576 := by omega
  have hl2 : bs2.length = n2 := hr2.1
  have ⟨uB0_0, uB0_1, uB0_2⟩ := B0
  have ulB0 := B0.lt
  have ⟨uB1_0, uB1_1, uB1_2⟩ := B1
  have ulB1 := B1.lt
  have ⟨uB2_0, uB2_1, uB2_2⟩ := B2
  have ulB2 := B2.lt
  go_wp2_with fail
  refine region_we 9 10 10 [none, some (fun u W => ∃ g, u = .agg #[.int .i64 z0_0, .int .i64 z0_1, .slice (some ⟨g, 0, none⟩) n0 n0] ∧ Reads W (some ⟨g, 0, none⟩) n0 bs0), none, some (fun u W => ∃ g, u = .agg #[.int .i64 z1_0, .int .i64 z1_1, .slice (some ⟨g, 0, none⟩) n1 n1] ∧ Reads W (some ⟨g, 0, none⟩) n1 bs1), none, some (fun u W => ∃ g, u = .agg #[.int .i64 z2_0, .int .i64 z2_1, .slice (some ⟨g, 0, none⟩) n2 n2] ∧ Reads W (some ⟨g, 0, none⟩) n2 bs2), some (fun u W => ∃ (r0 : Nat), u = .tuple #[.float .f32 r0, .bool o1] ∧ Is r0 X0), none, none, none] (by kernel_rfl) (by kernel_rfl) (by kernel_rfl) ?_
  dsimp only [addEdge]
  simp only [List.take_succ_cons, List.take_zero, List.drop_succ_cons, List.drop_zero]
  repeat ((first | refine wx_skip rfl ?_ | refine wx_nilCheck rfl rfl _ rfl _ rfl ?_ | (refine wx_float rfl rfl _ _ _ _ _ _ _ rfl rfl rfl rfl ?_; intro r hr) | (refine wx_k rfl rfl rfl (fun K hK => ?_); go_big_quiet_op; refine hK _ ?_; clear hK K) | (refine wx_callR _ rfl rfl 29 _ _ rfl (by kernel_rfl) (fun W hW hF => ?_) ?_; (· go_simp; (with_reducible refine (toPicture_any z0_0 z0_1 A0 n0 e0 bs0 W hq0 (hr0.ext (hE.trans hW))).mono ?_); rintro e w' ⟨g, _, rfl, ho, hx⟩; exact ⟨_, rfl, ⟨g, rfl, ho.reads⟩, hx⟩); rintro u V0 hV0 ⟨g0, rfl, hrd0⟩) | (refine wx_callR _ rfl rfl 29 _ _ rfl (by kernel_rfl) (fun W hW hF => ?_) ?_; (· go_simp; (with_reducible refine (toPicture_any z1_0 z1_1 A1 n1 e1 bs1 W hq1 (hr1.ext (hE.trans hW))).mono ?_); rintro e w' ⟨g, _, rfl, ho, hx⟩; exact ⟨_, rfl, ⟨g, rfl, ho.reads⟩, hx⟩); rintro u V1 hV1 ⟨g1, rfl, hrd1⟩) | (refine wx_callR _ rfl rfl 15 _ _ rfl (by kernel_rfl) (fun W hW hF => ?_) ?_; (· go_simp; (with_reducible refine (toMap_any z2_0 z2_1 A2 n2 e2 bs2 W hq2 (hr2.ext (hE.trans hW))).mono ?_); rintro e w' ⟨g, _, rfl, ho, hx⟩; exact ⟨_, rfl, ⟨g, rfl, ho.reads⟩, hx⟩); rintro u V2 hV2 ⟨g2, rfl, hrd2⟩) | (refine wx_callR _ rfl rfl 34 _ _ rfl (by kernel_rfl) (fun W hW hF => ?_) ?_; (· go_simp; have hVW0 : Ext V0 W := hF 1 (by kernel_rfl); have hVW1 : Ext V1 W := hF 3 (by kernel_rfl); have hVW2 : Ext V2 W := hF 5 (by kernel_rfl); (with_reducible refine (HS.out W (some ⟨g0, 0, none⟩) (some ⟨g1, 0, none⟩) (some ⟨g2, 0, none⟩) (hrd0.ext hVW0) (hrd1.ext hVW1) (hrd2.ext hVW2)).mono ?_); rintro e w' ⟨r0, rfl, h0, hx⟩; exact ⟨_, rfl, ⟨r0, rfl, h0⟩, hx⟩); rintro u VF hVF ⟨wr0, rfl, wh0⟩)); (try simp only [Act.put, List.setIfInBounds_toArray, List.set_cons_zero, List.set_cons_succ]); (try simp only [List.tail_cons]))
  refine wx_nil (fun W hW hF => ?_)
  have hFW : Ext VF W := hF 6
  clear uB0_0 uB0_1 uB0_2 ulB0 uB1_0 uB1_1 uB1_2 ulB1 uB2_0 uB2_1 uB2_2 ulB2 hF
  obtain ⟨w5, rfl⟩ : ∃ w', w' = W := ⟨W, rfl⟩
  have hx := hW
  clear hW
  have s_w5 : w4.heap.size ≤ w5.heap.size := hx.size
  replace hE := hE.trans hx
  replace B0 := B0.ext hx
  replace B1 := B1.ext hx
  replace B2 := B2.ext hx
  clear hx
  clear hFW
  have ⟨uB0_0, uB0_1, uB0_2⟩ := B0
  have ulB0 := B0.lt
  have ⟨uB1_0, uB1_1, uB1_2⟩ := B1
  have ulB1 := B1.lt
  have ⟨uB2_0, uB2_1, uB2_2⟩ := B2
  have ulB2 := B2.lt
  go_wp2_with fail
  refine np_at (X := fun w' => w5 = w') rfl ?_
  rintro w' rfl
  have ⟨uB0_0, uB0_1, uB0_2⟩ := B0
  have ulB0 := B0.lt
  have ⟨uB1_0, uB1_1, uB1_2⟩ := B1
  have ulB1 := B1.lt
  have ⟨uB2_0, uB2_1, uB2_2⟩ := B2
  have ulB2 := B2.lt
  go_wp2_with fail
  clear uB0_0 uB0_1 uB0_2 ulB0 uB1_0 uB1_1 uB1_2 ulB1 uB2_0 uB2_1 uB2_2 ulB2
  refine (toPicture_any z0_0 z0_1 A0 n0 e0 bs0 _ hq0 (hr0.ext hE)).mono ?_
  rintro e w6 ⟨xg0, xk0, rfl, xt0, hx⟩
  have s_w6 : w5.heap.size ≤ w6.heap.size := hx.size
  replace hE := hE.trans hx
  replace B0 := B0.ext hx
  replace B1 := B1.ext hx
  replace B2 := B2.ext hx
  clear hx
  have xq0 := xt0.row
  have ⟨uB0_0, uB0_1, uB0_2⟩ := B0
  have ulB0 := B0.lt
  have ⟨uB1_0, uB1_1, uB1_2⟩ := B1
  have ulB1 := B1.lt
  have ⟨uB2_0, uB2_1, uB2_2⟩ := B2
  have ulB2 := B2.lt
  go_wp2_with fail
  clear uB0_0 uB0_1 uB0_2 ulB0 uB1_0 uB1_1 uB1_2 ulB1 uB2_0 uB2_1 uB2_2 ulB2
  refine calls_at (X := fun w' => Ext w6 w' ∧ Box3 w' (w6.heap.size) (.int .i64 z0_0) (.int .i64 z0_1) (.slice (some ⟨xg0, 0, none⟩) n0 n0)) ?_ ?_
  · refine ⟨?_, ?_⟩
    · repeat (first | with_reducible exact Ext.refl _ |  (with_reducible refine Ext.setCell ?_ (by simp; try omega) _) | (with_reducible refine Ext.alloc ?_ _) | (with_reducible refine Ext.drewN ?_ _))
    · refine ⟨?_, ?_, ?_⟩ <;> simp [go_sem, *]
  rintro w7 ⟨hx, xB0⟩
  have s_w7 : w6.heap.size ≤ w7.heap.size := hx.size
  replace hE := hE.trans hx
  replace B0 := B0.ext hx
  replace B1 := B1.ext hx
  replace B2 := B2.ext hx
  replace xt0 := xt0.ext hx
  clear hx
  have lt_xB0 := xB0.lt
  refine (toPicture_any z1_0 z1_1 A1 n1 e1 bs1 _ hq1 (hr1.ext hE)).mono ?_
  rintro e w8 ⟨xg1, xk1, rfl, xt1, hx⟩
  have s_w8 : w7.heap.size ≤ w8.heap.size := hx.size
  replace hE := hE.trans hx
  replace B0 := B0.ext hx
  replace B1 := B1.ext hx
  replace B2 := B2.ext hx
  replace xt0 := xt0.ext hx
  replace xB0 := xB0.ext hx
  clear hx
  have xq1 := xt1.row
  have ⟨uB0_0, uB0_1, uB0_2⟩ := B0
  have ulB0 := B0.lt
  have ⟨uB1_0, uB1_1, uB1_2⟩ := B1
  have ulB1 := B1.lt
  have ⟨uB2_0, uB2_1, uB2_2⟩ := B2
  have ulB2 := B2.lt
  have ⟨uxB0_0, uxB0_1, uxB0_2⟩ := xB0
  have ulxB0 := xB0.lt
  go_wp2_with fail
  clear uB0_0 uB0_1 uB0_2 ulB0 uB1_0 uB1_1 uB1_2 ulB1 uB2_0 uB2_1 uB2_2 ulB2 uxB0_0 uxB0_1 uxB0_2 ulxB0
  refine calls_at (X := fun w' => Ext w8 w' ∧ Box3 w' (w8.heap.size) (.int .i64 z1_0) (.int .i64 z1_1) (.slice (some ⟨xg1, 0, none⟩) n1 n1)) ?_ ?_
  · refine ⟨?_, ?_⟩
    · repeat (first | with_reducible exact Ext.refl _ |  (with_reducible refine Ext.setCell ?_ (by simp; try omega) _) | (with_reducible refine Ext.alloc ?_ _) | (with_reducible refine Ext.drewN ?_ _))
    · refine ⟨?_, ?_, ?_⟩ <;> simp [go_sem, *]
  rintro w9 ⟨hx, xB1⟩
  have s_w9 : w8.heap.size ≤ w9.heap.size := hx.size
  replace hE := hE.trans hx
  replace B0 := B0.ext hx
  replace B1 := B1.ext hx
  replace B2 := B2.ext hx
  replace xt0 := xt0.ext hx
  replace xB0 := xB0.ext hx
  replace xt1 := xt1.ext hx
  clear hx
  have lt_xB1 := xB1.lt
  refine (toMap_any z2_0 z2_1 A2 n2 e2 bs2 _ hq2 (hr2.ext hE)).mono ?_
  rintro e w10 ⟨xg2, xk2, rfl, xt2, hx⟩
  have s_w10 : w9.heap.size ≤ w10.heap.size := hx.size
  replace hE := hE.trans hx
  replace B0 := B0.ext hx
  replace B1 := B1.ext hx
  replace B2 := B2.ext hx
  replace xt0 := xt0.ext hx
  replace xB0 := xB0.ext hx
  replace xt1 := xt1.ext hx
  replace xB1 := xB1.ext hx
  clear hx
  have xq2 := xt2.row
  have ⟨uB0_0, uB0_1, uB0_2⟩ := B0
  have ulB0 := B0.lt
  have ⟨uB1_0, uB1_1, uB1_2⟩ := B1
  have ulB1 := B1.lt
  have ⟨uB2_0, uB2_1, uB2_2⟩ := B2
  have ulB2 := B2.lt
  have ⟨uxB0_0, uxB0_1, uxB0_2⟩ := xB0
  have ulxB0 := xB0.lt
  have ⟨uxB1_0, uxB1_1, uxB1_2⟩ := xB1
  have ulxB1 := xB1.lt
  go_wp2_with fail
  clear uB0_0 uB0_1 uB0_2 ulB0 uB1_0 uB1_1 uB1_2 ulB1 uB2_0 uB2_1 uB2_2 ulB2 uxB0_0 uxB0_1 uxB0_2 ulxB0 uxB1_0 uxB1_1 uxB1_2 ulxB1
  refine calls_at (X := fun w' => Ext w10 w' ∧ Box3 w' (w10.heap.size) (.int .i64 z2_0) (.int .i64 z2_1) (.slice (some ⟨xg2, 0, none⟩) n2 n2)) ?_ ?_
  · refine ⟨?_, ?_⟩
    · repeat (first | with_reducible exact Ext.refl _ |  (with_reducible refine Ext.setCell ?_ (by simp; try omega) _) | (with_reducible refine Ext.alloc ?_ _) | (with_reducible refine Ext.drewN ?_ _))
    · refine ⟨?_, ?_, ?_⟩ <;> simp [go_sem, *]
  rintro w11 ⟨hx, xB2⟩
  have s_w11 : w10.heap.size ≤ w11.heap.size := hx.size
  replace hE := hE.trans hx
  replace B0 := B0.ext hx
  replace B1 := B1.ext hx
  replace B2 := B2.ext hx
  replace xt0 := xt0.ext hx
  replace xB0 := xB0.ext hx
  replace xt1 := xt1.ext hx
  replace xB1 := xB1.ext hx
  replace xt2 := xt2.ext hx
  clear hx
  have lt_xB2 := xB2.lt
  refine (HI.out _ (some ⟨xg0, 0, none⟩) (some ⟨xg1, 0, none⟩) (some ⟨xg2, 0, none⟩) xt0.reads xt1.reads xt2.reads).mono ?_
  rintro e w12 ⟨gr0, rfl, gh0, hx⟩
  have s_w12 : w11.heap.size ≤ w12.heap.size := hx.size
  replace hE := hE.trans hx
  replace B0 := B0.ext hx
  replace B1 := B1.ext hx
  replace B2 := B2.ext hx
  replace xt0 := xt0.ext hx
  replace xB0 := xB0.ext hx
  replace xt1 := xt1.ext hx
  replace xB1 := xB1.ext hx
  replace xt2 := xt2.ext hx
  replace xB2 := xB2.ext hx
  clear hx
  have ⟨uB0_0, uB0_1, uB0_2⟩ := B0
  have ulB0 := B0.lt
  have ⟨uB1_0, uB1_1, uB1_2⟩ := B1
  have ulB1 := B1.lt
  have ⟨uB2_0, uB2_1, uB2_2⟩ := B2
  have ulB2 := B2.lt
  have ⟨uxB0_0, uxB0_1, uxB0_2⟩ := xB0
  have ulxB0 := xB0.lt
  have ⟨uxB1_0, uxB1_1, uxB1_2⟩ := xB1
  have ulxB1 := xB1.lt
  have ⟨uxB2_0, uxB2_1, uxB2_2⟩ := xB2
  have ulxB2 := xB2.lt
  go_wp2_with fail
  clear uB0_0 uB0_1 uB0_2 ulB0 uB1_0 uB1_1 uB1_2 ulB1 uB2_0 uB2_1 uB2_2 ulB2 uxB0_0 uxB0_1 uxB0_2 ulxB0 uxB1_0 uxB1_1 uxB1_2 ulxB1 uxB2_0 uxB2_1 uxB2_2 ulxB2
  refine calls_at (X := fun w' => Ext w12 w') (by repeat (first | with_reducible exact Ext.refl _ |  (with_reducible refine Ext.setCell ?_ (by simp; try omega) _) | (with_reducible refine Ext.alloc ?_ _) | (with_reducible refine Ext.drewN ?_ _))) ?_
  rintro w13 hx
  have s_w13 : w12.heap.size ≤ w13.heap.size := hx.size
  replace hE := hE.trans hx
  replace B0 := B0.ext hx
  replace B1 := B1.ext hx
  replace B2 := B2.ext hx
  replace xt0 := xt0.ext hx
  replace xB0 := xB0.ext hx
  replace xt1 := xt1.ext hx
  replace xB1 := xB1.ext hx
  replace xt2 := xt2.ext hx
  replace xB2 := xB2.ext hx
  clear hx
  refine (sameFloat_any _ _ _ (cv_same _ _ _ _ (gh0.2.trans wh0.2.symm))).mono ?_
  rintro e w14 ⟨rfl, hww⟩
  have hx : Ext w13 w14 := by rw [hww]; exact Ext.refl _
  clear hww
  have s_w14 : w13.heap.size ≤ w14.heap.size := hx.size
  replace hE := hE.trans hx
  replace B0 := B0.ext hx
  replace B1 := B1.ext hx
  replace B2 := B2.ext hx
  replace xt0 := xt0.ext hx
  replace xB0 := xB0.ext hx
  replace xt1 := xt1.ext hx
  replace xB1 := xB1.ext hx
  replace xt2 := xt2.ext hx
  replace xB2 := xB2.ext hx
  clear hx
  have ⟨uB0_0, uB0_1, uB0_2⟩ := B0
  have ulB0 := B0.lt
  have ⟨uB1_0, uB1_1, uB1_2⟩ := B1
  have ulB1 := B1.lt
  have ⟨uB2_0, uB2_1, uB2_2⟩ := B2
  have ulB2 := B2.lt
  have ⟨uxB0_0, uxB0_1, uxB0_2⟩ := xB0
  have ulxB0 := xB0.lt
  have ⟨uxB1_0, uxB1_1, uxB1_2⟩ := xB1
  have ulxB1 := xB1.lt
  have ⟨uxB2_0, uxB2_1, uxB2_2⟩ := xB2
  have ulxB2 := xB2.lt
  go_wp2_with fail
  refine region_wx0 [none, none, some (fun u W => ∃ g, u = .agg #[.int .i64 z0_0, .int .i64 z0_1, .slice (some ⟨g, 0, none⟩) n0 n0] ∧ Reads W (some ⟨g, 0, none⟩) n0 bs0)] (by kernel_rfl) (by kernel_rfl) ?_
  repeat ((first | refine wx_skip rfl ?_ | refine wx_nilCheck rfl rfl _ rfl _ rfl ?_ | (refine wx_float rfl rfl _ _ _ _ _ _ _ rfl rfl rfl rfl ?_; intro r hr) | (refine wx_k rfl rfl rfl (fun K hK => ?_); go_big_quiet_op; refine hK _ ?_; clear hK K) | (refine wx_callR _ rfl rfl 29 _ _ rfl (by kernel_rfl) (fun W hW hF => ?_) ?_; (· go_simp; (with_reducible refine (toPicture_any z0_0 z0_1 A0 n0 e0 bs0 W hq0 (hr0.ext (hE.trans hW))).mono ?_); rintro e w' ⟨g, _, rfl, ho, hx⟩; exact ⟨_, rfl, ⟨g, rfl, ho.reads⟩, hx⟩); rintro u V hV ⟨g, rfl, hrd⟩) | (refine wx_call rfl rfl 31 _ _ rfl (by kernel_rfl) (by kernel_rfl) (.bool true) (fun W hW hF => ?_) ?_; (· go_simp; have hVW : Ext V W := hF 2 (by kernel_rfl); (with_reducible refine (eqPicture_any z0_0 z0_1 _ _ _ _ _ _ bs0 bs0 W hn0 (xt0.ext hW).reads (hrd.ext hVW) rfl).mono ?_); rintro e w' h; exact h))); (try simp only [Act.put, List.setIfInBounds_toArray, List.set_cons_zero, List.set_cons_succ]); (try simp only [List.tail_cons]))
  refine wx_nil (fun W hW hF => ?_)
  clear uB0_0 uB0_1 uB0_2 ulB0 uB1_0 uB1_1 uB1_2 ulB1 uB2_0 uB2_1 uB2_2 ulB2 uxB0_0 uxB0_1 uxB0_2 ulxB0 uxB1_0 uxB1_1 uxB1_2 ulxB1 uxB2_0 uxB2_1 uxB2_2 ulxB2 hF
  obtain ⟨w15, rfl⟩ : ∃ w', w' = W := ⟨W, rfl⟩
  have hx := hW
  clear hW
  have s_w15 : w14.heap.size ≤ w15.heap.size := hx.size
  replace hE := hE.trans hx
  replace B0 := B0.ext hx
  replace B1 := B1.ext hx
  replace B2 := B2.ext hx
  replace xt0 := xt0.ext hx
  replace xB0 := xB0.ext hx
  replace xt1 := xt1.ext hx
  replace xB1 := xB1.ext hx
  replace xt2 := xt2.ext hx
  replace xB2 := xB2.ext hx
  clear hx
  have ⟨uB0_0, uB0_1, uB0_2⟩ := B0
  have ulB0 := B0.lt
  have ⟨uB1_0, uB1_1, uB1_2⟩ := B1
  have ulB1 := B1.lt
  have ⟨uB2_0, uB2_1, uB2_2⟩ := B2
  have ulB2 := B2.lt
  have ⟨uxB0_0, uxB0_1, uxB0_2⟩ := xB0
  have ulxB0 := xB0.lt
  have ⟨uxB1_0, uxB1_1, uxB1_2⟩ := xB1
  have ulxB1 := xB1.lt
  have ⟨uxB2_0, uxB2_1, uxB2_2⟩ := xB2
  have ulxB2 := xB2.lt
  go_wp2_with fail
  refine region_wx0 [none, none, some (fun u W => ∃ g, u = .agg #[.int .i64 z1_0, .int .i64 z1_1, .slice (some ⟨g, 0, none⟩) n1 n1] ∧ Reads W (some ⟨g, 0, none⟩) n1 bs1)] (by kernel_rfl) (by kernel_rfl) ?_
  repeat ((first | refine wx_skip rfl ?_ | refine wx_nilCheck rfl rfl _ rfl _ rfl ?_ | (refine wx_float rfl rfl _ _ _ _ _ _ _ rfl rfl rfl rfl ?_; intro r hr) | (refine wx_k rfl rfl rfl (fun K hK => ?_); go_big_quiet_op; refine hK _ ?_; clear hK K) | (refine wx_callR _ rfl rfl 29 _ _ rfl (by kernel_rfl) (fun W hW hF => ?_) ?_; (· go_simp; (with_reducible refine (toPicture_any z1_0 z1_1 A1 n1 e1 bs1 W hq1 (hr1.ext (hE.trans hW))).mono ?_); rintro e w' ⟨g, _, rfl, ho, hx⟩; exact ⟨_, rfl, ⟨g, rfl, ho.reads⟩, hx⟩); rintro u V hV ⟨g, rfl, hrd⟩) | (refine wx_call rfl rfl 31 _ _ rfl (by kernel_rfl) (by kernel_rfl) (.bool true) (fun W hW hF => ?_) ?_; (· go_simp; have hVW : Ext V W := hF 2 (by kernel_rfl); (with_reducible refine (eqPicture_any z1_0 z1_1 _ _ _ _ _ _ bs1 bs1 W hn1 (xt1.ext hW).reads (hrd.ext hVW) rfl).mono ?_); rintro e w' h; exact h))); (try simp only [Act.put, List.setIfInBounds_toArray, List.set_cons_zero, List.set_cons_succ]); (try simp only [List.tail_cons]))
  refine wx_nil (fun W hW hF => ?_)
  clear uB0_0 uB0_1 uB0_2 ulB0 uB1_0 uB1_1 uB1_2 ulB1 uB2_0 uB2_1 uB2_2 ulB2 uxB0_0 uxB0_1 uxB0_2 ulxB0 uxB1_0 uxB1_1 uxB1_2 ulxB1 uxB2_0 uxB2_1 uxB2_2 ulxB2 hF
  obtain ⟨w16, rfl⟩ : ∃ w', w' = W := ⟨W, rfl⟩
  have hx := hW
  clear hW
  have s_w16 : w15.heap.size ≤ w16.heap.size := hx.size
  replace hE := hE.trans hx
  replace B0 := B0.ext hx
  replace B1 := B1.ext hx
  replace B2 := B2.ext hx
  replace xt0 := xt0.ext hx
  replace xB0 := xB0.ext hx
  replace xt1 := xt1.ext hx
  replace xB1 := xB1.ext hx
  replace xt2 := xt2.ext hx
  replace xB2 := xB2.ext hx
  clear hx
  have ⟨uB0_0, uB0_1, uB0_2⟩ := B0
  have ulB0 := B0.lt
  have ⟨uB1_0, uB1_1, uB1_2⟩ := B1
  have ulB1 := B1.lt
  have ⟨uB2_0, uB2_1, uB2_2⟩ := B2
  have ulB2 := B2.lt
  have ⟨uxB0_0, uxB0_1, uxB0_2⟩ := xB0
  have ulxB0 := xB0.lt
  have ⟨uxB1_0, uxB1_1, uxB1_2⟩ := xB1
  have ulxB1 := xB1.lt
  have ⟨uxB2_0, uxB2_1, uxB2_2⟩ := xB2
  have ulxB2 := xB2.lt
  go_wp2_with fail
  refine region_wx0 [none, none, some (fun u W => ∃ g, u = .agg #[.int .i64 z2_0, .int .i64 z2_1, .slice (some ⟨g, 0, none⟩) n2 n2] ∧ Reads W (some ⟨g, 0, none⟩) n2 bs2)] (by kernel_rfl) (by kernel_rfl) ?_
  repeat ((first | refine wx_skip rfl ?_ | refine wx_nilCheck rfl rfl _ rfl _ rfl ?_ | (refine wx_float rfl rfl _ _ _ _ _ _ _ rfl rfl rfl rfl ?_; intro r hr) | (refine wx_k rfl rfl rfl (fun K hK => ?_); go_big_quiet_op; refine hK _ ?_; clear hK K) | (refine wx_callR _ rfl rfl 15 _ _ rfl (by kernel_rfl) (fun W hW hF => ?_) ?_; (· go_simp; (with_reducible refine (toMap_any z2_0 z2_1 A2 n2 e2 bs2 W hq2 (hr2.ext (hE.trans hW))).mono ?_); rintro e w' ⟨g, _, rfl, ho, hx⟩; exact ⟨_, rfl, ⟨g, rfl, ho.reads⟩, hx⟩); rintro u V hV ⟨g, rfl, hrd⟩) | (refine wx_call rfl rfl 19 _ _ rfl (by kernel_rfl) (by kernel_rfl) (.bool true) (fun W hW hF => ?_) ?_; (· go_simp; have hVW : Ext V W := hF 2 (by kernel_rfl); (with_reducible refine (eqMap_any z2_0 z2_1 _ _ _ _ _ _ bs2 bs2 W hn2 (xt2.ext hW).reads (hrd.ext hVW) rfl).mono ?_); rintro e w' h; exact h))); (try simp only [Act.put, List.setIfInBounds_toArray, List.set_cons_zero, List.set_cons_succ]); (try simp only [List.tail_cons]))
  refine wx_nil (fun W hW hF => ?_)
  clear uB0_0 uB0_1 uB0_2 ulB0 uB1_0 uB1_1 uB1_2 ulB1 uB2_0 uB2_1 uB2_2 ulB2 uxB0_0 uxB0_1 uxB0_2 ulxB0 uxB1_0 uxB1_1 uxB1_2 ulxB1 uxB2_0 uxB2_1 uxB2_2 ulxB2 hF
  obtain ⟨w17, rfl⟩ : ∃ w', w' = W := ⟨W, rfl⟩
  have hx := hW
  clear hW
  have s_w17 : w16.heap.size ≤ w17.heap.size := hx.size
  replace hE := hE.trans hx
  replace B0 := B0.ext hx
  replace B1 := B1.ext hx
  replace B2 := B2.ext hx
  replace xt0 := xt0.ext hx
  replace xB0 := xB0.ext hx
  replace xt1 := xt1.ext hx
  replace xB1 := xB1.ext hx
  replace xt2 := xt2.ext hx
  replace xB2 := xB2.ext hx
  clear hx
  have ⟨uB0_0, uB0_1, uB0_2⟩ := B0
  have ulB0 := B0.lt
  have ⟨uB1_0, uB1_1, uB1_2⟩ := B1
  have ulB1 := B1.lt
  have ⟨uB2_0, uB2_1, uB2_2⟩ := B2
  have ulB2 := B2.lt
  have ⟨uxB0_0, uxB0_1, uxB0_2⟩ := xB0
  have ulxB0 := xB0.lt
  have ⟨uxB1_0, uxB1_1, uxB1_2⟩ := xB1
  have ulxB1 := xB1.lt
  have ⟨uxB2_0, uxB2_1, uxB2_2⟩ := xB2
  have ulxB2 := xB2.lt
  go_wp2
  go_ret
  exact ⟨rfl, by assumption⟩
end Go.Proofs.Ytgpobhpcbgenoaa
