/- The walk of the law FnExactRankAt, told what both functions hand back. -/
import Derived.Test.YtcekofioiofjbaaHarS
import Derived.Test.YtcekofioiofjbaaKit
import Derived.Lib.Hide
namespace Go.Proofs.Ytcekofioiofjbaa
open Go.RowKit
set_option linter.unusedVariables false

set_option maxHeartbeats 4000000 in
set_option maxRecDepth 8000 in
theorem lawRankAt_core (W0 : World) (z0_0 z0_1 : Int) (A0 : Option Addr) (n0 e0 : Nat) (bs0 : List Nat) (hn0 : n0 ≤ maxLen) (hr0 : Reads W0 A0 n0 bs0) (a1 : Int) (a2 : Int) (a3 : Int) (o0 : Int) (o1 : Bool)
    (hs : ∀ (w : World) (D0 : Option Addr), Reads w D0 n0 bs0 → Calls Try.prog 41 #[.agg #[.int .i64 z0_0, .int .i64 z0_1, .slice D0 n0 n0], .int .i64 a1, .int .i64 a2, .int .i64 a3] w fun e w' => e = .returned (.tuple #[.int .i64 o0, .bool o1]) ∧ Ext w w')
    (hi : ∀ (w : World) (D0 : Option Addr), Reads w D0 n0 bs0 → Calls Try.prog 43 #[.agg #[.int .i64 z0_0, .int .i64 z0_1, .slice D0 n0 n0], .int .i64 a1, .int .i64 a2, .int .i64 a3] w fun e w' => e = .returned (.tuple #[.int .i64 o0, .bool o1]) ∧ Ext w w') :
    Calls Try.prog 11 #[.agg #[.int .i64 z0_0, .int .i64 z0_1, .slice A0 n0 e0], .int .i64 a1, .int .i64 a2, .int .i64 a3] W0 fun e w' => e = .returned (.bool true) ∧ Ext W0 w' := by
  have HS := Lib.hid hs
  have HI := Lib.hid hi
  clear hs hi
  have hE := Ext.refl W0
  have ne0 : (o0 != o0) = false := by simp
  have ne1 : (o1 != o1) = false := by cases o1 <;> rfl
  go_enter Try.func11, Try.ntmps11
  go_wp2_with fail
  refine calls_at (X := fun w' => Ext W0 w' ∧ Box3 w' (W0.heap.size) (.int .i64 z0_0) (.int .i64 z0_1) (.slice A0 n0 e0)) ?_ ?_
  · refine ⟨?_, ?_⟩
    · repeat (first | with_reducible exact Ext.refl _ | (with_reducible refine Ext.setCell ?_ (by simp; try omega) _) | (with_reducible refine Ext.alloc ?_ _) | (with_reducible refine Ext.drewN ?_ _))
    · refine ⟨?_, ?_, ?_⟩ <;> simp [go_sem, *]
  rintro w1 ⟨hx, B0⟩
  have s_w1 : W0.heap.size ≤ w1.heap.size := hx.size
  replace hE := hE.trans hx
  clear hx
  have lt_B0 := B0.lt
  by_cases hf0 : (n0 : Int) ≤ 1048576
  rotate_left
  · refine (szPicture_over z0_0 z0_1 A0 n0 e0 (1048576) _ hn0 (by omega) (by omega) (by omega)).mono ?_
    rintro e wz ⟨rfl, hx⟩
    go_wp2
    go_ret
    exact ⟨rfl, hE.trans hx⟩
  refine (szPicture_fits z0_0 z0_1 A0 n0 e0 (1048576) _ hn0 (by omega) (by omega) hf0).mono ?_
  rintro e w2 ⟨rfl, hx⟩
  have s_w2 : w1.heap.size ≤ w2.heap.size := hx.size
  replace hE := hE.trans hx
  replace B0 := B0.ext hx
  clear hx
  have nl0 : ¬ 1048576 - (n0 : Int) < 0 := by omega
  have hq0 : n0 ≤ 1048576 := by omega
  have hl0 : bs0.length = n0 := hr0.1
  have ⟨uB0_0, uB0_1, uB0_2⟩ := B0
  have ulB0 := B0.lt
  go_wp2_with fail
  clear uB0_0 uB0_1 uB0_2 ulB0
  refine (toPicture_any z0_0 z0_1 A0 n0 e0 bs0 _ hq0 (hr0.ext hE)).mono ?_
  rintro e w3 ⟨sg0, sk0, rfl, st0, hx⟩
  have s_w3 : w2.heap.size ≤ w3.heap.size := hx.size
  replace hE := hE.trans hx
  replace B0 := B0.ext hx
  clear hx
  have sq0 := st0.row
  have ⟨uB0_0, uB0_1, uB0_2⟩ := B0
  have ulB0 := B0.lt
  go_wp2_with fail
  clear uB0_0 uB0_1 uB0_2 ulB0
  refine (HS.out _ (some ⟨sg0, 0, none⟩) st0.reads).mono ?_
  rintro e w4 ⟨rfl, hx⟩
  have s_w4 : w3.heap.size ≤ w4.heap.size := hx.size
  replace hE := hE.trans hx
  replace B0 := B0.ext hx
  replace st0 := st0.ext hx
  clear hx
  clear st0 sq0
  have ⟨uB0_0, uB0_1, uB0_2⟩ := B0
  have ulB0 := B0.lt
  go_wp2_with fail
  clear uB0_0 uB0_1 uB0_2 ulB0
  refine (toPicture_any z0_0 z0_1 A0 n0 e0 bs0 _ hq0 (hr0.ext hE)).mono ?_
  rintro e w5 ⟨xg0, xk0, rfl, xt0, hx⟩
  have s_w5 : w4.heap.size ≤ w5.heap.size := hx.size
  replace hE := hE.trans hx
  replace B0 := B0.ext hx
  clear hx
  have xq0 := xt0.row
  have ⟨uB0_0, uB0_1, uB0_2⟩ := B0
  have ulB0 := B0.lt
  go_wp2_with fail
  clear uB0_0 uB0_1 uB0_2 ulB0
  refine calls_at (X := fun w' => Ext w5 w' ∧ Box3 w' (w5.heap.size) (.int .i64 z0_0) (.int .i64 z0_1) (.slice (some ⟨xg0, 0, none⟩) n0 n0)) ?_ ?_
  · refine ⟨?_, ?_⟩
    · repeat (first | with_reducible exact Ext.refl _ | (with_reducible refine Ext.setCell ?_ (by simp; try omega) _) | (with_reducible refine Ext.alloc ?_ _) | (with_reducible refine Ext.drewN ?_ _))
    · refine ⟨?_, ?_, ?_⟩ <;> simp [go_sem, *]
  rintro w6 ⟨hx, xB0⟩
  have s_w6 : w5.heap.size ≤ w6.heap.size := hx.size
  replace hE := hE.trans hx
  replace B0 := B0.ext hx
  replace xt0 := xt0.ext hx
  clear hx
  have lt_xB0 := xB0.lt
  refine (HI.out _ (some ⟨xg0, 0, none⟩) xt0.reads).mono ?_
  rintro e w7 ⟨rfl, hx⟩
  have s_w7 : w6.heap.size ≤ w7.heap.size := hx.size
  replace hE := hE.trans hx
  replace B0 := B0.ext hx
  replace xt0 := xt0.ext hx
  replace xB0 := xB0.ext hx
  clear hx
  have ⟨uB0_0, uB0_1, uB0_2⟩ := B0
  have ulB0 := B0.lt
  have ⟨uxB0_0, uxB0_1, uxB0_2⟩ := xB0
  have ulxB0 := xB0.lt
  go_wp2_with fail
  refine region_wx0 [none, none, some (fun u W => ∃ g, u = .agg #[.int .i64 z0_0, .int .i64 z0_1, .slice (some ⟨g, 0, none⟩) n0 n0] ∧ Reads W (some ⟨g, 0, none⟩) n0 bs0)] (by kernel_rfl) (by kernel_rfl) ?_
  repeat ((first | refine wx_skip rfl ?_ | refine wx_nilCheck rfl rfl _ rfl _ rfl ?_ | (refine wx_float rfl rfl _ _ _ _ _ _ _ rfl rfl rfl rfl ?_; intro r hr) | (refine wx_k rfl rfl rfl (fun K hK => ?_); go_big_quiet_op; refine hK _ ?_; clear hK K) | (refine wx_callR _ rfl rfl 42 _ _ rfl (by kernel_rfl) (fun W hW hF => ?_) ?_; (· go_simp; (with_reducible refine (toPicture_any z0_0 z0_1 A0 n0 e0 bs0 W hq0 (hr0.ext (hE.trans hW))).mono ?_); rintro e w' ⟨g, _, rfl, ho, hx⟩; exact ⟨_, rfl, ⟨g, rfl, ho.reads⟩, hx⟩); rintro u V hV ⟨g, rfl, hrd⟩) | (refine wx_call rfl rfl 44 _ _ rfl (by kernel_rfl) (by kernel_rfl) (.bool true) (fun W hW hF => ?_) ?_; (· go_simp; have hVW : Ext V W := hF 2 (by kernel_rfl); (with_reducible refine (eqPicture_any z0_0 z0_1 _ _ _ _ _ _ bs0 bs0 W hn0 (xt0.ext hW).reads (hrd.ext hVW) rfl).mono ?_); rintro e w' h; exact h))); (try simp only [Act.put, List.setIfInBounds_toArray, List.set_cons_zero, List.set_cons_succ]); (try simp only [List.tail_cons]))
  refine wx_nil (fun W hW hF => ?_)
  clear uB0_0 uB0_1 uB0_2 ulB0 uxB0_0 uxB0_1 uxB0_2 ulxB0 hF
  obtain ⟨w8, rfl⟩ : ∃ w', w' = W := ⟨W, rfl⟩
  have hx := hW
  clear hW
  have s_w8 : w7.heap.size ≤ w8.heap.size := hx.size
  replace hE := hE.trans hx
  replace B0 := B0.ext hx
  replace xt0 := xt0.ext hx
  replace xB0 := xB0.ext hx
  clear hx
  have ⟨uB0_0, uB0_1, uB0_2⟩ := B0
  have ulB0 := B0.lt
  have ⟨uxB0_0, uxB0_1, uxB0_2⟩ := xB0
  have ulxB0 := xB0.lt
  go_wp2
  go_ret
  exact ⟨rfl, by assumption⟩
end Go.Proofs.Ytcekofioiofjbaa
