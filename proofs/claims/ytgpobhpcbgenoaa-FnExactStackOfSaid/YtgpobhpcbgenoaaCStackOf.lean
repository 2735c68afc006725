/- The walk of the law FnExactStackOf, told what both functions hand back. -/
import Derived.Test.YtgpobhpcbgenoaaHarS
import Derived.Test.YtgpobhpcbgenoaaCube
import Derived.Test.YtgpobhpcbgenoaaEdge
import Derived.Test.YtgpobhpcbgenoaaStkH
import Derived.Lib.Hide
namespace Go.Proofs.Ytgpobhpcbgenoaa
open Go.RowKit
set_option linter.unusedVariables false

set_option maxHeartbeats 4000000 in
set_option maxRecDepth 8000 in
theorem lawStackOf_core (W0 : World) (A0 : Option Addr) (n0 e0 : Nat) (ws ht : Nat → Int) (bs : Nat → List Nat) (hn0 : n0 ≤ maxLen) (hb0 : ∀ i, i < n0 → (bs i).length ≤ maxLen) (hr0 : ReadsP W0 A0 n0 ws ht bs) (o0_0 o0_1 o0_2 : Int) (L0 : List Nat) (hL0 : n0 + totB bs n0 ≤ 1048576 → L0.length ≤ 4096) (o1 : Bool)
    (hs : ∀ (w : World) (D0 : Option Addr), n0 ≤ 1048576 → ReadsP w D0 n0 ws ht bs → Calls Try.prog 37 #[.slice D0 n0 n0] w fun e w' => ∃ (A0 : Option Addr) (c0 : Nat) (b0 : List Nat), e = .returned (.tuple #[.agg #[.int .i64 o0_0, .int .i64 o0_1, .int .i64 o0_2, .slice A0 b0.length c0], .bool o1]) ∧ OwnF w' w.heap.size 25 (.slice A0 b0.length c0) b0 ∧ b0.map nrm = L0 ∧ Ext w w')
    (hi : ∀ (w : World) (D0 : Option Addr), n0 ≤ 1048576 → ReadsP w D0 n0 ws ht bs → Calls Try.prog 39 #[.slice D0 n0 n0] w fun e w' => ∃ (A0 : Option Addr) (c0 : Nat) (b0 : List Nat), e = .returned (.tuple #[.agg #[.int .i64 o0_0, .int .i64 o0_1, .int .i64 o0_2, .slice A0 b0.length c0], .bool o1]) ∧ OwnF w' w.heap.size 25 (.slice A0 b0.length c0) b0 ∧ b0.map nrm = L0 ∧ Ext w w') :
    Calls Try.prog 7 #[.slice A0 n0 e0] W0 fun e w' => e = .returned (.bool true) ∧ Ext W0 w' := by
  have HS := Lib.hid hs
  have HI := Lib.hid hi
  clear hs hi
  have hE := Ext.refl W0
  have ne1 : (o1 != o1) = false := by cases o1 <;> rfl
  by_cases hfit : n0 + totB bs n0 ≤ 1048576
  rotate_left
  · have HSZ := Lib.hid (szPictureS_any A0 n0 e0 ws ht bs (-1) W0 hn0 hb0 hr0 (.inr ⟨by omega, rfl⟩))
    go_enter Try.func7, Try.ntmps7
    go_wp2_with fail
    refine HSZ.out.mono ?_
    rintro e wz ⟨rfl, hx⟩
    go_wp2
    go_ret
    exact ⟨rfl, hx⟩
  have hL0' := hL0 hfit
  have HSZ := Lib.hid (szPictureS_any A0 n0 e0 ws ht bs _ W0 hn0 hb0 hr0 (.inl ⟨hfit, rfl⟩))
  have hq0 : n0 ≤ 1048576 := by omega
  have hbq : Hid (∀ i, i < n0 → (bs i).length ≤ 1048576) := Lib.hid (fun i hi => by have := totB_one bs hi; omega)
  obtain ⟨TT, hTT⟩ : ∃ TT, n0 + totB bs n0 = TT := ⟨_, rfl⟩
  rw [hTT] at HSZ
  have HTT := Lib.hid hTT
  have hTT2 : TT ≤ 1048576 := by omega
  have nleft : ¬ (1048576 - (TT : Int) < 0) := by omega
  have HB0 := Lib.hid hb0
  clear hTT hfit hL0 hb0
  go_enter Try.func7, Try.ntmps7
  go_wp2_with fail
  refine HSZ.out.mono ?_
  rintro e w0 ⟨rfl, hx⟩
  have s_w0 : W0.heap.size ≤ w0.heap.size := hx.size
  replace hE := hE.trans hx
  clear hx
  go_wp2_with fail
  refine (toPictureS_any A0 n0 e0 ws ht bs _ hq0 hbq.out (hr0.ext hE)).mono ?_
  rintro e w1 ⟨sg0, rfl, st0, hx⟩
  have s_w1 : w0.heap.size ≤ w1.heap.size := hx.size
  replace hE := hE.trans hx
  clear hx
  go_wp2_with fail
  refine (HS.out _ (some ⟨sg0, 0, none⟩) hq0 st0.reads).mono ?_
  rintro e w2 ⟨wA0, wc0, wb0, rfl, wo0, wm0, hx⟩
  have s_w2 : w1.heap.size ≤ w2.heap.size := hx.size
  replace hE := hE.trans hx
  replace st0 := st0.ext hx
  clear hx
  have wl0 : wb0.length ≤ 4096 := by have := congrArg List.length wm0; simp only [List.length_map] at this; omega
  have wq0 := wo0.row
  clear st0
  go_wp2_with fail
  refine calls_at (X := fun w' => Ext w2 w' ∧ Box4 w' (w2.heap.size) (.int .i64 o0_0) (.int .i64 o0_1) (.int .i64 o0_2) (.slice wA0 wb0.length wc0)) ?_ ?_
  · refine ⟨?_, ?_⟩
    · repeat (first | with_reducible exact Ext.refl _ |  (with_reducible refine Ext.setCell ?_ (by simp; try omega) _) | (with_reducible refine Ext.alloc ?_ _) | (with_reducible refine Ext.drewN ?_ _))
    · refine ⟨?_, ?_, ?_, ?_⟩ <;> simp [go_sem, *]
  rintro w3 ⟨hx, wB0⟩
  have s_w3 : w2.heap.size ≤ w3.heap.size := hx.size
  replace hE := hE.trans hx
  replace wo0 := wo0.ext hx
  clear hx
  have lt_wB0 := wB0.lt
  refine (toPictureS_any A0 n0 e0 ws ht bs _ hq0 hbq.out (hr0.ext hE)).mono ?_
  rintro e w4 ⟨xg0, rfl, xt0, hx⟩
  have s_w4 : w3.heap.size ≤ w4.heap.size := hx.size
  replace hE := hE.trans hx
  replace wo0 := wo0.ext hx
  replace wB0 := wB0.ext hx
  clear hx
  have ⟨uwB0_0, uwB0_1, uwB0_2, uwB0_3⟩ := wB0
  have ulwB0 := wB0.lt
  go_wp2_with fail
  clear uwB0_0 uwB0_1 uwB0_2 uwB0_3 ulwB0
  refine (HI.out _ (some ⟨xg0, 0, none⟩) hq0 xt0.reads).mono ?_
  rintro e w5 ⟨gA0, gc0, gb0, rfl, go0, gm0, hx⟩
  have s_w5 : w4.heap.size ≤ w5.heap.size := hx.size
  replace hE := hE.trans hx
  replace wo0 := wo0.ext hx
  replace wB0 := wB0.ext hx
  replace xt0 := xt0.ext hx
  clear hx
  have gl0 : gb0.length ≤ 4096 := by have := congrArg List.length gm0; simp only [List.length_map] at this; omega
  have gq0 := go0.row
  have ⟨uwB0_0, uwB0_1, uwB0_2, uwB0_3⟩ := wB0
  have ulwB0 := wB0.lt
  go_wp2_with fail
  clear uwB0_0 uwB0_1 uwB0_2 uwB0_3 ulwB0
  refine calls_at (X := fun w' => Ext w5 w' ∧ Box4 w' (w5.heap.size) (.int .i64 o0_0) (.int .i64 o0_1) (.int .i64 o0_2) (.slice gA0 gb0.length gc0)) ?_ ?_
  · refine ⟨?_, ?_⟩
    · repeat (first | with_reducible exact Ext.refl _ |  (with_reducible refine Ext.setCell ?_ (by simp; try omega) _) | (with_reducible refine Ext.alloc ?_ _) | (with_reducible refine Ext.drewN ?_ _))
    · refine ⟨?_, ?_, ?_, ?_⟩ <;> simp [go_sem, *]
  rintro w6 ⟨hx, gB0⟩
  have s_w6 : w5.heap.size ≤ w6.heap.size := hx.size
  replace hE := hE.trans hx
  replace wo0 := wo0.ext hx
  replace wB0 := wB0.ext hx
  replace xt0 := xt0.ext hx
  replace go0 := go0.ext hx
  clear hx
  have lt_gB0 := gB0.lt
  refine (eqVolume_any o0_0 o0_1 o0_2 _ _ _ _ _ _ _ _ _ (by unfold maxLen; omega) go0.reads wo0.reads (gm0.trans wm0.symm)).mono ?_
  rintro e w7 ⟨rfl, hx⟩
  have s_w7 : w6.heap.size ≤ w7.heap.size := hx.size
  replace hE := hE.trans hx
  replace wo0 := wo0.ext hx
  replace wB0 := wB0.ext hx
  replace xt0 := xt0.ext hx
  replace go0 := go0.ext hx
  replace gB0 := gB0.ext hx
  clear hx
  have ⟨uwB0_0, uwB0_1, uwB0_2, uwB0_3⟩ := wB0
  have ulwB0 := wB0.lt
  have ⟨ugB0_0, ugB0_1, ugB0_2, ugB0_3⟩ := gB0
  have ulgB0 := gB0.lt
  go_wp2_with fail
  clear uwB0_0 uwB0_1 uwB0_2 uwB0_3 ulwB0 ugB0_0 ugB0_1 ugB0_2 ugB0_3 ulgB0
  refine (toPictureS_any A0 n0 e0 ws ht bs _ hq0 hbq.out (hr0.ext hE)).mono ?_
  rintro e w8 ⟨tg0, rfl, tt0, hx⟩
  have s_w8 : w7.heap.size ≤ w8.heap.size := hx.size
  replace hE := hE.trans hx
  replace wo0 := wo0.ext hx
  replace wB0 := wB0.ext hx
  replace xt0 := xt0.ext hx
  replace go0 := go0.ext hx
  replace gB0 := gB0.ext hx
  clear hx
  have ⟨uwB0_0, uwB0_1, uwB0_2, uwB0_3⟩ := wB0
  have ulwB0 := wB0.lt
  have ⟨ugB0_0, ugB0_1, ugB0_2, ugB0_3⟩ := gB0
  have ulgB0 := gB0.lt
  go_wp2_with fail
  clear uwB0_0 uwB0_1 uwB0_2 uwB0_3 ulwB0 ugB0_0 ugB0_1 ugB0_2 ugB0_3 ulgB0
  refine (eqPictureS_any _ _ n0 _ _ ws ht bs _ hq0 HB0.out xt0.reads tt0.reads).mono ?_
  rintro e w9 ⟨rfl, hx⟩
  clear tt0
  have s_w9 : w8.heap.size ≤ w9.heap.size := hx.size
  replace hE := hE.trans hx
  replace wo0 := wo0.ext hx
  replace wB0 := wB0.ext hx
  replace xt0 := xt0.ext hx
  replace go0 := go0.ext hx
  replace gB0 := gB0.ext hx
  clear hx
  have ⟨uwB0_0, uwB0_1, uwB0_2, uwB0_3⟩ := wB0
  have ulwB0 := wB0.lt
  have ⟨ugB0_0, ugB0_1, ugB0_2, ugB0_3⟩ := gB0
  have ulgB0 := gB0.lt
  go_wp2_with fail
  clear uwB0_0 uwB0_1 uwB0_2 uwB0_3 ulwB0 ugB0_0 ugB0_1 ugB0_2 ugB0_3 ulgB0
  refine (markPictureS_any w3.heap.size w4.heap.size xg0 n0 n0 ws ht bs _ (by rw [HTT.out]; exact hTT2) xt0).mono ?_
  rintro e w10 ⟨rfl, hgr⟩
  have s_w10 : w9.heap.size ≤ w10.heap.size := hgr.size
  replace hE := hE.turned hgr (by omega)
  replace wo0 := wo0.turned hgr (fun g hg => .inl (by have := wq0 g hg; omega))
  replace wB0 := wB0.turned hgr (.inl (by omega))
  replace go0 := go0.turned hgr (fun g hg => .inr (by have := gq0 g hg; omega))
  replace gB0 := gB0.turned hgr (.inr (by omega))
  clear hgr
  clear xt0
  obtain ⟨KK, hKK⟩ : ∃ KK, 1 + 2 * n0 + totB bs n0 = KK := ⟨_, rfl⟩
  rw [hKK]
  clear hKK
  have nk : ¬ (KK : Int) < 0 := by omega
  have ⟨uwB0_0, uwB0_1, uwB0_2, uwB0_3⟩ := wB0
  have ulwB0 := wB0.lt
  have ⟨ugB0_0, ugB0_1, ugB0_2, ugB0_3⟩ := gB0
  have ulgB0 := gB0.lt
  go_wp2_with fail
  clear uwB0_0 uwB0_1 uwB0_2 uwB0_3 ulwB0 ugB0_0 ugB0_1 ugB0_2 ugB0_3 ulgB0
  refine (eqVolume_any o0_0 o0_1 o0_2 _ _ _ _ _ _ _ _ _ (by unfold maxLen; omega) go0.reads wo0.reads (gm0.trans wm0.symm)).mono ?_
  rintro e w11 ⟨rfl, hx⟩
  have s_w11 : w10.heap.size ≤ w11.heap.size := hx.size
  replace hE := hE.trans hx
  replace wo0 := wo0.ext hx
  replace wB0 := wB0.ext hx
  replace go0 := go0.ext hx
  replace gB0 := gB0.ext hx
  clear hx
  have ⟨uwB0_0, uwB0_1, uwB0_2, uwB0_3⟩ := wB0
  have ulwB0 := wB0.lt
  have ⟨ugB0_0, ugB0_1, ugB0_2, ugB0_3⟩ := gB0
  have ulgB0 := gB0.lt
  go_wp2_with fail
  clear uwB0_0 uwB0_1 uwB0_2 uwB0_3 ulwB0 ugB0_0 ugB0_1 ugB0_2 ugB0_3 ulgB0
  refine (markVolume_i o0_0 o0_1 o0_2 gA0 gb0.length gc0 gb0 (1) _ _ (by omega) (by omega) go0).mono ?_
  rintro e w12 ⟨rfl, hm, hgr⟩
  have s_w12 : w11.heap.size ≤ w12.heap.size := hgr.size
  replace hE := Ext.grown hE hgr (fun g hg => by have := gq0 g hg; omega)
  replace wo0 := wo0.grown hgr (rows_apart wq0 gq0 (by omega))
  replace wB0 := wB0.grown hgr (row_box gq0 _ (by omega))
  replace gB0 := gB0.grown hgr (row_box gq0 _ (by omega))
  clear hgr
  clear go0
  have go0 := hm
  clear hm
  have ⟨uwB0_0, uwB0_1, uwB0_2, uwB0_3⟩ := wB0
  have ulwB0 := wB0.lt
  have ⟨ugB0_0, ugB0_1, ugB0_2, ugB0_3⟩ := gB0
  have ulgB0 := gB0.lt
  go_wp2_with fail
  clear uwB0_0 uwB0_1 uwB0_2 uwB0_3 ulwB0 ugB0_0 ugB0_1 ugB0_2 ugB0_3 ulgB0
  refine (heldVolume_i o0_0 o0_1 o0_2 gA0 gb0.length gc0 gb0.length (1) _ _ (by omega) (by omega) go0).mono ?_
  rintro e w13 ⟨rfl, hx⟩
  have s_w13 : w12.heap.size ≤ w13.heap.size := hx.size
  replace hE := hE.trans hx
  replace wo0 := wo0.ext hx
  replace wB0 := wB0.ext hx
  replace go0 := go0.ext hx
  replace gB0 := gB0.ext hx
  clear hx
  have nm : ¬ 1 + (gb0.length : Int) < 0 := by omega
  have nn : (1 + (gb0.length : Int) != 1 + (gb0.length : Int)) = false := by simp
  have ⟨uwB0_0, uwB0_1, uwB0_2, uwB0_3⟩ := wB0
  have ulwB0 := wB0.lt
  have ⟨ugB0_0, ugB0_1, ugB0_2, ugB0_3⟩ := gB0
  have ulgB0 := gB0.lt
  go_wp2_with fail
  clear uwB0_0 uwB0_1 uwB0_2 uwB0_3 ulwB0 ugB0_0 ugB0_1 ugB0_2 ugB0_3 ulgB0
  refine (toPictureS_any A0 n0 e0 ws ht bs _ hq0 hbq.out (hr0.ext hE)).mono ?_
  rintro e w14 ⟨yg0, rfl, yt0, hx⟩
  have s_w14 : w13.heap.size ≤ w14.heap.size := hx.size
  replace hE := hE.trans hx
  replace wo0 := wo0.ext hx
  replace wB0 := wB0.ext hx
  replace go0 := go0.ext hx
  replace gB0 := gB0.ext hx
  clear hx
  have ⟨uwB0_0, uwB0_1, uwB0_2, uwB0_3⟩ := wB0
  have ulwB0 := wB0.lt
  have ⟨ugB0_0, ugB0_1, ugB0_2, ugB0_3⟩ := gB0
  have ulgB0 := gB0.lt
  go_wp2_with fail
  clear uwB0_0 uwB0_1 uwB0_2 uwB0_3 ulwB0 ugB0_0 ugB0_1 ugB0_2 ugB0_3 ulgB0
  refine (HI.out _ (some ⟨yg0, 0, none⟩) hq0 yt0.reads).mono ?_
  rintro e w15 ⟨hA0, hc0, hb0, rfl, ho0, hm0, hx⟩
  have s_w15 : w14.heap.size ≤ w15.heap.size := hx.size
  replace hE := hE.trans hx
  replace wo0 := wo0.ext hx
  replace wB0 := wB0.ext hx
  replace go0 := go0.ext hx
  replace gB0 := gB0.ext hx
  replace yt0 := yt0.ext hx
  clear hx
  have hl0 : hb0.length ≤ 4096 := by have := congrArg List.length hm0; simp only [List.length_map] at this; omega
  have hq0 := ho0.row
  clear yt0
  have ⟨uwB0_0, uwB0_1, uwB0_2, uwB0_3⟩ := wB0
  have ulwB0 := wB0.lt
  have ⟨ugB0_0, ugB0_1, ugB0_2, ugB0_3⟩ := gB0
  have ulgB0 := gB0.lt
  go_wp2_with fail
  clear uwB0_0 uwB0_1 uwB0_2 uwB0_3 ulwB0 ugB0_0 ugB0_1 ugB0_2 ugB0_3 ulgB0
  refine calls_at (X := fun w' => Ext w15 w' ∧ Box4 w' (w15.heap.size) (.int .i64 o0_0) (.int .i64 o0_1) (.int .i64 o0_2) (.slice hA0 hb0.length hc0)) ?_ ?_
  · refine ⟨?_, ?_⟩
    · repeat (first | with_reducible exact Ext.refl _ |  (with_reducible refine Ext.setCell ?_ (by simp; try omega) _) | (with_reducible refine Ext.alloc ?_ _) | (with_reducible refine Ext.drewN ?_ _))
    · refine ⟨?_, ?_, ?_, ?_⟩ <;> simp [go_sem, *]
  rintro w16 ⟨hx, hB0⟩
  have s_w16 : w15.heap.size ≤ w16.heap.size := hx.size
  replace hE := hE.trans hx
  replace wo0 := wo0.ext hx
  replace wB0 := wB0.ext hx
  replace go0 := go0.ext hx
  replace gB0 := gB0.ext hx
  replace ho0 := ho0.ext hx
  clear hx
  have lt_hB0 := hB0.lt
  refine (eqVolume_any o0_0 o0_1 o0_2 _ _ _ _ _ _ _ _ _ (by unfold maxLen; omega) ho0.reads wo0.reads (hm0.trans wm0.symm)).mono ?_
  rintro e w17 ⟨rfl, hx⟩
  have s_w17 : w16.heap.size ≤ w17.heap.size := hx.size
  replace hE := hE.trans hx
  replace wo0 := wo0.ext hx
  replace wB0 := wB0.ext hx
  replace go0 := go0.ext hx
  replace gB0 := gB0.ext hx
  replace ho0 := ho0.ext hx
  replace hB0 := hB0.ext hx
  clear hx
  have ⟨uwB0_0, uwB0_1, uwB0_2, uwB0_3⟩ := wB0
  have ulwB0 := wB0.lt
  have ⟨ugB0_0, ugB0_1, ugB0_2, ugB0_3⟩ := gB0
  have ulgB0 := gB0.lt
  have ⟨uhB0_0, uhB0_1, uhB0_2, uhB0_3⟩ := hB0
  have ulhB0 := hB0.lt
  go_wp2_with fail
  clear uwB0_0 uwB0_1 uwB0_2 uwB0_3 ulwB0 ugB0_0 ugB0_1 ugB0_2 ugB0_3 ulgB0 uhB0_0 uhB0_1 uhB0_2 uhB0_3 ulhB0
  refine (heldVolume_i o0_0 o0_1 o0_2 gA0 gb0.length gc0 gb0.length (1) _ _ (by omega) (by omega) go0).mono ?_
  rintro e w18 ⟨rfl, hx⟩
  have s_w18 : w17.heap.size ≤ w18.heap.size := hx.size
  replace hE := hE.trans hx
  replace wo0 := wo0.ext hx
  replace wB0 := wB0.ext hx
  replace go0 := go0.ext hx
  replace gB0 := gB0.ext hx
  replace ho0 := ho0.ext hx
  replace hB0 := hB0.ext hx
  clear hx
  have ⟨uwB0_0, uwB0_1, uwB0_2, uwB0_3⟩ := wB0
  have ulwB0 := wB0.lt
  have ⟨ugB0_0, ugB0_1, ugB0_2, ugB0_3⟩ := gB0
  have ulgB0 := gB0.lt
  have ⟨uhB0_0, uhB0_1, uhB0_2, uhB0_3⟩ := hB0
  have ulhB0 := hB0.lt
  go_wp2
  go_ret
  exact ⟨rfl, by assumption⟩
end Go.Proofs.Ytgpobhpcbgenoaa
