/- Contract of the reference's slice of a volume. -/
import Derived.Test.YtgpobhpcbgenoaaSpecV
import Derived.Test.YtgpobhpcbgenoaaAcc2
namespace Go.Proofs.Ytgpobhpcbgenoaa
open Go.RowKit
set_option linter.unusedVariables false

set_option maxHeartbeats 8000000 in
set_option maxRecDepth 8000 in
theorem l03Slice_any (g wn hn dn gb off n c : Nat) (bs : List Nat) (en : Nat) (he : en < dn) (U : World) (hB : Box4 U g (.int .i64 wn) (.int .i64 hn) (.int .i64 dn) (.slice (some ⟨gb, off, none⟩) n c)) (hl : Lies U gb off bs) (hlen : bs.length = n) (hwd : Words bs) (hnc : n ≤ c) (hcm : c ≤ maxLen) (hv : VVol wn hn dn n) :
    Calls Try.prog 88 #[.pointer (some ⟨g, 0, none⟩), .int .i64 en] U fun e U' => ∃ A c' b, e = .returned (.agg #[.int .i64 wn, .int .i64 hn, .slice A b.length c']) ∧ OwnF U' U.heap.size 25 (.slice A b.length c') b ∧ b.map nrm = (List.range (wn * hn)).map (fun i => nrm (bs.getD (i * dn + en) 0)) ∧ Ext U U' := by
  obtain ⟨i0, hi, hz0, hz1, hz2⟩ := info_parts infoF
  obtain ⟨hnn, h0, hn2⟩ := vol_n hv
  have hgl : g < U.heap.size := hB.lt
  have hwh0 := vol_wh hv
  have hd8 : dn ≤ 8 := by have := hv.2.2.1; omega
  have hd0 : 0 < dn := by have := hv.2.1; omega
  have hb1 : 1 ≤ wn ∧ wn ≤ 24 ∧ 1 ≤ hn ∧ hn ≤ 24 := by have h1 := hv.1.1; have h2 := hv.1.2.1; have h3 := hv.1.2.2.1; have h4 := hv.1.2.2.2.1; omega
  obtain ⟨N, hN⟩ : ∃ N, wn * hn = N := ⟨_, rfl⟩
  rw [hN] at hnn hwh0 ⊢
  have hmul : IntKind.i64.wrap ((wn : Int) * (hn : Int)) = (N : Int) := by
    rw [← hN]; have : ((wn : Int) * (hn : Int)) = ((wn * hn : Nat) : Int) := by simp
    rw [this]; exact IntWalk.i64_in _ (by omega)
  have hidx : ∀ k, k < N → k * dn + dn ≤ n := by
    intro k hk
    have h1 : (k + 1) * dn ≤ N * dn := Nat.mul_le_mul_right _ hk
    rw [Nat.succ_mul, ← hnn] at h1
    exact h1
  have HIDX := Lib.hid hidx
  have HLEN := Lib.hid hlen
  have HWD := Lib.hid hwd
  unfold maxLen at hcm
  clear hv hlen hwd hN hnn hidx 
  go_enter Try.func88, Try.ntmps88
  go_wp2_with fail
  refine wp_at (X := fun w' => Ext U w' ∧ U.heap.size + 1 ≤ w'.heap.size ∧ Box4 w' g (.int .i64 wn) (.int .i64 hn) (.int .i64 dn) (.slice (some ⟨gb, off, none⟩) n c) ∧ Res3 w' U.heap.size) ⟨(Ext.refl _).alloc _, by simp, hB.ext ((Ext.refl _).alloc _), ⟨by simp [go_sem], by simp [go_sem], by simp [go_sem], by simp [go_sem], by simp [go_sem], by simp [go_sem]⟩⟩ ?_
  rintro w0 ⟨hx0, hs0, hB0, hres⟩
  have ⟨p0, p1, p2, p3⟩ := hB0
  clear hB
  refine region_wx 10 [] (by kernel_rfl) (by kernel_rfl) ?_
  simp only [List.take_succ_cons, List.take_zero, List.drop_succ_cons, List.drop_zero]
  repeat ((first | refine wx_skip rfl ?_ | refine wx_nilCheck rfl rfl _ rfl _ rfl ?_ | (refine wx_float rfl rfl _ _ _ _ _ _ _ rfl rfl rfl rfl ?_; intro r hr) | (refine wx_k rfl rfl rfl (fun K hK => ?_); go_big_quiet_op; refine hK _ ?_; clear hK K) | (refine wx_alloc rfl rfl 58 rfl #[.int .i64 0, .int .i64 0, .slice none 0 0] (fun Z => by simp [Instr.alloc, go_sem]) ?_; intro Va hVa)); (try simp only [Act.put, List.setIfInBounds_toArray, List.set_cons_zero, List.set_cons_succ]); (try simp only [List.tail_nil]))
  refine wx_nil (fun W hW hF => ?_)
  have hAW : Ext (Va.alloc (.cells #[.int .i64 0, .int .i64 0, .slice none 0 0] 58)) W := hF 9
  have hAg := hVa.size
  have rB := (⟨by simp [go_sem], by simp [go_sem], by simp [go_sem], by simp [go_sem], by simp [go_sem], by simp [go_sem]⟩ : Res3 (Va.alloc (.cells #[.int .i64 0, .int .i64 0, .slice none 0 0] 58)) Va.heap.size).ext hAW
  have rH : W.heap[Va.heap.size]? = some (.cells #[.int .i64 0, .int .i64 0, .slice none 0 0] 58 (0, 0)) := (hAW.block _ (by simp)).trans (heap_alloc_new _ _)
  clear hAW
  generalize Va.heap.size = go at hAg rB rH ⊢
  have hgo := rB.lt
  clear hF p0 p1 p2 p3 hVa
  have ⟨r0, r1, r2, rf0, rf1, rf2⟩ := rB
  go_wp2_with fail
  go_loopw [6] (fun y wr => ∃ (k : Nat) (A : Option Addr) (c' : Nat) (b : List Nat), k ≤ N ∧ y = .int .i64 k ∧ Acc2 w0 wr w0.heap.size 25 58 go 2 A c' b ((List.range k).map (fun i => nrm (bs.getD (i * dn + en) 0))) ∧ wr.cell? ⟨go, 0, none⟩ = some (.int .i64 wn) ∧ wr.cell? ⟨go, 1, none⟩ = some (.int .i64 hn)) (fun y _ => N - (intOf y).toNat)
  case atStart =>
    refine ⟨0, none, 0, [], Nat.zero_le _, rfl, ⟨OwnF.nil _ _ _, ?_, by simp [go_sem, *], by simp [go_sem, *], rfl, ?_, Nat.le_refl _, hAg⟩, by simp [go_sem, *], by simp [go_sem, *]⟩
    · repeat (first | with_reducible exact ⟨_, _, rH⟩ | with_reducible refine blk_set ?_)
    · repeat (first | with_reducible exact hW | (with_reducible refine Ext.setCell ?_ (by dsimp only; omega) _))
  case round =>
    clear r0 r1 r2 rf0 rf1 rf2 rB rH hgo hW
    obtain ⟨k, A, c', b, hk, rfl, hacc, o0, o1⟩ := hrel
    have ⟨p0, p1, p2, p3⟩ := hB0.ext hacc.ext
    have hU := hx0.trans hacc.ext
    have hl2 := hl.ext hU
    have hhdr := hacc.hdr
    by_cases hlt : k < N
    · go_wp2_with fail
      refine region_wx0 [] (by kernel_rfl) (by kernel_rfl) ?_
      repeat ((first | refine wx_skip rfl ?_ | refine wx_nilCheck rfl rfl _ rfl _ rfl ?_ | (refine wx_float rfl rfl _ _ _ _ _ _ _ rfl rfl rfl rfl ?_; intro r hr) | (refine wx_k rfl rfl rfl (fun K hK => ?_); go_big_quiet_op; refine hK _ ?_; clear hK K) ); (try simp only [Act.put, List.setIfInBounds_toArray, List.set_cons_zero, List.set_cons_succ]); (try simp only [List.tail_nil]))
      refine wx_nil (fun W hW hF => ?_)
      replace p0 := cell_ext p0 hW
      replace p1 := cell_ext p1 hW
      replace p2 := cell_ext p2 hW
      replace p3 := cell_ext p3 hW
      replace o0 := cell_ext o0 hW
      replace o1 := cell_ext o1 hW
      replace hl2 := hl2.ext hW
      replace hU := hU.trans hW
      replace hacc := hacc.later hW
      replace hhdr := hacc.hdr
      clear hW hF
      obtain ⟨W1, rfl⟩ : ∃ w', w' = W := ⟨W, rfl⟩
      obtain ⟨m, hm⟩ : ∃ m, k * dn = m := ⟨_, rfl⟩
      have hmi := HIDX.out k hlt
      rw [hm] at hmi
      have hD : IntKind.i64.wrap ((k : Int) * (dn : Int)) = (m : Int) := by
        rw [show (k : Int) * (dn : Int) = (m : Int) by rw [← hm]; simp]; exact wrap_small _ (by omega) (by omega)
      have hD2 : IntKind.i64.wrap ((m : Int) + (en : Int)) = (m : Int) + (en : Int) := wrap_small _ (by omega) (by omega)
      have j0 : (0 : Int) ≤ (m : Int) + (en : Int) := by omega
      have j1 : (m : Int) + (en : Int) < (n : Int) := by omega
      have hck := hl2 (m + en) (by have := HLEN.out; omega)
      obtain ⟨rr, hrr⟩ : ∃ r, bs.getD (m + en) 0 = r := ⟨_, rfl⟩
      rw [hrr] at hck
      have HRR : Hid (nrm rr = nrm (bs.getD (k * dn + en) 0)) := Lib.hid (by rw [hm, hrr])
      clear hm hrr
      go_wp2_with fail
      refine region_wx 17 [] (by kernel_rfl) (by kernel_rfl) ?_
      simp only [List.take_succ_cons, List.take_zero, List.drop_succ_cons, List.drop_zero]
      repeat ((first | refine wx_skip rfl ?_ | refine wx_nilCheck rfl rfl _ rfl _ rfl ?_ | (refine wx_float rfl rfl _ _ _ _ _ _ _ rfl rfl rfl rfl ?_; intro r hr) | (refine wx_k rfl rfl rfl (fun K hK => ?_); go_big_quiet_op; refine hK _ ?_; clear hK K) | (refine wx_bs rfl rfl _ _ _ rfl _ rfl (fun Z => bs1 _ Z) ?_; intro H V2 hV2 hcell)); (try simp only [Act.put, List.setIfInBounds_toArray, List.set_cons_zero, List.set_cons_succ]); (try simp only [List.tail_nil]))
      refine wx_nil (fun W hW hF => ?_)
      have hVW : Ext V2 W := hF 16
      have hcell1 := cell_ext hcell hVW
      have hown1 := hacc.own.ext hW
      have hcl := hacc.len
      simp only [List.length_map, List.length_range] at hcl
      have hsz1 := hacc.ext.size
      have hsz2 := hW.size
      clear hF hcell hVW hV2 p0 p1 p2 p3
      refine wpList_append_own _ rfl _ _ _ rfl w0.heap.size 25 i0 (.float .f32 0) 1 4 Try.underlying22 hi hz0 hz1 hz2 rfl (by omega) (.slice A b.length c') b.length (b.map fl) (by rfl) hown1 ⟨H, 0, none⟩ 1 1 [fl rr] (by rfl) rfl (one_new hcell1) (one_word _) (by unfold maxLen; omega) (by omega) (by omega) ?_
      intro v' w2 ho2 hg2 _
      obtain ⟨A', c2, b', rfl, hacc', ⟨hh2, hf2⟩, hold, holdf⟩ := hacc.push (by decide) hW (rs := [rr]) (Xs := [(fun i => nrm (bs.getD (i * dn + en) 0)) k]) ho2 hg2 (by exact congrArg (fun z => [z]) HRR.out)
      have n0 := hold _ _ _ o0 (hacc.ne (by decide)) (by simp)
      have n1 := hold _ _ _ o1 (hacc.ne (by decide)) (by simp)
      rw [show (List.range k).map (fun i => nrm (bs.getD (i * dn + en) 0)) ++ [(fun i => nrm (bs.getD (i * dn + en) 0)) k] = (List.range (k + 1)).map (fun i => nrm (bs.getD (i * dn + en) 0)) by rw [List.range_succ, List.map_append]; rfl] at hacc'
      clear hold holdf hown1 hhdr hacc ho2 hg2 hW o0 o1 hl2 hU hcell1
      go_wp2
      go_roundw
      case rel => exact ⟨k + 1, A', c2, b', by omega, by go_num, hacc', n0, n1⟩
      case measure => simp [intOf]; omega
    · have e1 : k = N := by omega
      go_wp2_with fail
      refine region_wx0 [] (by kernel_rfl) (by kernel_rfl) ?_
      repeat ((first | refine wx_skip rfl ?_ | refine wx_nilCheck rfl rfl _ rfl _ rfl ?_ | (refine wx_float rfl rfl _ _ _ _ _ _ _ rfl rfl rfl rfl ?_; intro r hr) | (refine wx_k rfl rfl rfl (fun K hK => ?_); go_big_quiet_op; refine hK _ ?_; clear hK K) ); (try simp only [Act.put, List.setIfInBounds_toArray, List.set_cons_zero, List.set_cons_succ]); (try simp only [List.tail_nil]))
      refine wx_nil (fun W hW hF => ?_)
      have ⟨c0, c1, c2, f0, f1, f2⟩ := (hres.ext hacc.ext).ext hW
      replace o0 := cell_ext o0 hW
      replace o1 := cell_ext o1 hW
      have hhdr2 := cell_ext hhdr hW
      have hE := hU.trans hW
      have hown := hacc.own.ext hW
      have hlike := hacc.like
      rw [e1] at hlike
      clear hacc hhdr hW hF p0 p1 p2 p3 hl2 hU
      go_wp2
      refine bodyPost_ret (v := .agg #[.int .i64 wn, .int .i64 hn, .slice A b.length c']) (by simp [results, Try.results88, go_sem, *]) rfl ⟨A, c', b, rfl, ?_, hlike, ?_⟩
      · refine OwnF.weaken (base := w0.heap.size) ?_ (by omega)
        repeat (first | (with_reducible exact hown) | (with_reducible refine OwnF.set_below ?_ (by dsimp only; omega) _))
      · repeat (first | (with_reducible exact hE) | (with_reducible refine Ext.setCell ?_ (by dsimp only; omega) _))
end Go.Proofs.Ytgpobhpcbgenoaa
