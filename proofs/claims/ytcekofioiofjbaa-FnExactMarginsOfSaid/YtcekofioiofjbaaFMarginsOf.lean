/- The law on MarginsOf holds. -/
import Derived.Test.YtcekofioiofjbaaSpecV
import Derived.Test.YtcekofioiofjbaaWin2
import Derived.Test.YtcekofioiofjbaaInf
import Derived.Test.YtcekofioiofjbaaAcc2
import Derived.Test.YtcekofioiofjbaaCMarginsOf
namespace Go.Proofs.Ytcekofioiofjbaa
open Go.RowKit
set_option linter.unusedVariables false

theorem cell_words (wn hn dn gb off n : Nat) (bs : List Nat) (x y : Nat) (U : World) (hl : Lies U gb off bs) (hlen : bs.length = n) (hv : VVol wn hn dn n) (hx : x < wn) (hy : y < hn) :
    ∀ i, i < dn → U.cell? ⟨gb, off + cellN wn (x : Int) (y : Int) * dn + i, none⟩ = some (fl (bs.getD (cellN wn (x : Int) (y : Int) * dn + i) 0)) := by
  intro i hi
  have hkn := cell_k hv (⟨by omega, by omega⟩ : 0 ≤ (x : Int) ∧ (x : Int) ≤ (wn : Int) - 1) (⟨by omega, by omega⟩ : 0 ≤ (y : Int) ∧ (y : Int) ≤ (hn : Int) - 1)
  have := hl (cellN wn (x : Int) (y : Int) * dn + i) (by omega)
  rw [← Nat.add_assoc] at this
  exact this
/-- What the next cost is more than the least one. -/
def marX (F : Nat → Nat) (n : Nat) : Nat :=
  if winTo F (-1) n < 0 ∨ winTo F (winTo F (-1) n) n < 0 then infW else fop .sub (F (winTo F (winTo F (-1) n) n).toNat) (F (winTo F (-1) n).toNat)
set_option maxHeartbeats 1000000 in
theorem margin_any (gb off n c : Nat) (F : Nat → Nat) (U : World) (hn : n ≤ 8) (hF : ∀ i, F i < 4294967296) (hl : ∀ i, i < n → U.cell? ⟨gb, off + i, none⟩ = some (fl (F i))) :
    Calls Try.prog 56 #[.slice (some ⟨gb, off, none⟩) n c] U fun e U' => ∃ r, e = .returned (.float .f32 r) ∧ Is r (marX F n) ∧ Ext U U' := by
  have hw1 := winner_any gb off n c F (-1) U hn hl
  rcases winTo_range F (-1) n with ha | ⟨an, ha, han⟩
  · have hL : marX F n = infW := by unfold marX; rw [ha]; simp
    rw [hL]
    rw [ha] at hw1
    have HW1 := Lib.hid hw1
    clear hl hL ha hw1
    go_enter Try.func56, Try.ntmps56
    go_wp2_with (first | (go_at_call 105; refine HW1.out.mono ?_; rintro e w' ⟨rfl, rfl⟩) | (go_at_call 106; refine (implInf_any _).mono ?_; rintro e w' ⟨rfl, rfl⟩))
    go_ret
    exact ⟨_, rfl, inf_is, Ext.refl _⟩
  · have hw2 := winner_any gb off n c F (an : Int) U hn hl
    rw [ha] at hw1
    have hna : ¬ (an : Int) < 0 := by omega
    rcases winTo_range F (an : Int) n with hb | ⟨bn, hb, hbn⟩
    · have hL : marX F n = infW := by unfold marX; rw [ha, hb]; simp
      rw [hL]
      rw [hb] at hw2
      have HW1 := Lib.hid hw1
      have HW2 := Lib.hid hw2
      clear hl hL ha hb hw1 hw2
      go_enter Try.func56, Try.ntmps56
      go_wp2_with (first | (go_at_call 105; (first | with_reducible refine HW1.out.mono ?_ | with_reducible refine HW2.out.mono ?_); rintro e w' ⟨rfl, rfl⟩) | (go_at_call 106; refine (implInf_any _).mono ?_; rintro e w' ⟨rfl, rfl⟩))
      go_ret
      exact ⟨_, rfl, inf_is, Ext.refl _⟩
    · have hL : marX F n = fop .sub (F bn) (F an) := by unfold marX; rw [ha, hb, if_neg (by omega)]; rfl
      rw [hL]
      rw [hb] at hw2
      have HW1 := Lib.hid hw1
      have HW2 := Lib.hid hw2
      have hca := hl an han
      have hcb := hl bn hbn
      have hnb : ¬ (bn : Int) < 0 := by omega
      have a0 : (0 : Int) ≤ (an : Int) := by omega
      have a1 : (an : Int) < (n : Int) := by omega
      have b0 : (0 : Int) ≤ (bn : Int) := by omega
      have b1 : (bn : Int) < (n : Int) := by omega
      generalize F an = u at hca ⊢
      generalize F bn = v at hcb ⊢
      clear hl hL ha hb hw1 hw2
      go_enter Try.func56, Try.ntmps56
      go_wp2_with (go_at_call 105; (first | with_reducible refine HW1.out.mono ?_ | with_reducible refine HW2.out.mono ?_); rintro e w' ⟨rfl, rfl⟩)
      refine region_wx0 [] (by kernel_rfl) (by kernel_rfl) ?_
      repeat ((first | refine wx_skip rfl ?_ | refine wx_nilCheck rfl rfl _ rfl _ rfl ?_ | (refine wx_float rfl rfl _ _ _ _ _ _ _ rfl rfl rfl rfl ?_; intro r hr) | (refine wx_k rfl rfl rfl (fun K hK => ?_); go_big_quiet_op; refine hK _ ?_; clear hK K) ); (try simp only [Act.put, List.setIfInBounds_toArray, List.set_cons_zero, List.set_cons_succ]); (try simp only [List.tail_nil]))
      refine wx_nil (fun W hW hF => ?_)
      go_wp2
      go_ret
      exact ⟨_, rfl, by assumption, hW⟩
set_option maxHeartbeats 2000000 in
theorem l03Margin_any (g wn hn dn gb off n c : Nat) (bs : List Nat) (i : Nat) (U : World) (hB : Box4 U g (.int .i64 wn) (.int .i64 hn) (.int .i64 dn) (.slice (some ⟨gb, off, none⟩) n c)) (hl : Lies U gb off bs) (hlen : bs.length = n) (hcm : n ≤ 2048) (hin : i * dn + dn ≤ n) (hd8 : dn ≤ 8) :
    Calls Try.prog 53 #[.pointer (some ⟨g, 0, none⟩), .int .i64 i] U fun e U' => ∃ r, e = .returned (.float .f32 r) ∧ Is r (marX (fun e => bs.getD (i * dn + e) 0) dn) ∧ Ext U U' := by
  have hw1 := l03Winner_any g wn hn dn gb off n c bs i (-1) U hB hl hlen hcm hin hd8
  obtain ⟨F, hF0⟩ : ∃ F : Nat → Nat, F = fun e => bs.getD (i * dn + e) 0 := ⟨_, rfl⟩
  rw [← hF0] at hw1 ⊢
  rcases winTo_range F (-1) dn with ha | ⟨an, ha, han⟩
  · have hL : marX F dn = infW := by unfold marX; rw [ha]; simp
    rw [hL]
    rw [ha] at hw1
    have HW1 := Lib.hid hw1
    clear hl hL ha hw1 hF0
    go_enter Try.func53, Try.ntmps53
    go_wp2_with fail
    refine HW1.out.mono ?_
    rintro e w1 ⟨rfl, hx⟩
    go_wp2_with (go_at_call 103; refine (specInf_any _).mono ?_; rintro e w' ⟨rfl, rfl⟩)
    go_ret
    exact ⟨_, rfl, inf_is, hx⟩
  · have HW2 := Lib.hid (fun (W : World) (hx : Ext U W) => (by rw [hF0]; exact l03Winner_any g wn hn dn gb off n c bs i (an : Int) W (hB.ext hx) (hl.ext hx) hlen hcm hin hd8 : Calls Try.prog 102 #[.pointer (some ⟨g, 0, none⟩), .int .i64 i, .int .i64 (an : Int)] W fun e U' => e = .returned (.int .i64 (winTo F (an : Int) dn)) ∧ Ext W U'))
    rw [ha] at hw1
    have hna : ¬ (an : Int) < 0 := by omega
    rcases winTo_range F (an : Int) dn with hb | ⟨bn, hb, hbn⟩
    · have hL : marX F dn = infW := by unfold marX; rw [ha, hb]; simp
      rw [hL]
      rw [hb] at HW2
      have HW1 := Lib.hid hw1
      clear hl hL ha hb hw1 hF0
      go_enter Try.func53, Try.ntmps53
      go_wp2_with fail
      refine HW1.out.mono ?_
      rintro e w1 ⟨rfl, hx⟩
      go_wp2_with fail
      refine (HW2.out _ hx).mono ?_
      rintro e w2 ⟨rfl, hx2⟩
      go_wp2_with (go_at_call 103; refine (specInf_any _).mono ?_; rintro e w' ⟨rfl, rfl⟩)
      go_ret
      exact ⟨_, rfl, inf_is, hx.trans hx2⟩
    · have hL : marX F dn = fop .sub (F bn) (F an) := by unfold marX; rw [ha, hb, if_neg (by omega)]; rfl
      rw [hL]
      rw [hb] at HW2
      have HW1 := Lib.hid hw1
      obtain ⟨m, hm⟩ : ∃ m, i * dn = m := ⟨_, rfl⟩
      have hD : IntKind.i64.wrap ((i : Int) * (dn : Int)) = (m : Int) := by
        rw [show (i : Int) * (dn : Int) = (m : Int) by rw [← hm]; simp]; exact wrap_small _ (by omega) (by omega)
      rw [hm] at hin hF0
      have hca := fun (W : World) (hx : Ext U W) => (by have := (hl.ext hx) (m + an) (by omega); rw [hF0]; exact this : W.cell? ⟨gb, off + (m + an), none⟩ = some (fl (F an)))
      have hcb := fun (W : World) (hx : Ext U W) => (by have := (hl.ext hx) (m + bn) (by omega); rw [hF0]; exact this : W.cell? ⟨gb, off + (m + bn), none⟩ = some (fl (F bn)))
      generalize F an = u at hca ⊢
      generalize F bn = v at hcb ⊢
      have HCA := Lib.hid hca
      have HCB := Lib.hid hcb
      have hD2 : IntKind.i64.wrap ((m : Int) + (an : Int)) = (m : Int) + (an : Int) := wrap_small _ (by omega) (by omega)
      have hD3 : IntKind.i64.wrap ((m : Int) + (bn : Int)) = (m : Int) + (bn : Int) := wrap_small _ (by omega) (by omega)
      have hnb : ¬ (bn : Int) < 0 := by omega
      have a0 : (0 : Int) ≤ (m : Int) + (an : Int) := by omega
      have a1 : (m : Int) + (an : Int) < (n : Int) := by omega
      have b0 : (0 : Int) ≤ (m : Int) + (bn : Int) := by omega
      have b1 : (m : Int) + (bn : Int) < (n : Int) := by omega
      clear hl hL ha hb hw1 hF0 hm hca hcb
      go_enter Try.func53, Try.ntmps53
      go_wp2_with fail
      refine HW1.out.mono ?_
      rintro e w1 ⟨rfl, hx⟩
      go_wp2_with fail
      refine (HW2.out _ hx).mono ?_
      rintro e w2 ⟨rfl, hx2⟩
      have hE := hx.trans hx2
      have ⟨p0, p1, p2, p3⟩ := hB.ext hE
      have hc1 := HCA.out _ hE
      have hc2 := HCB.out _ hE
      clear hx hx2 hB
      go_wp2_with fail
      refine region_wx0 [] (by kernel_rfl) (by kernel_rfl) ?_
      repeat ((first | refine wx_skip rfl ?_ | refine wx_nilCheck rfl rfl _ rfl _ rfl ?_ | (refine wx_float rfl rfl _ _ _ _ _ _ _ rfl rfl rfl rfl ?_; intro r hr) | (refine wx_k rfl rfl rfl (fun K hK => ?_); go_big_quiet_op; refine hK _ ?_; clear hK K) ); (try simp only [Act.put, List.setIfInBounds_toArray, List.set_cons_zero, List.set_cons_succ]); (try simp only [List.tail_nil]))
      refine wx_nil (fun W hW hF => ?_)
      go_wp2
      go_ret
      exact ⟨_, rfl, by assumption, hE.trans hW⟩
theorem implMarginsOf_of (z0 z1 z2 : Int) (A0 : Option Addr) (n0 m0 : Nat) (o0 o1 : Int) (ok : Bool) (L : List Nat) (U : World)
    (hcall : ∀ w0, Ext U w0 → Calls Try.prog 55 #[.agg #[.int .i64 z0, .int .i64 z1, .int .i64 z2, .slice A0 n0 m0], .func (.func 56) #[] #[]] w0 fun e U' => ∃ A c' b, e = .returned (.tuple #[.agg #[.int .i64 o0, .int .i64 o1, .slice A b.length c'], .bool ok]) ∧ OwnF U' w0.heap.size 37 (.slice A b.length c') b ∧ b.map nrm = L ∧ Ext w0 U') :
    Calls Try.prog 17 #[.agg #[.int .i64 z0, .int .i64 z1, .int .i64 z2, .slice A0 n0 m0]] U fun e U' => ∃ A c' b, e = .returned (.tuple #[.agg #[.int .i64 o0, .int .i64 o1, .slice A b.length c'], .bool ok]) ∧ OwnF U' U.heap.size 37 (.slice A b.length c') b ∧ b.map nrm = L ∧ Ext U U' := by
  have HK := Lib.hid hcall
  clear hcall
  go_enter Try.func17, Try.ntmps17
  go_wp2_with fail
  refine calls_at (X := fun w' => Ext U w' ∧ Res3 w' (U.heap.size + 1) ∧ U.heap.size + 1 + 1 ≤ w'.heap.size) ⟨((Ext.refl _).alloc _).alloc _, ⟨by simp [go_sem], by simp [go_sem], by simp [go_sem], by simp [go_sem], by simp [go_sem], by simp [go_sem]⟩, by simp⟩ ?_
  rintro w0 ⟨hx0, hr0, hs0⟩
  refine (HK.out w0 hx0).mono ?_
  rintro e w1 ⟨A, c', b, rfl, ho, hm, hx⟩
  have ⟨c0, c1, c2, f0, f1, f2⟩ := hr0.ext hx
  have hE2 := hx0.trans hx
  clear hx hx0 hr0
  go_wp2
  refine bodyPost_ret (v := .tuple #[.agg #[.int .i64 o0, .int .i64 o1, .slice A b.length c'], .bool ok]) (by simp [results, Try.results17, go_sem, *]) rfl ⟨A, c', b, rfl, ?_, hm, ?_⟩
  · refine OwnF.weaken (base := w0.heap.size) ?_ (by omega)
    repeat (first | (with_reducible exact ho) | (with_reducible refine OwnF.set_below ?_ (by dsimp only; omega) _))
  · repeat (first | (with_reducible exact hE2) | (with_reducible refine Ext.setCell ?_ (by dsimp only; omega) _))
theorem specMarginsOf_no (z0 z1 z2 : Int) (A0 : Option Addr) (n0 m0 : Nat)  (hn0 : n0 ≤ maxLen) (hv : ¬ VVol z0 z1 z2 n0) (U : World) :
    Calls Try.prog 15 #[.agg #[.int .i64 z0, .int .i64 z1, .int .i64 z2, .slice A0 n0 m0]] U fun e U' => ∃ A c' b, e = .returned (.tuple #[.agg #[.int .i64 0, .int .i64 0, .slice A b.length c'], .bool false]) ∧ OwnF U' U.heap.size 37 (.slice A b.length c') b ∧ b.map nrm = [] ∧ Ext U U' := by
  have HV := Lib.hid hv
  clear hv
  go_enter Try.func15, Try.ntmps15
  go_wp2_with fail
  refine calls_at (X := fun w' => Ext U w' ∧ Box4 w' U.heap.size (.int .i64 z0) (.int .i64 z1) (.int .i64 z2) (.slice A0 n0 m0) ∧ Res3 w' (U.heap.size + 1) ∧ U.heap.size + 1 + 1 ≤ w'.heap.size) ⟨((Ext.refl _).alloc _).alloc _, ⟨by simp [go_sem], by simp [go_sem], by simp [go_sem], by simp [go_sem]⟩, ⟨by simp [go_sem], by simp [go_sem], by simp [go_sem], by simp [go_sem], by simp [go_sem], by simp [go_sem]⟩, by simp⟩ ?_
  rintro w0 ⟨hx0, hb0, hr0, hs0⟩
  refine (l03Is_not _ _ _ _ A0 n0 m0 _ hn0 hb0.1 hb0.2.1 hb0.2.2.1 hb0.2.2.2 HV.out).mono ?_
  rintro e w1 ⟨rfl, hx⟩
  have ⟨c0, c1, c2, f0, f1, f2⟩ := hr0.ext hx
  have hE := hx0.trans hx
  clear hx hx0 hb0 hr0
  go_wp2
  refine bodyPost_ret (v := .tuple #[.agg #[.int .i64 0, .int .i64 0, .slice none 0 0], .bool false]) (by simp [results, Try.results15, go_sem, *]) rfl ⟨none, 0, [], rfl, OwnF.nil _ _ _, rfl, ?_⟩
  repeat (first | (with_reducible exact hE) | (with_reducible refine Ext.setCell ?_ (by dsimp only; omega) _))
set_option maxHeartbeats 8000000 in
set_option maxRecDepth 8000 in
theorem specMarginsOf_yes (wn hn dn gb off n c : Nat) (bs : List Nat) (U : World) (hl : Lies U gb off bs) (hlen : bs.length = n) (hwd : Words bs) (hnc : n ≤ c) (hcm : c ≤ maxLen) (hv : VVol wn hn dn n) :
    Calls Try.prog 15 #[.agg #[.int .i64 wn, .int .i64 hn, .int .i64 dn, .slice (some ⟨gb, off, none⟩) n c]] U fun e U' => ∃ A c' b, e = .returned (.tuple #[.agg #[.int .i64 wn, .int .i64 hn, .slice A b.length c'], .bool true]) ∧ OwnF U' U.heap.size 37 (.slice A b.length c') b ∧ b.map nrm = (List.range (wn * hn)).map (fun i => marX (fun e => bs.getD (i * dn + e) 0) dn) ∧ Ext U U' := by
  obtain ⟨i0, hi, hz0, hz1, hz2⟩ := info_parts infoF
  obtain ⟨hnn, h0, hn2⟩ := vol_n hv
  have hwh0 := vol_wh hv
  have hd8 : dn ≤ 8 := by have := hv.2.2.1; omega
  obtain ⟨N, hN⟩ : ∃ N, wn * hn = N := ⟨_, rfl⟩
  rw [hN] at hnn hwh0 ⊢
  have hmul : IntKind.i64.wrap ((wn : Int) * (hn : Int)) = (N : Int) := by
    rw [← hN]; have : ((wn : Int) * (hn : Int)) = ((wn * hn : Nat) : Int) := by simp
    rw [this]; exact IntWalk.i64_in _ (by omega)
  have hidx : ∀ k, k < N → k * dn + dn ≤ n := by
    intro k hk
    have h1 : (k + 1) * dn ≤ N * dn := Nat.mul_le_mul_right _ hk
    rw [Nat.succ_mul, ← hnn] at h1
    exact h1
  have HIDX := Lib.hid hidx
  have HV := Lib.hid hv
  have HLEN := Lib.hid hlen
  have hcn := Nat.le_trans hnc hcm
  unfold maxLen at hcm
  clear hv hlen hwd hN hnn hidx
  go_enter Try.func15, Try.ntmps15
  go_wp2_with fail
  refine calls_at (X := fun w' => Ext U w' ∧ Box4 w' U.heap.size (.int .i64 wn) (.int .i64 hn) (.int .i64 dn) (.slice (some ⟨gb, off, none⟩) n c) ∧ Res3 w' (U.heap.size + 1) ∧ U.heap.size + 1 + 1 ≤ w'.heap.size) ⟨((Ext.refl _).alloc _).alloc _, ⟨by simp [go_sem], by simp [go_sem], by simp [go_sem], by simp [go_sem]⟩, ⟨by simp [go_sem], by simp [go_sem], by simp [go_sem], by simp [go_sem], by simp [go_sem], by simp [go_sem]⟩, by simp⟩ ?_
  rintro w0 ⟨hx0, hb0, hr0, hs0⟩
  refine (l03Is_yes _ wn hn dn _ n c _ hcn hb0.1 hb0.2.1 hb0.2.2.1 hb0.2.2.2 HV.out).mono ?_
  rintro e w1 ⟨rfl, hx⟩
  have hb1 := hb0.ext hx
  have hr1 := hr0.ext hx
  have hE := hx0.trans hx
  have hs1 := Nat.le_trans hs0 hx.size
  have hl1 := hl.ext hE
  clear hx hx0 hb0 hr0 hs0 hl
  have ⟨p0, p1, p2, p3⟩ := hb1
  go_wp2_with fail
  clear p0 p1 p2 p3
  go_loopw [5] (fun y wr => ∃ (k : Nat) (A : Option Addr) (c' : Nat) (b : List Nat), k ≤ N ∧ y = .int .i64 k ∧ Acc2 w1 wr w1.heap.size 37 27 w1.heap.size 2 A c' b ((List.range k).map (fun i => marX (fun e => bs.getD (i * dn + e) 0) dn)) ∧ wr.cell? ⟨w1.heap.size, 0, none⟩ = some (.int .i64 wn) ∧ wr.cell? ⟨w1.heap.size, 1, none⟩ = some (.int .i64 hn)) (fun y _ => N - (intOf y).toNat)
  case atStart =>
    refine ⟨0, none, 0, [], Nat.zero_le _, rfl, ⟨OwnF.nil _ _ _, ?_, by simp [go_sem], by simp [go_sem], rfl, ?_, Nat.le_refl _, Nat.le_refl _⟩, by simp [go_sem], by simp [go_sem]⟩
    · repeat (first | with_reducible exact ⟨_, _, heap_alloc_new _ _⟩ | with_reducible refine blk_set ?_)
    · repeat (first | with_reducible exact Ext.refl _ | (with_reducible refine Ext.setCell ?_ (by dsimp only; omega) _) | (with_reducible refine Ext.alloc ?_ _))
  case round =>
    obtain ⟨k, A, c', b, hk, rfl, hacc, o0, o1⟩ := hrel
    have hb2 := hb1.ext hacc.ext
    have ⟨p0, p1, p2, p3⟩ := hb2
    have hl2 := hl1.ext hacc.ext
    have hhdr := hacc.hdr
    by_cases hlt : k < N
    · have hmi := HIDX.out k hlt
      have HWC := Lib.hid (fun (Z : World) (hz : Ext wr Z) => l03Margin_any U.heap.size wn hn dn gb off n c bs k Z (hb2.ext hz) (hl2.ext hz) HLEN.out hn2 hmi hd8)
      go_wp2_with fail
      refine region_wx 5 [none, none, none, some (fun u U' => ∃ r, u = .float .f32 r ∧ Is r (marX (fun e => bs.getD (k * dn + e) 0) dn))] (by kernel_rfl) (by kernel_rfl) ?_
      simp only [List.take_succ_cons, List.take_zero, List.drop_succ_cons, List.drop_zero]
      repeat ((first | refine wx_skip rfl ?_ | refine wx_nilCheck rfl rfl _ rfl _ rfl ?_ | (refine wx_float rfl rfl _ _ _ _ _ _ _ rfl rfl rfl rfl ?_; intro r hr) | (refine wx_k rfl rfl rfl (fun K hK => ?_); go_big_quiet_op; refine hK _ ?_; clear hK K) | (refine wx_callR _ rfl rfl 53 _ _ rfl (by kernel_rfl) (fun Wc hWc hFc => ?_) ?_; (· go_simp; refine (HWC.out Wc hWc).mono ?_; rintro e w' ⟨r, rfl, hr, hx⟩; exact ⟨_, rfl, ⟨r, rfl, hr⟩, hx⟩); rintro u V hV ⟨r, rfl, hr⟩) | (refine wx_bs rfl rfl _ _ _ rfl _ rfl (fun Z => bs1 _ Z) ?_; intro H V2 hV2 hcell)); (try simp only [Act.put, List.setIfInBounds_toArray, List.set_cons_zero, List.set_cons_succ]); (try simp only [List.tail_cons]))
      refine wx_nil (fun W hW hF => ?_)
      have hVW : Ext V2 W := hF 4
      have hcell1 := cell_ext hcell hVW
      have hown1 := hacc.own.ext hW
      have hcl := hacc.len
      simp only [List.length_map, List.length_range] at hcl
      have hsz1 := hacc.ext.size
      have hsz2 := hW.size
      clear hF hcell hVW hV2 hV p0 p1 p2 p3
      refine wpList_append_own _ rfl _ _ _ rfl w1.heap.size 37 i0 (.float .f32 0) 1 4 Try.underlying22 hi hz0 hz1 hz2 rfl (by omega) (.slice A b.length c') b.length (b.map fl) (by rfl) hown1 ⟨H, 0, none⟩ 1 1 [fl r] (by rfl) rfl (one_new hcell1) (one_word _) (by unfold maxLen; omega) (by omega) (by omega) ?_
      intro v' w2 ho2 hg2 _
      obtain ⟨A', c2, b', rfl, hacc', ⟨hh2, hf2⟩, hold, holdf⟩ := hacc.push (by decide) hW (rs := [r]) (Xs := [(fun i => marX (fun e => bs.getD (i * dn + e) 0) dn) k]) ho2 hg2 (by exact congrArg (fun z => [z]) hr.2)
      have n0 := hold _ _ _ o0 (hacc.ne (by decide)) (by simp)
      have n1 := hold _ _ _ o1 (hacc.ne (by decide)) (by simp)
      rw [show (List.range k).map (fun i => marX (fun e => bs.getD (i * dn + e) 0) dn) ++ [(fun i => marX (fun e => bs.getD (i * dn + e) 0) dn) k] = (List.range (k + 1)).map (fun i => marX (fun e => bs.getD (i * dn + e) 0) dn) by rw [List.range_succ, List.map_append]; rfl] at hacc'
      clear hold holdf hown1 hhdr hacc ho2 hg2 hW o0 o1 hl2 hb2 hcell1 hr HWC
      go_wp2
      go_roundw
      case rel => exact ⟨k + 1, A', c2, b', by omega, by go_num, hacc', n0, n1⟩
      case measure => simp [intOf]; omega
    · have e1 : k = N := by omega
      have ⟨c0, c1, c2, f0, f1, f2⟩ := hr1.ext hacc.ext
      have hE2 := hE.trans hacc.ext
      have hown := hacc.own
      have hlike := hacc.like
      rw [e1] at hlike
      clear hacc hl2 hb2
      go_wp2
      refine bodyPost_ret (v := .tuple #[.agg #[.int .i64 wn, .int .i64 hn, .slice A b.length c'], .bool true]) (by simp [results, Try.results15, go_sem, *]) rfl ⟨A, c', b, rfl, ?_, hlike, ?_⟩
      · refine OwnF.weaken (base := w1.heap.size) ?_ (by omega)
        repeat (first | (with_reducible exact hown) | (with_reducible refine OwnF.set_below ?_ (by dsimp only; omega) _))
      · repeat (first | (with_reducible exact hE2) | (with_reducible refine Ext.setCell ?_ (by dsimp only; omega) _))
set_option maxRecDepth 8000 in
theorem lawMarginsOf_any (W : World) (z0 z1 z2 : Int) (_ : -9223372036854775808 ≤ z0 ∧ z0 ≤ 9223372036854775807) (_ : -9223372036854775808 ≤ z1 ∧ z1 ≤ 9223372036854775807) (_ : -9223372036854775808 ≤ z2 ∧ z2 ≤ 9223372036854775807) (A : Option Addr) (n m : Nat) (bs : List Nat) (hc : n ≤ m) (hm : m ≤ maxLen) (hr : Reads W A n bs) (hw : Words bs) :
    Calls Try.prog 3 #[.agg #[.int .i64 z0, .int .i64 z1, .int .i64 z2, .slice A n m]] W fun e W' => e = .returned (.bool true) ∧ Ext W W' := by
  have hn : n ≤ maxLen := Nat.le_trans hc hm
  by_cases hv : VVol z0 z1 z2 n
  · obtain ⟨wn, rfl⟩ := Int.eq_ofNat_of_zero_le (show 0 ≤ z0 by have := hv.1.1; omega)
    obtain ⟨hn', rfl⟩ := Int.eq_ofNat_of_zero_le (show 0 ≤ z1 by have := hv.1.2.2.1; omega)
    obtain ⟨dn, rfl⟩ := Int.eq_ofNat_of_zero_le (show 0 ≤ z2 by have := hv.2.1; omega)
    obtain ⟨hnn, h0, hn2⟩ := vol_n hv
    refine lawMarginsOf_core W wn hn' dn A n m bs hn hr wn hn' ((List.range (wn * hn')).map (fun i => marX (fun e => bs.getD (i * dn + e) 0) dn)) (by simp; have := vol_wh hv; omega) true ?_ ?_
    · intro w D hd
      obtain ⟨gb, off, rfl, hl⟩ := hd.2 (by omega)
      exact specMarginsOf_yes wn hn' dn gb off n n bs w hl hd.1 hw (Nat.le_refl _) hn hv
    · intro w D hd
      obtain ⟨gb, off, rfl, hl⟩ := hd.2 (by omega)
      refine implMarginsOf_of wn hn' dn _ n n wn hn' true _ w (fun w0 hx0 => ?_)
      refine (cellMap_yes wn hn' dn gb off n n 56 (fun (x y : Nat) => marX (fun e => bs.getD (cellN wn (x : Int) (y : Int) * dn + e) 0) dn) w0 (Nat.le_refl _) hn hv (by kernel_rfl) (fun x y U' h1 h2 h3 => margin_any gb _ dn dn (fun e => bs.getD (cellN wn (x : Int) (y : Int) * dn + e) 0) U' (by have := hv.2.2.1; omega) (fun i => wd_at hw _) (cell_words wn hn' dn gb off n bs x y U' ((hl.ext hx0).ext h1) hd.1 hv h2 h3))).mono ?_
      rintro e w1 ⟨A1, c1, b1, rfl, ho, hm1, hx1⟩
      refine ⟨A1, c1, b1, rfl, ho, hm1.trans ?_, hx1⟩
      exact cells_flat (fun x y h1 h2 => by simp only [cellN_nat])

  · exact lawMarginsOf_core W z0 z1 z2 A n m bs hn hr 0 0 [] (by simp) false (fun w D hd => specMarginsOf_no z0 z1 z2 D n n hn hv w) (fun w D hd => implMarginsOf_of z0 z1 z2 D n n 0 0 false [] w (fun w0 hx0 => cellMap_no z0 z1 z2 D n n _ hn hv w0))
end Go.Proofs.Ytcekofioiofjbaa
