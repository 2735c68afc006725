/- A map of one value. -/
import Derived.Test.YtppahlkmemngeaaMade
import Derived.Test.YtppahlkmemngeaaMaps
namespace Go.Proofs.Ytppahlkmemngeaa
open Go.RowKit
set_option linter.unusedVariables false

set_option maxHeartbeats 4000000 in
set_option maxRecDepth 8000 in
theorem l03Flat_any (wn hn : Nat) (hw : wn ≤ 24) (hh : hn ≤ 24) (v X : Nat) (hv : Is v X) (U : World) :
    Calls Try.prog 87 #[.int .i64 wn, .int .i64 hn, .float .f32 v] U fun e U' => ∃ A c bs, e = .returned (.agg #[.int .i64 wn, .int .i64 hn, .slice A bs.length c]) ∧
      OwnF U' U.heap.size 25 (.slice A bs.length c) bs ∧ bs.map nrm = List.replicate (wn * hn) X ∧ Ext U U' := by
  obtain ⟨i0, hi, hz0, hz1, hz2⟩ := info_parts infoF
  have hp : wn * hn ≤ 576 := Nat.le_trans (Nat.mul_le_mul hw hh) (by omega)
  obtain ⟨N, hN⟩ : ∃ N, wn * hn = N := ⟨_, rfl⟩
  have hmul : IntKind.i64.wrap ((wn : Int) * (hn : Int)) = (N : Int) := by
    rw [← hN]; have : ((wn : Int) * (hn : Int)) = ((wn * hn : Nat) : Int) := by simp
    rw [this]; exact IntWalk.i64_in _ (by omega)
  rw [hN] at hp ⊢
  clear hN
  go_enter Try.func87, Try.ntmps87
  go_wp2_with fail
  go_loopw [8] (fun y wr => ∃ (k : Nat) (A : Option Addr) (c : Nat) (bs : List Nat), k ≤ N ∧ y = .int .i64 k ∧ Acc U wr (U.heap.size + 1 + 1) 25 (U.heap.size + 1) 2 A c bs (List.replicate k X) ∧ MadeR U wr wn hn) (fun y _ => N - (intOf y).toNat)
  case atStart =>
    refine ⟨0, none, 0, [], Nat.zero_le _, rfl, ⟨OwnF.nil _ _ _, by simp [go_sem], by simp [go_sem], by simp, (fun b hb => by cases hb), ?_⟩, ⟨?_, ?_, ?_, ?_, ?_, ?_, ?_, ?_⟩⟩
    · repeat (first | with_reducible exact Ext.refl _ | (with_reducible refine Ext.setCell ?_ (by simp; try omega) _) | (with_reducible refine Ext.alloc ?_ _))
    all_goals simp [go_sem]
  case round =>
    obtain ⟨k, A, c, bs, hk, rfl, hacc, hR⟩ := hrel
    by_cases hlt : k < N
    · have hhdr := hacc.hdr
      have hfr := hacc.fr
      have hHl := lt_of_cell hhdr
      have hbl : bs.length < 577 := by have := hacc.len; rw [List.length_replicate] at this; omega
      have hown1 := hacc.own.ext ((Ext.refl wr).alloc (.cells #[fl v] 25))
      have hun := hacc.ext.size
      go_wp2_with (at_builtin; refine wpList_append_own _ rfl _ _ _ rfl (U.heap.size + 1 + 1) 25 i0 (.float .f32 0) 1 4 Try.underlying22 hi hz0 hz1 hz2 rfl (by omega) (.slice A bs.length c) bs.length (bs.map fl) (by rfl) hown1 ⟨wr.heap.size, 0, none⟩ 1 1 [fl v] (by rfl) rfl (one_new (by simp [go_sem])) (one_word v) (by unfold maxLen; omega) (by omega) (by simp; omega) ?_)
      intro v' w2 ho2 hg2 _
      obtain ⟨A', c', bs', rfl, hacc', hold, holdf⟩ := hacc.push ((Ext.refl wr).alloc _) (by omega) (by omega) ho2 hg2 hv
      have hrow := (hacc.own.ext ((Ext.refl wr).alloc (.cells #[fl v] 25))).row
      have hhdr2 : w2.cell? ⟨U.heap.size + 1, 2, none⟩ = some (.slice A bs.length c) := hg2.cell (cell_ext hhdr ((Ext.refl wr).alloc _)) (fun he => by have := hrow (U.heap.size + 1) he.symm; omega)
      have hfr2 : w2.frozen? ⟨U.heap.size + 1, 2, none⟩ = false := (World.frozen?_of_block (a := ⟨U.heap.size + 1, 2, none⟩) (hg2.block _ (lt_of_cell (cell_ext hhdr ((Ext.refl wr).alloc _))) (fun he => by have := hrow (U.heap.size + 1) he.symm; omega))).trans ((((Ext.refl wr).alloc _).marks _ _ (by rw [hhdr]; rfl)).trans hfr)
      have hR' : MadeR U _ wn hn := ⟨hold _ _ _ hR.a0 (by omega) (by omega), hold _ _ _ hR.a1 (by omega) (by omega), hold _ _ _ hR.a2 (by omega) (by omega), hold _ _ _ hR.b0 (by omega) (by omega), hold _ _ _ hR.b1 (by omega) (by omega),
        (holdf _ _ (by rw [hR.a0]; rfl) (by omega)).trans hR.f0, (holdf _ _ (by rw [hR.a1]; rfl) (by omega)).trans hR.f1, (holdf _ _ (by rw [hR.a2]; rfl) (by omega)).trans hR.f2⟩
      rw [← List.replicate_succ'] at hacc'
      clear hold holdf hrow hhdr hfr ho2 hg2 hacc hR hown1
      go_wp2
      go_roundw
      case rel => exact ⟨k + 1, A', c', bs', by omega, by go_num, hacc', hR'⟩
      case measure => simp [intOf]; omega
    · have e1 : k = N := by omega
      subst e1
      obtain ⟨a0, a1, a2, b0, b1, f0, f1, f2⟩ := hR
      have hhdr := hacc.hdr
      go_wp2
      refine bodyPost_ret (v := .agg #[.int .i64 wn, .int .i64 hn, .slice A bs.length c]) (by simp [results, Try.results87, go_sem, *]) rfl ⟨A, c, bs, rfl, ?_, hacc.like, ?_⟩
      · refine OwnF.weaken (base := U.heap.size + 1 + 1) ?_ (by omega)
        repeat (first | (with_reducible exact hacc.own) | (with_reducible refine OwnF.set_below ?_ (by dsimp only; omega) _))
      · repeat (first | (with_reducible exact hacc.ext) | (with_reducible refine Ext.setCell ?_ (by dsimp only; omega) _))
end Go.Proofs.Ytppahlkmemngeaa
