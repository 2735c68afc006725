/- The contract of made: a picture whose greys are told by a function value. -/
import Derived.Test.YtgpobhpcbgenoaaHarA
import Derived.Lib.Hide
import Derived.Test.YtgpobhpcbgenoaaAcc
namespace Go.Proofs.Ytgpobhpcbgenoaa
open Go.RowKit
set_option linter.unusedVariables false

theorem bs1 (b : Nat) (W : World) : (Instr.buildSlice 22 1 #[(0, .float .f32 b)]).run Try.prog W = .ok (.slice (some ⟨W.heap.size, 0, none⟩) 1 1) (W.alloc (.cells #[.float .f32 b] 25)) := by
  simp [Instr.buildSlice, go_sem]

/-- What else lies in the boxes of made. -/
structure MadeR (U wr : World) (wn hn : Nat) : Prop where
  a0 : wr.cell? ⟨U.heap.size, 0, none⟩ = some (.int .i64 0)
  a1 : wr.cell? ⟨U.heap.size, 1, none⟩ = some (.int .i64 0)
  a2 : wr.cell? ⟨U.heap.size, 2, none⟩ = some (.slice none 0 0)
  b0 : wr.cell? ⟨U.heap.size + 1, 0, none⟩ = some (.int .i64 wn)
  b1 : wr.cell? ⟨U.heap.size + 1, 1, none⟩ = some (.int .i64 hn)
  f0 : wr.frozen? ⟨U.heap.size, 0, none⟩ = false
  f1 : wr.frozen? ⟨U.heap.size, 1, none⟩ = false
  f2 : wr.frozen? ⟨U.heap.size, 2, none⟩ = false

set_option maxHeartbeats 4000000 in
theorem made_any (wn hn : Nat) (hw : wn ≤ 24) (hh : hn ≤ 24) (g : FuncId) (lb : Array Value) (F : Nat → Nat → Nat) (U : World)
    (hg : (Try.prog.funcs[g]?).any (fun fn => !(fn.name == "runtime.NumGoroutine") && fn.body.isSome) = true)
    (hof : ∀ (x y : Nat) (U' : World), Ext U U' → x < wn → y < hn → Calls Try.prog g (#[.int .i64 x, .int .i64 y] ++ lb) U' fun e U'' => ∃ r, e = .returned (.float .f32 r) ∧ Is r (F x y) ∧ Ext U' U'') :
    Calls Try.prog 115 #[.int .i64 wn, .int .i64 hn, .func (.func g) #[] lb] U fun e U' => ∃ A c bs, e = .returned (.agg #[.int .i64 wn, .int .i64 hn, .slice A bs.length c]) ∧
      OwnF U' U.heap.size 25 (.slice A bs.length c) bs ∧ bs.map nrm = cells F wn (wn * hn) ∧ Words bs ∧ Ext U U' := by
  obtain ⟨i0, hi, hz0, hz1, hz2⟩ := info_parts infoF
  have HG := Lib.hid hg
  have HOF := Lib.hid hof
  clear hg hof
  have hprod : ∀ k, k ≤ hn → k * wn ≤ 576 := fun k hk => Nat.le_trans (Nat.mul_le_mul (Nat.le_trans hk hh) hw) (by omega)
  have HP := Lib.hid hprod
  clear hprod
  go_enter Try.func115, Try.ntmps115
  go_wp2_with fail
  go_loopw [14] (fun y wr => ∃ (k : Nat) (A : Option Addr) (c : Nat) (bs : List Nat), k ≤ hn ∧ y = .int .i64 k ∧ Acc U wr (U.heap.size + 1 + 1) 25 (U.heap.size + 1) 2 A c bs (cells F wn (k * wn)) ∧ MadeR U wr wn hn) (fun y _ => hn - (intOf y).toNat)
  case atStart =>
    refine ⟨0, none, 0, [], Nat.zero_le _, rfl, ⟨OwnF.nil _ _ _, by simp [go_sem], by simp [go_sem], by simp [cells], (fun b hb => by cases hb), ?_⟩, ⟨?_, ?_, ?_, ?_, ?_, ?_, ?_, ?_⟩⟩
    · repeat (first | with_reducible exact Ext.refl _ | (with_reducible refine Ext.setCell ?_ (by simp; try omega) _) | (with_reducible refine Ext.alloc ?_ _))
    all_goals simp [go_sem]
  case round =>
    obtain ⟨k, A, c, bs, hk, rfl, hacc, hR⟩ := hrel
    by_cases hlt : k < hn
    · go_wp2_with fail
      go_loopw [18] (fun x wq => ∃ (j : Nat) (A : Option Addr) (c : Nat) (bs : List Nat), j ≤ wn ∧ x = .int .i64 j ∧ Acc U wq (U.heap.size + 1 + 1) 25 (U.heap.size + 1) 2 A c bs (cells F wn (k * wn + j)) ∧ MadeR U wq wn hn) (fun x _ => wn - (intOf x).toNat)
      case atStart => exact ⟨0, A, c, bs, Nat.zero_le _, rfl, hacc, hR⟩
      case round =>
        clear hacc hR
        rename_i wq
        obtain ⟨j, A, c, bs, hj, rfl, hacc, hR⟩ := hrel
        by_cases hltj : j < wn
        · have hhdr := hacc.hdr
          have hfr := hacc.fr
          go_wp2_with fail
          refine region_wx 7 [none, none, none, none, none, some (fun u U' => ∃ r, u = .float .f32 r ∧ Is r (F j k))] (by kernel_rfl) (by kernel_rfl) ?_
          simp only [List.take_succ_cons, List.take_zero, List.drop_succ_cons, List.drop_zero]
          repeat ((first | refine wx_skip rfl ?_ | refine wx_nilCheck rfl rfl _ rfl _ rfl ?_ | (refine wx_float rfl rfl _ _ _ _ _ _ _ rfl rfl rfl rfl ?_; intro r hr) | (refine wx_k rfl rfl rfl (fun K hK => ?_); go_big_quiet_op; refine hK _ ?_; clear hK K) | (refine wx_callV _ rfl rfl _ _ _ rfl g lb rfl HG.out (fun Wc hWc hFc => ?_) ?_; (· go_simp; refine (HOF.out j k Wc (hacc.ext.trans hWc) hltj hlt).mono ?_; rintro e w' ⟨r, rfl, hr, hx⟩; exact ⟨_, rfl, ⟨r, rfl, hr⟩, hx⟩); rintro u V hV ⟨r, rfl, hr⟩) | (refine wx_bs rfl rfl _ _ _ rfl _ rfl (fun Z => bs1 _ Z) ?_; intro H V2 hV2 hcell)); (try simp only [Act.put, List.setIfInBounds_toArray, List.set_cons_zero, List.set_cons_succ]); (try simp only [List.tail_cons]))
          refine wx_nil (fun W hW hF => ?_)
          have hVW : Ext V2 W := hF 6
          clear hF
          have hcell1 := cell_ext hcell hVW
          have hown1 := hacc.own.ext hW
          have hrow := hown1.row
          have hlen := hacc.len
          rw [cells_length] at hlen
          have hp := HP.out k hk
          have hp2 := HP.out (k + 1) (by omega)
          rw [Nat.succ_mul] at hp2
          clear hp
          refine wpList_append_own _ rfl _ _ _ rfl (U.heap.size + 1 + 1) 25 i0 (.float .f32 0) 1 4 Try.underlying22 hi hz0 hz1 hz2 rfl (by omega) (.slice A bs.length c) bs.length (bs.map fl) (by rfl) hown1 ⟨H, 0, none⟩ 1 1 [fl r] (by rfl) rfl (one_new hcell1) (one_word r) (by unfold maxLen; omega) (by omega) (by have := hW.size; have := hacc.ext.size; have := lt_of_cell hhdr; omega) ?_
          intro v' w2 ho2 hg2 _
          obtain ⟨A', c', bs', rfl, hacc', hold, holdf⟩ := hacc.push hW (by omega) (by omega) ho2 hg2 hr
          rw [← cells_step F wn k j hltj] at hacc'
          have hhdr2 : w2.cell? ⟨U.heap.size + 1, 2, none⟩ = some (.slice A bs.length c) := hg2.cell (cell_ext hhdr hW) (fun he => by have := hrow (U.heap.size + 1) he.symm; omega)
          have hfr2 : w2.frozen? ⟨U.heap.size + 1, 2, none⟩ = false := (World.frozen?_of_block (a := ⟨U.heap.size + 1, 2, none⟩) (hg2.block _ (lt_of_cell (cell_ext hhdr hW)) (fun he => by have := hrow (U.heap.size + 1) he.symm; omega))).trans ((hW.marks _ _ (by rw [hhdr]; rfl)).trans hfr)
          have hR' : MadeR U _ wn hn := ⟨hold _ _ _ hR.a0 (by omega) (by omega), hold _ _ _ hR.a1 (by omega) (by omega), hold _ _ _ hR.a2 (by omega) (by omega), hold _ _ _ hR.b0 (by omega) (by omega), hold _ _ _ hR.b1 (by omega) (by omega),
            (holdf _ _ (by rw [hR.a0]; rfl) (by omega)).trans hR.f0, (holdf _ _ (by rw [hR.a1]; rfl) (by omega)).trans hR.f1, (holdf _ _ (by rw [hR.a2]; rfl) (by omega)).trans hR.f2⟩
          clear hold holdf hcell1 hown1 hrow hcell hVW hW hV2 hV hhdr hfr ho2 hg2 hacc hR
          go_wp2
          go_roundw
          case rel => exact ⟨j + 1, A', c', bs', by omega, by go_num, hacc', hR'⟩
          case measure => simp [intOf]; omega
        · have e1 : j = wn := by omega
          subst e1
          rw [cells_row] at hacc
          go_wp2
          go_roundw
          case rel => exact ⟨k + 1, A, c, bs, by omega, by go_num, hacc, hR⟩
          case measure => simp [intOf]; omega
    · have e1 : k = hn := by omega
      subst e1
      rw [Nat.mul_comm] at hacc
      obtain ⟨a0, a1, a2, b0, b1, f0, f1, f2⟩ := hR
      have hhdr := hacc.hdr
      go_wp2
      refine bodyPost_ret (v := .agg #[.int .i64 wn, .int .i64 k, .slice A bs.length c]) (by simp [results, Try.results115, go_sem, *]) rfl ⟨A, c, bs, rfl, ?_, hacc.like, hacc.wd, ?_⟩
      · refine OwnF.weaken (base := U.heap.size + 1 + 1) ?_ (by omega)
        repeat (first | (with_reducible exact hacc.own) | (with_reducible refine OwnF.set_below ?_ (by dsimp only; omega) _))
      · repeat (first | (with_reducible exact hacc.ext) | (with_reducible refine Ext.setCell ?_ (by dsimp only; omega) _))
end Go.Proofs.Ytgpobhpcbgenoaa
