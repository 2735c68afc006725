/- Contracts: numbers in order, or in the other order. -/
import Derived.Test.YthkfbmboiabolaaValid
import Derived.Test.YthkfbmboiabolaaAcc
import Derived.Test.YthkfbmboiabolaaMade
import Derived.Lib.Hide
import Derived.Shelf.RegionOpenPlain
import Derived.Deep.LoopGhost
import Derived.Lib.Walk
import Derived.Sort.WalkB12
import Derived.Lib.SlicesMore
import Derived.Lib.OwnBridge
namespace Go.Proofs.Ythkfbmboiabolaa
open Go.RowKit Go.Lib Go.Sort
set_option linter.unusedVariables false

set_option maxHeartbeats 1600000 in
set_option maxRecDepth 100000 in
theorem reverse_any (blk off cap : Nat) (d : Array Int) (w : World) (hH : Holds encI w blk off d) (hsz : d.size ≤ 9223372036854775807) :
    Calls Try.prog 82 #[.slice (some ⟨blk, off, none⟩) d.size cap] w fun e w' => e = .returned (.tuple #[]) ∧ ∃ n, w' = putRow encI (Sort.ahead w n) blk off d.reverse := by
  have mixed : Try.prog.follows .mixedOrders = true := by kernel_rfl
  go_enter Try.func82, Try.ntmps82
  go_wp2
  go_loopg [2, 3] d.size (fun k s2 s3 wr => ∃ (i jn : Nat) (jz : Int) (dk : Array Int) (n : Nat), s2 = .int .i64 i ∧ s3 = .int .i64 jz ∧ ((i : Int) < jz → jz = jn ∧ jn < d.size) ∧ (¬ (i : Int) < jz → ¬ i < jn) ∧ jn - i ≤ k ∧
    dk.size = d.size ∧ wr = putRow encI (Sort.ahead w n) blk off dk ∧ reverseLoop i jn dk = reverseLoop 0 (d.size - 1) d)
  case atStart => exact ⟨0, d.size - 1, (d.size : Int) - 1, d, 0, rfl, rfl, fun h => ⟨by omega, by omega⟩, fun h => by omega, by omega, rfl, (putRow_self encI w blk off d hH).symm, rfl⟩
  case round =>
    obtain ⟨i, jn, jz, dk, n, rfl, rfl, h1, h2, hk, hds, hwr, heq⟩ := hrel
    by_cases hlt : (i : Int) < jz
    · obtain ⟨rfl, hjn⟩ := h1 hlt
      have hij : i < jn := by omega
      have hids : i < d.size := by omega
      have hHk : Holds encI wr blk off dk := by rw [hwr]; exact holds_putRow encI _ blk off d dk (holds_ahead encI w n blk off d hH) hds
      obtain ⟨ci, fi⟩ := hHk i (by omega)
      obtain ⟨cj, fj⟩ := hHk jn (by omega)
      have A : Aside (wr = putRow encI (Sort.ahead w n) blk off dk) := hwr
      clear hwr hHk hH h1 h2
      go_wp2_with fail
      go_region_o
      go_wp2
      go_roundg (jn - 1 - (i + 1))
      case measure => omega
      case rel =>
        rw [reverseLoop, if_pos hij] at heq
        exact ⟨i + 1, jn - 1, (jn : Int) - 1, swp dk i jn, n + 1, by simp, rfl, fun h => ⟨by omega, by omega⟩, fun h => by omega, Nat.le_refl _, by rw [size_swp]; exact hds,
          swap_world encI (by omega) (by omega) A.out (by first | rfl | simp [encI, getElem!_pos, show jn < dk.size by omega]) (by first | rfl | simp [encI, getElem!_pos, show i < dk.size by omega]), heq⟩
    · have hnot := h2 hlt
      go_wp2
      go_end0
      refine ⟨rfl, n, ?_⟩
      rw [reverseLoop, if_neg hnot] at heq
      rw [← Lib.reverseLoop_reverse, ← heq]
def ordN (many : Nat) (neg : Bool) (i : Nat) : Nat := if neg then many - 1 - i else i
theorem infoI : (Try.prog.info? 2).map (fun i => (i.zero, i.size, i.bytes)) = some (some (.int .i64 0), 1, 8) := by kernel_rfl
theorem bsI (b : Int) (W : World) : (Instr.buildSlice 36 1 #[(0, .int .i64 b)]).run Try.prog W = .ok (.slice (some ⟨W.heap.size, 0, none⟩) 1 1) (W.alloc (.cells #[.int .i64 b] 2)) := by
  simp [Instr.buildSlice, go_sem]
theorem appI_here {P : Program} {ops : Array Oper} {rest : List Oper} {o : Oper} {a : Act} {Q : Exit → Act → World → Prop} {w : World} (x y : Operand) (t t' : TypeId) (ho : o.op = .call { callee := .builtin .append, args := #[x, y], argTypes := #[t, t'] })
    (h : Hid (wpList P ops Q (o :: rest) a w)) : wpList P ops Q (o :: rest) a w := h.out
theorem wlI_at {P : Program} {ops : Array Oper} {Q : Exit → Act → World → Prop} {l : List Oper} {a : Act} {w : World} {X : World → Prop} (hX : X w) (h : ∀ w', X w' → wpList P ops Q l a w') : wpList P ops Q l a w := h w hX
theorem ownsRow_ext {w w' : World} {base n : Nat} {e : TypeId} {v : Value} {xs : List Value} (h : w.ownsRow base e 1 v n xs) (k : Ext w w') : w'.ownsRow base e 1 v n xs := by
  refine ⟨h.1, ?_⟩
  rcases h.2 with h2 | ⟨g, cap, cur, hv, hg, hh, r⟩
  · exact .inl h2
  · exact .inr ⟨g, cap, cur, hv, hg, (k.block g (lt_of_block hh)).trans hh, r⟩
set_option maxHeartbeats 1600000 in
theorem ordered_any (many : Nat) (step : Int) (h1 : 1 ≤ many) (h24 : many ≤ 24) (U : World) :
    Calls Try.prog 99 #[.int .i64 many, .int .i64 step] U fun e U' => ∃ H c, e = .returned (.slice (some ⟨H, 0, none⟩) many c) ∧ U.heap.size ≤ H ∧ (∀ i, i < many → U'.cell? ⟨H, i, none⟩ = some (.int .i64 (ordN many (decide (step < 0)) i : Nat))) ∧ Ext U U' := by
  obtain ⟨i0, hi, hz0, hz1, hz2⟩ := info_parts infoI
  go_enter Try.func99, Try.ntmps99
  go_wp2_with fail
  go_loopw [5, 9] (fun sl iv wr => ∃ (k : Nat) (A : Option Addr) (c : Nat), k ≤ many ∧ iv = .int .i64 k ∧ sl = .slice A k c ∧ wr.ownsRow U.heap.size 2 1 (.slice A k c) k ((List.range k).map fun (i : Nat) => Value.int .i64 i) ∧ Ext U wr) (fun _ iv _ => many - (RowKit.intOf iv).toNat)
  case atStart =>
    refine ⟨0, some ⟨U.heap.size, 0, none⟩, 0, Nat.zero_le _, rfl, rfl, ?_, (Ext.refl _).alloc _⟩
    exact World.ownsRow_made (size := 1) U #[] 0 (Nat.le_refl _) (by unfold maxLen; omega) rfl
  case round =>
    obtain ⟨k, A, c, hk, rfl, rfl, hown, hE⟩ := hrel
    have hus := hE.size
    by_cases hlt : k < many
    · go_wp2_with (at_builtin; refine appI_here _ _ _ _ rfl ?_)
      refine Lib.hid ?_
      refine wlI_at (X := fun w' => Ext wr w' ∧ w'.cell? ⟨wr.heap.size, 0, none⟩ = some (.int .i64 k)) ⟨(Ext.refl _).alloc _, by simp [go_sem]⟩ ?_
      rintro z0 ⟨hez, hcz⟩
      have hsz := hez.size
      have hzl := lt_of_cell hcz
      have hown2 := ownsRow_ext hown hez
      have hrow := World.ownsRow.lt hown2
      refine wpList_append_own _ rfl _ _ _ rfl U.heap.size 2 i0 (.int .i64 0) 1 8 Try.underlying36 hi hz0 hz1 hz2 rfl (by omega) (.slice A k c) k ((List.range k).map fun (i : Nat) => Value.int .i64 i) (by rfl) hown2 ⟨wr.heap.size, 0, none⟩ 1 1 [.int .i64 k] (by rfl) rfl (fun j u hu => by
        cases j with
        | zero => simp only [List.getElem?_cons_zero, Option.some.injEq] at hu; subst hu; exact hcz
        | succ j => simp at hu) (fun u hu => by simp at hu; subst hu; rfl) (by unfold maxLen; omega) (by omega) (by omega) ?_
      intro v' z1 ho2 hg2 _
      have hE3 := Ext.grown (hE.trans hez) hg2 (fun g hg => by have := hrow g hg; omega)
      obtain ⟨A2, c2, rfl, ho3⟩ : ∃ A' c', v' = .slice A' (k + 1) c' ∧ z1.ownsRow U.heap.size 2 1 (.slice A' (k + 1) c') (k + 1) ((List.range (k + 1)).map fun (i : Nat) => Value.int .i64 i) := by
        rw [show ((List.range k).map fun (i : Nat) => Value.int .i64 i) ++ [.int .i64 k] = (List.range (k + 1)).map fun (i : Nat) => Value.int .i64 i by rw [List.range_succ, List.map_append]; rfl] at ho2
        have ho4 := ho2
        rcases ho2.2 with ⟨_, h0⟩ | ⟨g, cap, cur, rfl, _⟩
        · omega
        · exact ⟨_, _, rfl, ho4⟩
      clear ho2 hg2 hown hown2 hrow hcz hez hE hsz hzl
      go_wp2
      go_roundw
      case rel => exact ⟨k + 1, A2, c2, by omega, by go_num, rfl, ho3, hE3⟩
      case measure => simp [RowKit.intOf]; omega
    · have e1 : k = many := by omega
      subst e1
      rcases hown.2 with ⟨_, h0⟩ | ⟨g, cap, cur, hv, hg, hh, hnc, hcm, hsz, ht⟩
      · omega
      · simp only [Value.slice.injEq] at hv
        obtain ⟨rfl, _, rfl⟩ := hv
        have hcell : ∀ i, i < k → wr.cell? ⟨g, i, none⟩ = some (.int .i64 (i : Nat)) := fun i hi' => by
          have := World.ownsRow.cellAt hown i (by omega)
          simpa [hi'] using this
        have hfr : ∀ i, wr.frozen? ⟨g, i, none⟩ = false := fun i => by simp [World.frozen?, hh]
        by_cases hs : step < 0
        · obtain ⟨D, hD⟩ : ∃ D : Array Int, D = ((List.range k).map fun (i : Nat) => (i : Int)).toArray := ⟨_, rfl⟩
          have hDs : D.size = k := by rw [hD]; simp
          have hHold : Holds encI wr g 0 D := fun j hj => by
            rw [hDs] at hj
            refine ⟨?_, by rw [Nat.zero_add]; exact hfr j⟩
            rw [Nat.zero_add, hcell j hj]
            simp [encI, hD, hj]
          have hR := reverse_any g 0 c D wr hHold (by omega)
          rw [hDs] at hR
          have HR := Lib.hid hR
          have HD := Lib.hid hD
          have HDS := Lib.hid hDs
          have hc0 := fun (n : Nat) (i : Nat) (hi' : i < k) => (holds_putRow encI (Sort.ahead wr n) g 0 D D.reverse (holds_ahead encI wr n g 0 D hHold) (by simp)) i (by simp [hDs]; exact hi')
          have HC := Lib.hid hc0
          clear hD hDs hHold hR hcell hfr hown hh ht hc0
          go_wp2_with (go_at_call 82; refine HR.out.mono ?_; rintro e w' ⟨rfl, q, rfl⟩)
          go_ret
          refine ⟨g, c, rfl, hg, fun i hi' => ?_, ?_⟩
          · have h3 := (HC.out q i hi').1
            rw [Nat.zero_add] at h3
            rw [h3]
            have h4 : decide (step < 0) = true := decide_eq_true hs
            rw [h4]
            simp only [ordN, if_true, encI]
            rw [HD.out]
            simp [hi']
          · exact Lib.below_putRow (show Below U.heap.size U wr from hE) hg
        · have h4 : decide (step < 0) = false := decide_eq_false hs
          clear hown hh ht hfr
          have HC := Lib.hid hcell
          have H4 := Lib.hid h4
          clear hcell h4
          go_wp2
          go_ret
          first | exact ⟨g, c, rfl, hg, fun i hi' => by rw [HC.out i hi', H4.out]; rfl, hE⟩ | exact ⟨g, ⟨c, rfl⟩, hg, fun i hi' => by rw [HC.out i hi', H4.out]; rfl, hE⟩
end Go.Proofs.Ythkfbmboiabolaa
