/- A list that grows word by word in a box of the call's own. No program in sight. -/
import Derived.Test.YtgpobhpcbgenoaaKit
namespace Go.Proofs.Ytgpobhpcbgenoaa
open Go.RowKit

/-- The values of F in rows of w, the first n. -/
def cells (F : Nat → Nat → Nat) (w n : Nat) : List Nat := (List.range n).map fun i => F (i % w) (i / w)
theorem cells_length (F : Nat → Nat → Nat) (w n : Nat) : (cells F w n).length = n := by simp [cells]
theorem cells_zero (F : Nat → Nat → Nat) (w : Nat) : cells F w 0 = [] := rfl
theorem cells_step (F : Nat → Nat → Nat) (w k j : Nat) (hj : j < w) : cells F w (k * w + j + 1) = cells F w (k * w + j) ++ [F j k] := by
  have h1 : (k * w + j) % w = j := by rw [Nat.mul_comm, Nat.mul_add_mod]; exact Nat.mod_eq_of_lt hj
  have h2 : (k * w + j) / w = k := by
    rw [Nat.mul_comm, Nat.mul_add_div (by omega), Nat.div_eq_of_lt hj]; rfl
  unfold cells
  rw [List.range_succ, List.map_append]
  simp [h1, h2]
theorem cells_row (F : Nat → Nat → Nat) (w k : Nat) : cells F w (k * w + w) = cells F w ((k + 1) * w) := by rw [Nat.succ_mul]
theorem cells_congr {F G : Nat → Nat → Nat} {w h : Nat} (hF : ∀ x y, x < w → y < h → F x y = G x y) : cells F w (w * h) = cells G w (w * h) := by
  unfold cells
  refine List.map_congr_left fun i hi => ?_
  have hi := List.mem_range.1 hi
  have hw : 0 < w := by
    rcases Nat.eq_zero_or_pos w with h0 | h0
    · subst h0; omega
    · exact h0
  exact hF _ _ (Nat.mod_lt _ hw) (Nat.div_lt_of_lt_mul hi)

/-- At wr: the row bs of the call's own, its header in cell i of block bv; L is what it holds. -/
structure Acc (W wr : World) (B : Nat) (e : TypeId) (bv i : Nat) (A : Option Addr) (c : Nat) (bs : List Nat) (L : List Nat) : Prop where
  own : OwnF wr B e (.slice A bs.length c) bs
  hdr : wr.cell? ⟨bv, i, none⟩ = some (.slice A bs.length c)
  fr : wr.frozen? ⟨bv, i, none⟩ = false
  like : bs.map nrm = L
  wd : Words bs
  ext : Ext W wr
theorem Acc.len {W wr : World} {B : Nat} {e : TypeId} {bv i : Nat} {A : Option Addr} {c : Nat} {bs L : List Nat} (h : Acc W wr B e bv i A c bs L) : bs.length = L.length := by
  have := congrArg List.length h.like
  simpa using this
theorem Acc.later {W wr w1 : World} {B : Nat} {e : TypeId} {bv i : Nat} {A : Option Addr} {c : Nat} {bs L : List Nat} (h : Acc W wr B e bv i A c bs L) (hx : Ext wr w1) : Acc W w1 B e bv i A c bs L :=
  ⟨h.own.ext hx, cell_ext h.hdr hx, (hx.marks _ _ (by rw [h.hdr]; rfl)).trans h.fr, h.like, h.wd, h.ext.trans hx⟩
theorem cell_set_ne {w : World} {g j bv i : Nat} {u : Value} (hne : ¬ (g = bv ∧ j = i)) : (w.setCell ⟨bv, i, none⟩ u).cell? ⟨g, j, none⟩ = w.cell? ⟨g, j, none⟩ := by
  simp only [World.setCell, World.cell?]
  by_cases hg : g = bv
  · subst hg
    have hj : j ≠ i := fun e => hne ⟨rfl, e⟩
    cases h : w.heap[g]? with
    | none => simp [Array.getElem?_modify, h]
    | some o => cases o <;> simp [Array.getElem?_modify, h, Ne.symm hj]
  · simp [Array.getElem?_modify, Ne.symm hg]
/-- One word more. -/
theorem Acc.push {W wr w1 w2 : World} {B : Nat} {e : TypeId} {bv i : Nat} {A : Option Addr} {c : Nat} {bs L : List Nat} (h : Acc W wr B e bv i A c bs L) (hx : Ext wr w1) {v : Value} {r X : Nat}
    (hW : W.heap.size ≤ bv) (hB : bv < B) (ho : w2.ownsRow B e 1 v (bs.length + 1) (bs.map fl ++ [fl r])) (hg : w1.grownBy w2 (Value.slice A bs.length c).ownBlock) (hr : Is r X) :
    ∃ A' c' bs', v = .slice A' bs'.length c' ∧ Acc W (w2.setCell ⟨bv, i, none⟩ v) B e bv i A' c' bs' (L ++ [X]) ∧
      (∀ g j u, wr.cell? ⟨g, j, none⟩ = some u → g < B → ¬ (g = bv ∧ j = i) → (w2.setCell ⟨bv, i, none⟩ v).cell? ⟨g, j, none⟩ = some u) ∧
      (∀ g j, (wr.cell? ⟨g, j, none⟩).isSome = true → g < B → (w2.setCell ⟨bv, i, none⟩ v).frozen? ⟨g, j, none⟩ = wr.frozen? ⟨g, j, none⟩) := by
  have ho' : OwnF w2 B e v (bs ++ [r]) := by
    unfold OwnF
    rw [List.length_append, List.map_append]
    exact ho
  obtain ⟨A', c', rfl, _⟩ := ho'.form
  have hrow := (h.own.ext hx).row
  have hne : ∀ g, g < B → some g ≠ (Value.slice A bs.length c).ownBlock := fun g hgB he => by have := hrow g he.symm; omega
  have h1 := h.later hx
  have hc1 : w2.cell? ⟨bv, i, none⟩ = some (.slice A bs.length c) := hg.cell h1.hdr (hne bv hB)
  have hbl : bv < w1.heap.size := lt_of_cell h1.hdr
  refine ⟨A', c', bs ++ [r], rfl, ⟨ho'.set_below hB _, ?_, ?_, ?_, ?_, ?_⟩, ?_, ?_⟩
  · obtain ⟨o, ho2⟩ := Option.isSome_iff_exists.1 (show (w2.heap[bv]?).isSome = true by
      simp only [World.cell?] at hc1
      cases h2 : w2.heap[bv]? with
      | none => rw [h2] at hc1; cases hc1
      | some => rfl)
    simp only [World.cell?, World.setCell] at hc1 ⊢
    rw [ho2] at hc1
    cases o with
    | cells cs t fz =>
      have hi : i < cs.size := by
        simp at hc1
        exact (Array.getElem?_eq_some_iff.1 hc1).1
      simp [Array.getElem?_modify, ho2, hi]
    | _ => simp at hc1
  · have := (World.frozen?_of_block (w := w1) (w' := w2) (a := ⟨bv, i, none⟩) (hg.block bv hbl (hne bv hB))).trans h1.fr
    simp only [World.frozen?, World.setCell] at this ⊢
    cases h2 : w2.heap[bv]? with
    | none => simp [Array.getElem?_modify, h2]
    | some o => cases o <;> simp_all [Array.getElem?_modify]
  · rw [List.map_append, h.like]; simp [hr.2]
  · intro b hb
    rcases List.mem_append.1 hb with hb | hb
    · exact h.wd b hb
    · have : b = r := by simpa using hb
      subst this; exact hr.1
  · exact Ext.setCell (Ext.grown h1.ext hg (fun g hg' => by have := hrow g hg'; omega)) hW _
  · intro g j u hu hgB hne2
    rw [cell_set_ne hne2]
    exact hg.cell (cell_ext hu hx) (hne g hgB)
  · intro g j hs hgB
    obtain ⟨u, hu⟩ := Option.isSome_iff_exists.1 hs
    have hl : g < w1.heap.size := lt_of_cell (cell_ext hu hx)
    have h3 : w2.frozen? ⟨g, j, none⟩ = wr.frozen? ⟨g, j, none⟩ := (World.frozen?_of_block (a := ⟨g, j, none⟩) (hg.block g hl (hne g hgB))).trans (hx.marks g j hs)
    rw [← h3]
    simp only [World.frozen?, World.setCell]
    by_cases hgv : bv = g
    · subst hgv
      cases h2 : w2.heap[bv]? with
      | none => simp [Array.getElem?_modify, h2]
      | some o => cases o <;> simp [Array.getElem?_modify, h2]
    · simp [Array.getElem?_modify, hgv]
theorem one_word (r : Nat) : ∀ u ∈ [fl r], u.oneCell' = true := fun u hu => by
  have : u = fl r := by simpa using hu
  subst this; rfl
theorem one_new {w : World} {H r : Nat} (h : w.cell? ⟨H, 0, none⟩ = some (fl r)) : ∀ j u, [fl r][j]? = some u → w.cell? ((⟨H, 0, none⟩ : Addr).add j) = some u := fun j u hu => by
  cases j with
  | zero => simp only [List.getElem?_cons_zero, Option.some.injEq] at hu; subst hu; exact h
  | succ j => simp at hu
end Go.Proofs.Ytgpobhpcbgenoaa
