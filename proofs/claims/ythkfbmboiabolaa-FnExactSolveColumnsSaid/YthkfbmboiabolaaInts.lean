/- Lists of whole numbers in memory: a slice that reads as them, a row of the call's own. No program in sight. -/
import Derived.Test.YthkfbmboiabolaaCube
namespace Go.Proofs.Ythkfbmboiabolaa
open Go.RowKit
set_option linter.unusedVariables false

/-- The lists are one. -/
def Eqi (a b : List Int) : Prop := a = b
theorem Eqi.out {a b : List Int} (h : Eqi a b) : a = b := h
theorem Eqi.symm {a b : List Int} (h : Eqi a b) : Eqi b a := h.out.symm
theorem Eqi.trans {a b c : List Int} (h : Eqi a b) (k : Eqi b c) : Eqi a c := h.out.trans k.out
theorem Eqi.refl (a : List Int) : Eqi a a := rfl
abbrev it (z : Int) : Value := .int .i64 z
def LiesI (w : World) (g off : Nat) (bs : List Int) : Prop := ∀ i, i < bs.length → w.cell? ⟨g, off + i, none⟩ = some (it (bs.getD i 0))
def ReadsI (w : World) (A : Option Addr) (n : Nat) (bs : List Int) : Prop := bs.length = n ∧ (0 < n → ∃ g off, A = some ⟨g, off, none⟩ ∧ LiesI w g off bs)
theorem LiesI.lt {w : World} {g off : Nat} {bs : List Int} (h : LiesI w g off bs) (hb : 0 < bs.length) : g < w.heap.size := lt_of_cell (h 0 hb)
theorem LiesI.below {w w' : World} {g off : Nat} {bs : List Int} (h : LiesI w g off bs) {B : Nat} (hb : Below B w w') (hg : g < B) : LiesI w' g off bs :=
  fun i hi => (hb.cell (p := ⟨g, off + i, none⟩) hg).trans (h i hi)
theorem ReadsI.keep {w w' : World} {A : Option Addr} {n : Nat} {bs : List Int} (h : ReadsI w A n bs) (hb : Below w.heap.size w w') : ReadsI w' A n bs :=
  ⟨h.1, fun hn => by
    obtain ⟨g, off, rfl, hl⟩ := h.2 hn
    exact ⟨g, off, rfl, hl.below hb (hl.lt (by rw [h.1]; exact hn))⟩⟩
def OwnI (w : World) (base : Nat) (e : TypeId) (v : Value) (bs : List Int) : Prop := w.ownsRow base e 1 v bs.length (bs.map it)
theorem OwnI.form {w : World} {base : Nat} {e : TypeId} {v : Value} {bs : List Int} (h : OwnI w base e v bs) : ∃ A c, v = .slice A bs.length c ∧ bs.length ≤ c ∧ c ≤ maxLen ∧ ReadsI w A bs.length bs := by
  rcases h.2 with ⟨rfl, hn⟩ | ⟨g, cap, cur, rfl, hg, hh, hnc, hcm, hsz, ht⟩
  · exact ⟨none, 0, by rw [hn], by omega, by simp [maxLen], by rfl, fun h => by omega⟩
  · refine ⟨_, cap, rfl, hnc, hcm, rfl, fun _ => ⟨g, 0, rfl, fun i hi => ?_⟩⟩
    have h2 : w.cell? ⟨g, 0 + i, none⟩ = (bs.map it)[i]? := by
      have := World.ownsRow.cellAt h i (by omega)
      simpa using this
    rw [h2]; simp [hi]
theorem OwnI.keep {w w' : World} {base : Nat} {e : TypeId} {v : Value} {bs : List Int} (h : OwnI w base e v bs) (hb : Below w.heap.size w w') : OwnI w' base e v bs := by
  refine ⟨h.1, ?_⟩
  rcases h.2 with h2 | ⟨g, cap, cur, hv, hg, hh, r⟩
  · exact .inl h2
  · exact .inr ⟨g, cap, cur, hv, hg, (hb.block g (lt_of_block hh)).trans hh, r⟩
theorem OwnI.weaken {w : World} {base base' : Nat} {e : TypeId} {v : Value} {bs : List Int} (h : OwnI w base e v bs) (hb : base' ≤ base) : OwnI w base' e v bs := by
  refine ⟨h.1, ?_⟩
  rcases h.2 with h2 | ⟨g, cap, cur, hv, hg, hh, r⟩
  · exact .inl h2
  · exact .inr ⟨g, cap, cur, hv, by omega, hh, r⟩
theorem OwnI.set_below {w : World} {base : Nat} {e : TypeId} {v : Value} {bs : List Int} (h : OwnI w base e v bs) {a : Addr} (ha : a.block < base) (u : Value) : OwnI (w.setCell a u) base e v bs := ownsRow_setCell_below h ha u
theorem OwnI.nil (w : World) (base : Nat) (e : TypeId) : OwnI w base e (.slice none 0 0) [] := World.ownsRow_nil _ _ _ _
theorem OwnI.of_blk {w : World} {base g : Nat} {e : TypeId} {bs : List Int} (h : Blk w g e (bs.map it)) (hb : base ≤ g) (hn : bs.length ≤ maxLen) : OwnI w base e (.slice (some ⟨g, 0, none⟩) bs.length bs.length) bs :=
  ⟨by simp, .inr ⟨g, bs.length, _, rfl, hb, h, Nat.le_refl _, hn, by simp, by rw [Nat.mul_one]; exact List.take_of_length_le (by simp)⟩⟩
theorem set_stepI (bs : List Int) (n k : Nat) (z : Value) (hk : k < n) (hn : bs.length = n) :
    ((bs.take k).map it ++ List.replicate (n - k) z).set k (it (bs.getD k 0)) = (bs.take (k + 1)).map it ++ List.replicate (n - (k + 1)) z := by
  have h1 : ((bs.take k).map it).length = k := by simp; omega
  rw [List.set_append_right _ _ (by rw [h1]; exact Nat.le_refl _), h1, Nat.sub_self, List.take_add_one, List.map_append, List.append_assoc]
  congr 1
  have h2 : n - k = (n - (k + 1)) + 1 := by omega
  rw [h2, List.replicate_succ]
  simp [List.getD, List.getElem?_eq_getElem (show k < bs.length by omega)]
def marksI (k n : Nat) : List Int := (List.range n).map fun (i : Nat) => ((k : Int) + (i : Int))
theorem marksI_length (k n : Nat) : (marksI k n).length = n := by simp [marksI]
theorem marksI_getD (k n i : Nat) (h : i < n) : (marksI k n).getD i 0 = ((k : Int) + (i : Int)) := by simp [marksI, List.getD, h]
def markedI (k i : Nat) (bs : List Int) : List Int := marksI k i ++ bs.drop i
theorem markedI_zero (k : Nat) (bs : List Int) : markedI k 0 bs = bs := by simp [markedI, marksI]
theorem markedI_all (k : Nat) (bs : List Int) : markedI k bs.length bs = marksI k bs.length := by simp [markedI]
theorem markedI_length (k i : Nat) (bs : List Int) (h : i ≤ bs.length) : (markedI k i bs).length = bs.length := by simp [markedI, marksI]; omega
theorem markedI_set (k i : Nat) (bs : List Int) (h : i < bs.length) : ((markedI k i bs).map it).set i (it (((k : Int) + (i : Int)))) = (markedI k (i + 1) bs).map it := by
  unfold markedI
  rw [List.map_append, List.set_append_right _ _ (by simp [marksI]), List.map_append]
  have h1 : ((marksI k i).map it).length = i := by simp [marksI]
  have h2 : marksI k (i + 1) = marksI k i ++ [((k : Int) + (i : Int))] := by simp [marksI, List.range_succ]
  rw [h1, Nat.sub_self, h2, List.map_append, List.append_assoc, List.drop_eq_getElem_cons h]
  rfl
theorem ReadsI.ext {w w' : World} {A : Option Addr} {n : Nat} {bs : List Int} (h : ReadsI w A n bs) (e : Ext w w') : ReadsI w' A n bs := h.keep e
theorem OwnI.ext {w w' : World} {base : Nat} {e : TypeId} {v : Value} {bs : List Int} (h : OwnI w base e v bs) (k : Ext w w') : OwnI w' base e v bs := h.keep k
theorem LiesI.ext {w w' : World} {g off : Nat} {bs : List Int} (h : LiesI w g off bs) (e : Ext w w') : LiesI w' g off bs :=
  fun i hi => by rw [e.cells _ _ (by rw [h i hi]; rfl)]; exact h i hi
theorem OwnI.row {w : World} {base : Nat} {e : TypeId} {v : Value} {bs : List Int} (h : OwnI w base e v bs) : ∀ g, v.ownBlock = some g → base ≤ g ∧ g < w.heap.size := World.ownsRow.lt h
theorem OwnI.grown {w w' : World} {row : Option Nat} {base : Nat} {e : TypeId} {v : Value} {bs : List Int} (h : OwnI w base e v bs) (k : w.grownBy w' row) (hne : ∀ g, v.ownBlock = some g → some g ≠ row) : OwnI w' base e v bs := by
  refine ⟨h.1, ?_⟩
  rcases h.2 with h2 | ⟨g, cap, cur, hv, hg, hh, r⟩
  · exact .inl h2
  · exact .inr ⟨g, cap, cur, hv, hg, (k.block g (lt_of_block hh) (hne g (by rw [hv]; rfl))).trans hh, r⟩
theorem OwnI.len {w : World} {base : Nat} {e : TypeId} {A : Option Addr} {n c : Nat} {bs : List Int} (h : OwnI w base e (.slice A n c) bs) : n = bs.length := by
  obtain ⟨A', c', he, _⟩ := h.form
  simp only [Value.slice.injEq] at he
  exact he.2.1
theorem OwnI.reads {w : World} {base : Nat} {e : TypeId} {A : Option Addr} {n c : Nat} {bs : List Int} (h : OwnI w base e (.slice A n c) bs) : ReadsI w A n bs := by
  obtain ⟨A', c', he, _, _, hr⟩ := h.form
  simp only [Value.slice.injEq] at he
  obtain ⟨rfl, rfl, rfl⟩ := he
  exact hr
theorem OwnI.bound {w : World} {base : Nat} {e : TypeId} {v : Value} {bs : List Int} (h : OwnI w base e v bs) : bs.length ≤ maxLen := by
  obtain ⟨A', c', he, h1, h2, hr⟩ := h.form
  omega
theorem OwnI.put {w : World} {base : Nat} {e : TypeId} {g n c : Nat} {bs : List Int} (h : OwnI w base e (.slice (some ⟨g, 0, none⟩) n c) bs) (i : Nat) (r : Int) :
    OwnI (w.setCell ⟨g, i, none⟩ (it r)) base e (.slice (some ⟨g, 0, none⟩) n c) (bs.set i r) := by
  refine ⟨by simp, ?_⟩
  rcases h.2 with ⟨h2, _⟩ | ⟨g', cap, cur, hv, hg, hh, hnc, hcm, hsz, ht⟩
  · simp at h2
  · simp only [Value.slice.injEq, Option.some.injEq, Addr.mk.injEq] at hv
    obtain ⟨⟨rfl, _⟩, rfl, rfl⟩ := hv
    refine .inr ⟨g, c, cur.setIfInBounds i (it r), by simp, hg, ?_, by simpa using hnc, hcm, by simpa using hsz, ?_⟩
    · simp [World.setCell, Array.getElem?_modify, hh]
    · rw [Array.toList_setIfInBounds, List.take_set, List.length_set, ht, List.map_set]
theorem OwnI.cell {w : World} {base : Nat} {e : TypeId} {g n c : Nat} {bs : List Int} (h : OwnI w base e (.slice (some ⟨g, 0, none⟩) n c) bs) {i : Nat} (hi : i < bs.length) : w.cell? ⟨g, i, none⟩ = some (it (bs.getD i 0)) := by
  obtain ⟨g', off, he, hl⟩ := h.reads.2 (by have := h.len; omega)
  simp only [Option.some.injEq, Addr.mk.injEq] at he
  obtain ⟨rfl, rfl, _⟩ := he
  have := hl i hi
  simpa using this
theorem OwnI.cool {w : World} {base : Nat} {e : TypeId} {g n c : Nat} {bs : List Int} (h : OwnI w base e (.slice (some ⟨g, 0, none⟩) n c) bs) (i : Nat) : w.frozen? ⟨g, i, none⟩ = false := by
  rcases h.2 with ⟨h2, _⟩ | ⟨g', cap, cur, hv, hg, hh, hnc, hcm, hsz, ht⟩
  · simp at h2
  · simp only [Value.slice.injEq, Option.some.injEq, Addr.mk.injEq] at hv
    obtain ⟨⟨rfl, _⟩, rfl, rfl⟩ := hv
    simp [World.frozen?, hh]
theorem OwnI.ge {w : World} {base : Nat} {e : TypeId} {g n c : Nat} {bs : List Int} (h : OwnI w base e (.slice (some ⟨g, 0, none⟩) n c) bs) : base ≤ g ∧ g < w.heap.size := h.row g rfl
theorem OwnI.at {w : World} {base : Nat} {e : TypeId} {A : Option Addr} {n c : Nat} {bs : List Int} (h : OwnI w base e (.slice A n c) bs) (hn : 0 < bs.length) : ∃ g, A = some ⟨g, 0, none⟩ := by
  rcases h.2 with ⟨h2, h3⟩ | ⟨g', cap, cur, hv, hg, hh, hnc, hcm, hsz, ht⟩
  · omega
  · simp only [Value.slice.injEq] at hv
    exact ⟨g', hv.1⟩
theorem OwnI.ne_block {w : World} {base : Nat} {e t : TypeId} {v : Value} {bs : List Int} {cs : Array Value} {H : Nat} {fz : Nat × Nat} (h : OwnI w base e v bs) (hH : w.heap[H]? = some (.cells cs t fz)) (hne : e ≠ t) : ∀ g, v.ownBlock = some g → g ≠ H := by
  intro g hg he
  subst he
  rcases h.2 with ⟨rfl, _⟩ | ⟨g', cap, cur, rfl, hb, hgg, rest⟩
  · simp [Value.ownBlock] at hg
  · simp [Value.ownBlock] at hg
    subst hg
    rw [hgg] at hH
    simp at hH
    exact hne hH.2.1
theorem OwnI.set_ne {w : World} {base : Nat} {e : TypeId} {v : Value} {bs : List Int} (h : OwnI w base e v bs) {a : Addr} (ha : ∀ g, v.ownBlock = some g → g ≠ a.block) (u : Value) : OwnI (w.setCell a u) base e v bs := by
  refine ⟨h.1, ?_⟩
  rcases h.2 with h2 | ⟨g', cap, cur, rfl, hb, hgg, rest⟩
  · exact .inl h2
  · refine .inr ⟨g', cap, cur, rfl, hb, ?_, rest⟩
    have hne := ha g' (by simp [Value.ownBlock])
    simp [World.setCell, Array.getElem?_modify, Ne.symm hne, hgg]
theorem LiesI.set_ne {w : World} {g i b off : Nat} {bs : List Int} {u : Value} (h : LiesI w b off bs) (hne : b ≠ g) : LiesI (w.setCell ⟨g, i, none⟩ u) b off bs := fun k hk => set_cell_ne (h k hk) hne
end Go.Proofs.Ythkfbmboiabolaa
