/- Words for memory: a slice that reads as a list of single words; what a row of the call's own is behind a store; what stays. No program in sight. -/
import Derived.Test.YtgpobhpcbgenoaaConv
import Derived.WalkKit
import Derived.ProofKit
import Derived.Deep.Draws
import Derived.Laws.Entries
namespace Go.Proofs.Ytgpobhpcbgenoaa
open Go.RowKit

@[go_sem] theorem run_store_float (P : Program) (w : World) (a : Addr) (m : Mode) (k : FloatKind) (b : Nat) : (store a (.float k b) m).run P w = stored P w a (.float k b) m := run_store P w a _ m rfl

abbrev fl (b : Nat) : Value := .float .f32 b

/-- The words bs lie in block g from off on. -/
def Lies (w : World) (g off : Nat) (bs : List Nat) : Prop := ∀ i, i < bs.length → w.cell? ⟨g, off + i, none⟩ = some (fl (bs.getD i 0))
/-- A slice of address A and length n reads as the words bs. -/
def Reads (w : World) (A : Option Addr) (n : Nat) (bs : List Nat) : Prop := bs.length = n ∧ (0 < n → ∃ g off, A = some ⟨g, off, none⟩ ∧ Lies w g off bs)
/-- The words are words. -/
def Words (bs : List Nat) : Prop := ∀ b ∈ bs, b < 4294967296

theorem lt_of_cell {w : World} {g o : Nat} {v : Value} (h : w.cell? ⟨g, o, none⟩ = some v) : g < w.heap.size := World.block_lt_of_cell? w ⟨g, o, none⟩ h

theorem Lies.lt {w : World} {g off : Nat} {bs : List Nat} (h : Lies w g off bs) (hb : 0 < bs.length) : g < w.heap.size := lt_of_cell (h 0 hb)
theorem Lies.below {w w' : World} {g off : Nat} {bs : List Nat} (h : Lies w g off bs) {B : Nat} (hb : Below B w w') (hg : g < B) : Lies w' g off bs :=
  fun i hi => (hb.cell (p := ⟨g, off + i, none⟩) hg).trans (h i hi)
theorem Reads.keep {w w' : World} {A : Option Addr} {n : Nat} {bs : List Nat} (h : Reads w A n bs) (hb : Below w.heap.size w w') : Reads w' A n bs :=
  ⟨h.1, fun hn => by
    obtain ⟨g, off, rfl, hl⟩ := h.2 hn
    exact ⟨g, off, rfl, hl.below hb (hl.lt (by rw [h.1]; exact hn))⟩⟩
theorem Reads.drewN {w : World} {A : Option Addr} {n : Nat} {bs : List Nat} (h : Reads w A n bs) (k : Nat) : Reads (w.drewN k) A n bs := h

theorem below_drewN {B : Nat} {a w : World} (h : Below B a w) (n : Nat) : Below B a (w.drewN n) := ⟨h.os, h.tape, h.output, h.size, h.block⟩

/-- Old cells and old marks, as two rules. -/
theorem bcell {W w1 : World} (hb : Below W.heap.size W w1) : (∀ b o, b < W.heap.size → w1.cell? ⟨b, o, none⟩ = W.cell? ⟨b, o, none⟩) ∧ (∀ b o, b < W.heap.size → w1.frozen? ⟨b, o, none⟩ = W.frozen? ⟨b, o, none⟩) :=
  ⟨fun b o h => hb.cell (p := ⟨b, o, none⟩) h, fun b o h => hb.frozen (p := ⟨b, o, none⟩) h⟩

/-- Block g is just the cells xs, none frozen. -/
def Blk (w : World) (g : Nat) (e : TypeId) (xs : List Value) : Prop := w.heap[g]? = some (.cells xs.toArray e (0, 0))
theorem Blk.lt {w : World} {g : Nat} {e : TypeId} {xs : List Value} (h : Blk w g e xs) : g < w.heap.size := lt_of_block h
theorem Blk.cell {w : World} {g : Nat} {e : TypeId} {xs : List Value} (h : Blk w g e xs) (i : Nat) : w.cell? ⟨g, i, none⟩ = xs[i]? := by
  have := cell_of_row w g i xs.toArray e (0, 0) h
  simpa using this
theorem Blk.frozen {w : World} {g : Nat} {e : TypeId} {xs : List Value} (h : Blk w g e xs) (i : Nat) : w.frozen? ⟨g, i, none⟩ = false := by
  unfold Blk at h
  simp [World.frozen?, h]
theorem Blk.set_ {w : World} {g : Nat} {e : TypeId} {xs : List Value} (h : Blk w g e xs) (i : Nat) (u : Value) : Blk (w.setCell ⟨g, i, none⟩ u) g e (xs.set i u) := by
  unfold Blk at h ⊢
  simp [World.setCell, Array.getElem?_modify, h]
theorem Blk.below {w w' : World} {g : Nat} {e : TypeId} {xs : List Value} (h : Blk w g e xs) {B : Nat} (hb : Below B w w') (hg : g < B) : Blk w' g e xs := (hb.block g hg).trans h
theorem Blk.keep {w w' : World} {g : Nat} {e : TypeId} {xs : List Value} (h : Blk w g e xs) (hb : Below w.heap.size w w') : Blk w' g e xs := h.below hb h.lt
theorem Blk.reads {w : World} {g : Nat} {e : TypeId} {bs : List Nat} {n : Nat} (h : Blk w g e (bs.map fl)) (hn : bs.length = n) : Reads w (some ⟨g, 0, none⟩) n bs :=
  ⟨hn, fun _ => ⟨g, 0, rfl, fun i hi => by rw [h.cell]; simp [hi]⟩⟩

/-- A row of the call's own, of single words. -/
def OwnF (w : World) (base : Nat) (e : TypeId) (v : Value) (bs : List Nat) : Prop := w.ownsRow base e 1 v bs.length (bs.map fl)
theorem OwnF.form {w : World} {base : Nat} {e : TypeId} {v : Value} {bs : List Nat} (h : OwnF w base e v bs) : ∃ A c, v = .slice A bs.length c ∧ bs.length ≤ c ∧ c ≤ maxLen ∧ Reads w A bs.length bs := by
  rcases h.2 with ⟨rfl, hn⟩ | ⟨g, cap, cur, rfl, hg, hh, hnc, hcm, hsz, ht⟩
  · exact ⟨none, 0, by rw [hn], by omega, by simp [maxLen], by rfl, fun h => by omega⟩
  · refine ⟨_, cap, rfl, hnc, hcm, rfl, fun _ => ⟨g, 0, rfl, fun i hi => ?_⟩⟩
    have h2 : w.cell? ⟨g, 0 + i, none⟩ = (bs.map fl)[i]? := by
      have := World.ownsRow.cellAt h i (by omega)
      simpa using this
    rw [h2]; simp [hi]
theorem OwnF.keep {w w' : World} {base : Nat} {e : TypeId} {v : Value} {bs : List Nat} (h : OwnF w base e v bs) (hb : Below w.heap.size w w') : OwnF w' base e v bs := by
  refine ⟨h.1, ?_⟩
  rcases h.2 with h2 | ⟨g, cap, cur, hv, hg, hh, r⟩
  · exact .inl h2
  · exact .inr ⟨g, cap, cur, hv, hg, (hb.block g (lt_of_block hh)).trans hh, r⟩
theorem OwnF.weaken {w : World} {base base' : Nat} {e : TypeId} {v : Value} {bs : List Nat} (h : OwnF w base e v bs) (hb : base' ≤ base) : OwnF w base' e v bs := by
  refine ⟨h.1, ?_⟩
  rcases h.2 with h2 | ⟨g, cap, cur, hv, hg, hh, r⟩
  · exact .inl h2
  · exact .inr ⟨g, cap, cur, hv, by omega, hh, r⟩
theorem OwnF.set_below {w : World} {base : Nat} {e : TypeId} {v : Value} {bs : List Nat} (h : OwnF w base e v bs) {a : Addr} (ha : a.block < base) (u : Value) : OwnF (w.setCell a u) base e v bs := ownsRow_setCell_below h ha u
theorem OwnF.drewN {w : World} {base : Nat} {e : TypeId} {v : Value} {bs : List Nat} (h : OwnF w base e v bs) (k : Nat) : OwnF (w.drewN k) base e v bs := h
theorem OwnF.nil (w : World) (base : Nat) (e : TypeId) : OwnF w base e (.slice none 0 0) [] := World.ownsRow_nil _ _ _ _
theorem OwnF.of_blk {w : World} {base g : Nat} {e : TypeId} {bs : List Nat} (h : Blk w g e (bs.map fl)) (hb : base ≤ g) (hn : bs.length ≤ maxLen) : OwnF w base e (.slice (some ⟨g, 0, none⟩) bs.length bs.length) bs :=
  ⟨by simp, .inr ⟨g, bs.length, _, rfl, hb, h, Nat.le_refl _, hn, by simp, by rw [Nat.mul_one]; exact List.take_of_length_le (by simp)⟩⟩

theorem set_step (bs : List Nat) (n k : Nat) (z : Value) (hk : k < n) (hn : bs.length = n) :
    ((bs.take k).map fl ++ List.replicate (n - k) z).set k (fl (bs.getD k 0)) = (bs.take (k + 1)).map fl ++ List.replicate (n - (k + 1)) z := by
  have h1 : ((bs.take k).map fl).length = k := by simp; omega
  rw [List.set_append_right _ _ (by rw [h1]; exact Nat.le_refl _), h1, Nat.sub_self, List.take_add_one, List.map_append, List.append_assoc]
  congr 1
  have h2 : n - k = (n - (k + 1)) + 1 := by omega
  rw [h2, List.replicate_succ]
  simp [List.getD, List.getElem?_eq_getElem (show k < bs.length by omega)]

theorem getD_nrm {bs bs' : List Nat} (he : bs.map nrm = bs'.map nrm) (k : Nat) (hk : k < bs.length) : nrm (bs.getD k 0) = nrm (bs'.getD k 0) := by
  have hl : bs.length = bs'.length := by simpa using congrArg List.length he
  have h1 : (bs.map nrm)[k]? = (bs'.map nrm)[k]? := by rw [he]
  rw [List.getElem?_map, List.getElem?_map, List.getElem?_eq_getElem hk, List.getElem?_eq_getElem (show k < bs'.length by omega)] at h1
  simp only [List.getD, List.getElem?_eq_getElem hk, List.getElem?_eq_getElem (show k < bs'.length by omega), Option.getD_some]
  simpa using h1

/-- The marks k, k + 1, .. as words. -/
def marks (k n : Nat) : List Nat := (List.range n).map fun (i : Nat) => floatOfInt .f32 ((k : Int) + (i : Int))
theorem marks_length (k n : Nat) : (marks k n).length = n := by simp [marks]
theorem marks_getD (k n i : Nat) (h : i < n) : (marks k n).getD i 0 = floatOfInt .f32 ((k : Int) + (i : Int)) := by simp [marks, List.getD, h]
/-- bs with its first i words turned into marks. -/
def marked (k i : Nat) (bs : List Nat) : List Nat := marks k i ++ bs.drop i
theorem marked_zero (k : Nat) (bs : List Nat) : marked k 0 bs = bs := by simp [marked, marks]
theorem marked_all (k : Nat) (bs : List Nat) : marked k bs.length bs = marks k bs.length := by simp [marked]
theorem marked_length (k i : Nat) (bs : List Nat) (h : i ≤ bs.length) : (marked k i bs).length = bs.length := by simp [marked, marks]; omega
theorem marked_set (k i : Nat) (bs : List Nat) (h : i < bs.length) : ((marked k i bs).map fl).set i (fl (floatOfInt .f32 ((k : Int) + (i : Int)))) = (marked k (i + 1) bs).map fl := by
  unfold marked
  rw [List.map_append, List.set_append_right _ _ (by simp [marks]), List.map_append]
  have h1 : ((marks k i).map fl).length = i := by simp [marks]
  have h2 : marks k (i + 1) = marks k i ++ [floatOfInt .f32 ((k : Int) + (i : Int))] := by simp [marks, List.range_succ]
  rw [h1, Nat.sub_self, h2, List.map_append, List.append_assoc, List.drop_eq_getElem_cons h]
  rfl
end Go.Proofs.Ytgpobhpcbgenoaa
