/- Lists of pictures in memory: how they read, copies of the call's own, what may be turned in them. -/
import Derived.Test.YtgpobhpcbgenoaaHarS
import Derived.Test.YtgpobhpcbgenoaaCube
import Derived.Test.YtgpobhpcbgenoaaPics
namespace Go.Proofs.Ytgpobhpcbgenoaa
open Go.RowKit
set_option linter.unusedVariables false

/-- How many words the first pictures have. -/
def totB (bs : Nat → List Nat) : Nat → Nat
  | 0 => 0
  | k + 1 => totB bs k + (bs k).length
theorem totB_le (bs : Nat → List Nat) {k n : Nat} (h : k ≤ n) : totB bs k ≤ totB bs n := by
  induction n with
  | zero =>
    have h0 : k = 0 := by omega
    rw [h0]
    exact Nat.le_refl _
  | succ n ih =>
    by_cases hk : k = n + 1
    · rw [hk]; exact Nat.le_refl _
    · exact Nat.le_trans (ih (by omega)) (by simp [totB])
theorem totB_one (bs : Nat → List Nat) {k n : Nat} (h : k < n) : totB bs k + (bs k).length ≤ totB bs n := totB_le bs (k := k + 1) h
/-- A list of pictures as it reads. -/
def ReadsP (w : World) (A : Option Addr) (n : Nat) (ws hs : Nat → Int) (bs : Nat → List Nat) : Prop :=
  0 < n → ∃ g off, A = some ⟨g, off, none⟩ ∧ ∀ i, i < n → ∃ Ai ci, w.cell? ⟨g, off + i * 3, none⟩ = some (.int .i64 (ws i)) ∧ w.cell? ⟨g, off + i * 3 + 1, none⟩ = some (.int .i64 (hs i)) ∧ w.cell? ⟨g, off + i * 3 + 2, none⟩ = some (.slice Ai (bs i).length ci) ∧ Reads w Ai (bs i).length (bs i) ∧ (bs i).length ≤ ci ∧ ci ≤ maxLen
theorem ReadsP.ext {w w' : World} {A : Option Addr} {n : Nat} {ws hs : Nat → Int} {bs : Nat → List Nat} (h : ReadsP w A n ws hs bs) (e : Ext w w') : ReadsP w' A n ws hs bs := fun hn => by
  obtain ⟨g, off, hA, hi⟩ := h hn
  refine ⟨g, off, hA, fun i hlt => ?_⟩
  obtain ⟨Ai, ci, h0, h1, h2, h3, h4, h5⟩ := hi i hlt
  exact ⟨Ai, ci, cell_ext h0 e, cell_ext h1 e, cell_ext h2 e, h3.ext e, h4, h5⟩
/-- The first k pictures of a copy: the cells xs; each picture's words in a row of its own. -/
def CopyP (w : World) (lo hi H : Nat) (xs : List Value) (k : Nat) (ws hs : Nat → Int) (bs : Nat → List Nat) (G : Nat → Nat) : Prop :=
  ∀ j, j < k → xs[j * 3]? = some (.int .i64 (ws j)) ∧ xs[j * 3 + 1]? = some (.int .i64 (hs j)) ∧ xs[j * 3 + 2]? = some (.slice (some ⟨G j, 0, none⟩) (bs j).length (bs j).length) ∧ OwnF w lo 25 (.slice (some ⟨G j, 0, none⟩) (bs j).length (bs j).length) (bs j) ∧ G j < hi ∧ ∀ i, i < j → G i ≠ G j
theorem CopyP.ext {w w' : World} {lo hi H : Nat} {xs : List Value} {k : Nat} {ws hs : Nat → Int} {bs : Nat → List Nat} {G : Nat → Nat} (h : CopyP w lo hi H xs k ws hs bs G) (e : Ext w w') : CopyP w' lo hi H xs k ws hs bs G := fun j hj => by
  obtain ⟨h0, h1, h2, h3, h4, h5⟩ := h j hj
  exact ⟨h0, h1, h2, h3.ext e, h4, h5⟩
theorem CopyP.wider {w : World} {lo hi hi' H : Nat} {xs : List Value} {k : Nat} {ws hs : Nat → Int} {bs : Nat → List Nat} {G : Nat → Nat} (h : CopyP w lo hi H xs k ws hs bs G) (hh : hi ≤ hi') : CopyP w lo hi' H xs k ws hs bs G := fun j hj => by
  obtain ⟨h0, h1, h2, h3, h4, h5⟩ := h j hj
  exact ⟨h0, h1, h2, h3, by omega, h5⟩
/-- A copy of a list of pictures, all of it in the blocks from lo to hi. -/
def CopyS (w : World) (lo hi H n : Nat) (ws hs : Nat → Int) (bs : Nat → List Nat) : Prop :=
  lo ≤ H ∧ H < hi ∧ hi ≤ w.heap.size ∧ ∃ xs G, Blk w H 58 xs ∧ xs.length = n * 3 ∧ CopyP w lo hi H xs n ws hs bs G
theorem blk_ext {w w' : World} {g : Nat} {e : TypeId} {xs : List Value} (h : Blk w g e xs) (k : Ext w w') : Blk w' g e xs := (k.block g h.lt).trans h
theorem CopyS.ext {w w' : World} {lo hi H n : Nat} {ws hs : Nat → Int} {bs : Nat → List Nat} (h : CopyS w lo hi H n ws hs bs) (e : Ext w w') : CopyS w' lo hi H n ws hs bs := by
  obtain ⟨h0, h1, h2, xs, G, h3, h4, h5⟩ := h
  exact ⟨h0, h1, Nat.le_trans h2 e.size, xs, G, blk_ext h3 e, h4, h5.ext e⟩
theorem CopyS.reads {w : World} {lo hi H n : Nat} {ws hs : Nat → Int} {bs : Nat → List Nat} (h : CopyS w lo hi H n ws hs bs) : ReadsP w (some ⟨H, 0, none⟩) n ws hs bs := fun hn => by
  obtain ⟨h0, h1, h2, xs, G, h3, h4, h5⟩ := h
  refine ⟨H, 0, rfl, fun i hlt => ?_⟩
  obtain ⟨q0, q1, q2, q3, q4, q5⟩ := h5 i hlt
  exact ⟨some ⟨G i, 0, none⟩, (bs i).length, by rw [Nat.zero_add, h3.cell, q0], by rw [Nat.zero_add, h3.cell, q1], by rw [Nat.zero_add, h3.cell, q2], q3.reads, Nat.le_refl _, q3.bound⟩

/-- Only blocks from lo to hi have turned. -/
structure Turned (lo hi : Nat) (w w' : World) : Prop where
  os : w'.os = w.os
  tape : w'.tape = w.tape
  output : w'.output = w.output
  size : w.heap.size ≤ w'.heap.size
  block : ∀ b, b < w.heap.size → (b < lo ∨ hi ≤ b) → w'.heap[b]? = w.heap[b]?
theorem Turned.refl (lo hi : Nat) (w : World) : Turned lo hi w w := ⟨rfl, rfl, rfl, Nat.le_refl _, fun _ _ _ => rfl⟩
theorem Turned.trans {lo hi : Nat} {a b c : World} (h : Turned lo hi a b) (k : Turned lo hi b c) : Turned lo hi a c :=
  ⟨k.os.trans h.os, k.tape.trans h.tape, k.output.trans h.output, Nat.le_trans h.size k.size, fun i hi' hn => (k.block i (Nat.lt_of_lt_of_le hi' h.size) hn).trans (h.block i hi' hn)⟩
theorem Turned.ext {lo hi : Nat} {a b c : World} (h : Turned lo hi a b) (k : Ext b c) : Turned lo hi a c :=
  h.trans ⟨k.os, k.tape, k.output, k.size, fun i hi' _ => k.block i hi'⟩
theorem Turned.grown {lo hi : Nat} {a b c : World} {row : Option Nat} (h : Turned lo hi a b) (k : b.grownBy c row) (hr : ∀ g, row = some g → lo ≤ g ∧ g < hi) : Turned lo hi a c :=
  h.trans ⟨k.os, k.tape, k.output, k.size, fun i hi' hn => k.block i hi' (fun he => by have := hr i he.symm; omega)⟩
theorem Turned.setCell {lo hi : Nat} {a b : World} (h : Turned lo hi a b) {p : Addr} (h1 : lo ≤ p.block) (h2 : p.block < hi) (u : Value) : Turned lo hi a (b.setCell p u) :=
  h.trans ⟨rfl, rfl, rfl, by simp [World.setCell], fun i _ hn => by simp [World.setCell, Array.getElem?_modify, show p.block ≠ i by omega]⟩
theorem Ext.turned {lo hi : Nat} {w0 w w' : World} (h : Ext w0 w) (k : Turned lo hi w w') (hl : w0.heap.size ≤ lo) : Ext w0 w' :=
  Below.trans h ⟨k.os, k.tape, k.output, k.size, fun i hi' => k.block i (Nat.lt_of_lt_of_le hi' h.size) (.inl (by omega))⟩
theorem turned_cell {lo hi : Nat} {w w' : World} {g i : Nat} {v : Value} (h : w.cell? ⟨g, i, none⟩ = some v) (k : Turned lo hi w w') (hg : g < lo ∨ hi ≤ g) : w'.cell? ⟨g, i, none⟩ = some v := by
  have h1 := k.block g (lt_of_cell h) hg
  simp only [World.cell?] at h ⊢
  rw [h1]
  exact h
theorem Box4.turned {lo hi : Nat} {w w' : World} {g : Nat} {a b c d : Value} (h : Box4 w g a b c d) (k : Turned lo hi w w') (hg : g < lo ∨ hi ≤ g) : Box4 w' g a b c d := ⟨turned_cell h.1 k hg, turned_cell h.2.1 k hg, turned_cell h.2.2.1 k hg, turned_cell h.2.2.2 k hg⟩
theorem OwnF.turned {lo hi : Nat} {w w' : World} {base : Nat} {e : TypeId} {v : Value} {bs : List Nat} (h : OwnF w base e v bs) (k : Turned lo hi w w') (hg : ∀ g, v.ownBlock = some g → g < lo ∨ hi ≤ g) : OwnF w' base e v bs := by
  refine ⟨h.1, ?_⟩
  rcases h.2 with h2 | ⟨g, cap, cur, rfl, hb, hh, r⟩
  · exact .inl h2
  · exact .inr ⟨g, cap, cur, rfl, hb, (k.block g (lt_of_block hh) (hg g (by simp [Value.ownBlock]))).trans hh, r⟩
end Go.Proofs.Ytgpobhpcbgenoaa
