/- What the walk of a law keeps: boxes, rows of its own, and what a mark leaves alone. No program in sight. -/
import Derived.Test.YtgpobhpcbgenoaaSteps
import Derived.Laws.AppendOwn
namespace Go.Proofs.Ytgpobhpcbgenoaa
open Go.RowKit

theorem calls_at {P : Program} {f : FuncId} {args : Array Value} {w : World} {R : Ending → World → Prop} {X : World → Prop} (hX : X w) (h : ∀ w', X w' → Calls P f args w' R) : Calls P f args w R := h w hX

theorem wp_at {P : Program} {c : Code} {Q : Exit → Act → World → Prop} {a : Act} {w : World} {X : World → Prop} (hX : X w) (h : ∀ w', X w' → c.wp P Q a w') : c.wp P Q a w := h w hX

def Box2 (w : World) (g : Nat) (a b : Value) : Prop := w.cell? ⟨g, 0, none⟩ = some a ∧ w.cell? ⟨g, 1, none⟩ = some b
def Box3 (w : World) (g : Nat) (a b c : Value) : Prop := w.cell? ⟨g, 0, none⟩ = some a ∧ w.cell? ⟨g, 1, none⟩ = some b ∧ w.cell? ⟨g, 2, none⟩ = some c
def Box4 (w : World) (g : Nat) (a b c d : Value) : Prop := w.cell? ⟨g, 0, none⟩ = some a ∧ w.cell? ⟨g, 1, none⟩ = some b ∧ w.cell? ⟨g, 2, none⟩ = some c ∧ w.cell? ⟨g, 3, none⟩ = some d
/-- A cell stays. -/
theorem cell_ext {w w' : World} {g i : Nat} {v : Value} (h : w.cell? ⟨g, i, none⟩ = some v) (e : Ext w w') : w'.cell? ⟨g, i, none⟩ = some v := (e.cells g i (by rw [h]; rfl)).trans h
theorem Box2.ext {w w' : World} {g : Nat} {a b : Value} (h : Box2 w g a b) (e : Ext w w') : Box2 w' g a b := ⟨cell_ext h.1 e, cell_ext h.2 e⟩
theorem Box3.ext {w w' : World} {g : Nat} {a b c : Value} (h : Box3 w g a b c) (e : Ext w w') : Box3 w' g a b c := ⟨cell_ext h.1 e, cell_ext h.2.1 e, cell_ext h.2.2 e⟩
theorem Box4.ext {w w' : World} {g : Nat} {a b c d : Value} (h : Box4 w g a b c d) (e : Ext w w') : Box4 w' g a b c d := ⟨cell_ext h.1 e, cell_ext h.2.1 e, cell_ext h.2.2.1 e, cell_ext h.2.2.2 e⟩
theorem Box2.lt {w : World} {g : Nat} {a b : Value} (h : Box2 w g a b) : g < w.heap.size := lt_of_cell h.1
theorem Box3.lt {w : World} {g : Nat} {a b c : Value} (h : Box3 w g a b c) : g < w.heap.size := lt_of_cell h.1
theorem Box4.lt {w : World} {g : Nat} {a b c d : Value} (h : Box4 w g a b c d) : g < w.heap.size := lt_of_cell h.1
theorem cell_grown {w w' : World} {row : Option Nat} {g i : Nat} {v : Value} (h : w.cell? ⟨g, i, none⟩ = some v) (k : w.grownBy w' row) (hne : some g ≠ row) : w'.cell? ⟨g, i, none⟩ = some v := k.cell h hne
theorem Box2.grown {w w' : World} {row : Option Nat} {g : Nat} {a b : Value} (h : Box2 w g a b) (k : w.grownBy w' row) (hne : some g ≠ row) : Box2 w' g a b := ⟨cell_grown h.1 k hne, cell_grown h.2 k hne⟩
theorem Box3.grown {w w' : World} {row : Option Nat} {g : Nat} {a b c : Value} (h : Box3 w g a b c) (k : w.grownBy w' row) (hne : some g ≠ row) : Box3 w' g a b c := ⟨cell_grown h.1 k hne, cell_grown h.2.1 k hne, cell_grown h.2.2 k hne⟩
theorem Box4.grown {w w' : World} {row : Option Nat} {g : Nat} {a b c d : Value} (h : Box4 w g a b c d) (k : w.grownBy w' row) (hne : some g ≠ row) : Box4 w' g a b c d := ⟨cell_grown h.1 k hne, cell_grown h.2.1 k hne, cell_grown h.2.2.1 k hne, cell_grown h.2.2.2 k hne⟩
theorem Ext.grown {w0 w w' : World} {row : Option Nat} (h : Ext w0 w) (k : w.grownBy w' row) (hr : ∀ g, row = some g → w0.heap.size ≤ g) : Ext w0 w' :=
  Below.grown h k h.size hr
theorem OwnF.row {w : World} {base : Nat} {e : TypeId} {v : Value} {bs : List Nat} (h : OwnF w base e v bs) : ∀ g, v.ownBlock = some g → base ≤ g ∧ g < w.heap.size := World.ownsRow.lt h
theorem OwnF.grown {w w' : World} {row : Option Nat} {base : Nat} {e : TypeId} {v : Value} {bs : List Nat} (h : OwnF w base e v bs) (k : w.grownBy w' row) (hne : ∀ g, v.ownBlock = some g → some g ≠ row) : OwnF w' base e v bs := by
  refine ⟨h.1, ?_⟩
  rcases h.2 with h2 | ⟨g, cap, cur, hv, hg, hh, r⟩
  · exact .inl h2
  · exact .inr ⟨g, cap, cur, hv, hg, (k.block g (lt_of_block hh) (hne g (by rw [hv]; rfl))).trans hh, r⟩
theorem OwnF.len {w : World} {base : Nat} {e : TypeId} {A : Option Addr} {n c : Nat} {bs : List Nat} (h : OwnF w base e (.slice A n c) bs) : n = bs.length := by
  obtain ⟨A', c', he, _⟩ := h.form
  simp only [Value.slice.injEq] at he
  exact he.2.1
theorem OwnF.reads {w : World} {base : Nat} {e : TypeId} {A : Option Addr} {n c : Nat} {bs : List Nat} (h : OwnF w base e (.slice A n c) bs) : Reads w A n bs := by
  obtain ⟨A', c', he, _, _, hr⟩ := h.form
  simp only [Value.slice.injEq] at he
  obtain ⟨rfl, rfl, rfl⟩ := he
  exact hr
theorem OwnF.bound {w : World} {base : Nat} {e : TypeId} {v : Value} {bs : List Nat} (h : OwnF w base e v bs) : bs.length ≤ maxLen := by
  obtain ⟨A', c', he, h1, h2, hr⟩ := h.form
  omega
/-- Rows in other blocks. -/
theorem rows_apart {a b c d : Nat} {v v' : Value} (h : ∀ g, v.ownBlock = some g → a ≤ g ∧ g < b) (h' : ∀ g, v'.ownBlock = some g → c ≤ g ∧ g < d) (hbc : b ≤ c ∨ d ≤ a) : ∀ g, v.ownBlock = some g → some g ≠ v'.ownBlock := by
  intro g hg he
  have h1 := h g hg
  have h2 := h' g he.symm
  omega
theorem row_box {c d : Nat} {v' : Value} (h' : ∀ g, v'.ownBlock = some g → c ≤ g ∧ g < d) (B : Nat) (hbc : B < c ∨ d ≤ B) : some B ≠ v'.ownBlock := by
  intro he
  have h2 := h' B he.symm
  omega
end Go.Proofs.Ytgpobhpcbgenoaa
