/- Plain facts for the reference's paths. -/
import Derived.Test.YthkfbmboiabolaaPathC
import Derived.Test.YthkfbmboiabolaaTurn
namespace Go.Proofs.Ythkfbmboiabolaa
open Go.RowKit
set_option linter.unusedVariables false

theorem lay_nil (cs : List Nat) (k : Nat) : lay cs k [] = cs := by unfold lay; simp
theorem lay_put {cs ks : List Nat} {kk e : Nat} (h : kk + ks.length ≤ cs.length) (he : e < ks.length) : (lay cs kk (ks.take e)).set (kk + e) (ks.getD e 0) = lay cs kk (ks.take (e + 1)) := by
  unfold lay
  have h1 : (ks.take e).length = e := by simp; omega
  have h2 : (ks.take (e + 1)).length = e + 1 := by simp; omega
  have h3 : (cs.take kk ++ ks.take e).length = kk + e := by simp; omega
  rw [h1, h2, ← List.append_assoc, List.set_append_right _ _ (by omega), h3, Nat.sub_self, List.drop_eq_getElem_cons (show kk + e < cs.length by omega), List.set_cons_zero, List.take_succ_eq_append_getElem he, List.append_assoc, List.append_assoc, ← Nat.add_assoc]
  congr 2
  simp [List.getD_eq_getElem?_getD, List.getElem?_eq_getElem he]
theorem OwnF.but {H : Nat} {w w' : World} {base : Nat} {e : TypeId} {g n c : Nat} {bs : List Nat} (h : OwnF w base e (.slice (some ⟨g, 0, none⟩) n c) bs) (k : But H w w') (hne : g ≠ H) : OwnF w' base e (.slice (some ⟨g, 0, none⟩) n c) bs := by
  refine ⟨h.1, ?_⟩
  rcases h.2 with h2 | ⟨g', cap, cur, hv, hg, hh, r⟩
  · exact .inl h2
  · simp only [Value.slice.injEq, Option.some.injEq, Addr.mk.injEq] at hv
    obtain ⟨⟨rfl, _⟩, rfl, rfl⟩ := hv
    exact .inr ⟨g, c, cur, rfl, hg, (k.block g (lt_of_block hh) hne).trans hh, r⟩
theorem lies_but {H g off : Nat} {w w' : World} {bs : List Nat} (h : Lies w g off bs) (k : But H w w') (hne : g ≠ H) : Lies w' g off bs := fun i hi => cell_but (h i hi) k hne
theorem reads_but {H n : Nat} {A : Option Addr} {w w' : World} {bs : List Nat} (h : Reads w A n bs) (k : But H w w') (hne : ∀ b, A = some b → b.block ≠ H) : Reads w' A n bs := by
  refine ⟨h.1, fun hn => ?_⟩
  obtain ⟨g, off, rfl, hl⟩ := h.2 hn
  exact ⟨g, off, rfl, lies_but hl k (hne _ rfl)⟩
theorem But.trans2 {H K : Nat} {a b c : World} (h : But H a b) (k : But K b c) (hK : a.heap.size ≤ K) : But H a c :=
  ⟨k.os.trans h.os, k.tape.trans h.tape, k.output.trans h.output, Nat.le_trans h.size k.size, fun g hg hn => (k.block g (by have := h.size; omega) (by omega)).trans (h.block g hg hn)⟩
theorem pathT_len {G : Nat → Nat → Nat → Nat → List Nat → List Nat → List Nat} {bs : List Nat} {wn hn dn : Nat} {dx dy : Int} (hG : ∀ x y u w o p, (G x y u w o p).length = o.length) (x y : Nat) : (pathT G (ownC bs wn dn) wn hn dx dy x y).length = dn := pathF_len G (ownC bs wn dn) wn hn dn dx dy (fun x y => ownC_len bs wn dn x y) hG 24 x y
end Go.Proofs.Ythkfbmboiabolaa
