/- A list that grows in a box whose place against its row is not known (their kinds differ). No program in sight. -/
import Derived.Test.YtgpobhpcbgenoaaCube
namespace Go.Proofs.Ytgpobhpcbgenoaa
open Go.RowKit
set_option linter.unusedVariables false

structure Acc2 (W wr : World) (B : Nat) (e t : TypeId) (bv i : Nat) (A : Option Addr) (c : Nat) (bs : List Nat) (L : List Nat) : Prop where
  own : OwnF wr B e (.slice A bs.length c) bs
  blk : ∃ cs fz, wr.heap[bv]? = some (.cells cs t fz)
  hdr : wr.cell? ⟨bv, i, none⟩ = some (.slice A bs.length c)
  fr : wr.frozen? ⟨bv, i, none⟩ = false
  like : bs.map nrm = L
  ext : Ext W wr
  b0 : W.heap.size ≤ B
  b1 : W.heap.size ≤ bv
theorem Acc2.len {W wr : World} {B : Nat} {e t : TypeId} {bv i : Nat} {A : Option Addr} {c : Nat} {bs L : List Nat} (h : Acc2 W wr B e t bv i A c bs L) : bs.length = L.length := by
  have := congrArg List.length h.like
  simpa using this
theorem Acc2.ne {W wr : World} {B : Nat} {e t : TypeId} {bv i : Nat} {A : Option Addr} {c : Nat} {bs L : List Nat} (h : Acc2 W wr B e t bv i A c bs L) (hte : e ≠ t) : ∀ g, (Value.slice A bs.length c).ownBlock = some g → g ≠ bv := by
  obtain ⟨cs, fz, hb⟩ := h.blk
  exact h.own.ne_block hb hte
theorem Acc2.lt {W wr : World} {B : Nat} {e t : TypeId} {bv i : Nat} {A : Option Addr} {c : Nat} {bs L : List Nat} (h : Acc2 W wr B e t bv i A c bs L) : bv < wr.heap.size := lt_of_cell h.hdr
theorem Acc2.later {W wr w1 : World} {B : Nat} {e t : TypeId} {bv i : Nat} {A : Option Addr} {c : Nat} {bs L : List Nat} (h : Acc2 W wr B e t bv i A c bs L) (hx : Ext wr w1) : Acc2 W w1 B e t bv i A c bs L :=
  ⟨h.own.ext hx, by obtain ⟨cs, fz, hb⟩ := h.blk; exact ⟨cs, fz, (hx.block _ (lt_of_cell h.hdr)).trans hb⟩, cell_ext h.hdr hx, (hx.marks _ _ (by rw [h.hdr]; rfl)).trans h.fr, h.like, h.ext.trans hx, h.b0, h.b1⟩
/-- Some words more. -/
theorem Acc2.push {W wr w1 w2 : World} {B : Nat} {e t : TypeId} {bv i : Nat} {A : Option Addr} {c : Nat} {bs L : List Nat} (h : Acc2 W wr B e t bv i A c bs L) (hte : e ≠ t) (hx : Ext wr w1) {v : Value} {rs Xs : List Nat}
    (ho : w2.ownsRow B e 1 v (bs.length + rs.length) (bs.map fl ++ rs.map fl)) (hg : w1.grownBy w2 (Value.slice A bs.length c).ownBlock) (hr : rs.map nrm = Xs) :
    ∃ A' c' bs', v = .slice A' bs'.length c' ∧ Acc2 W (w2.setCell ⟨bv, i, none⟩ v) B e t bv i A' c' bs' (L ++ Xs) ∧
      (w2.cell? ⟨bv, i, none⟩ = some (.slice A bs.length c) ∧ w2.frozen? ⟨bv, i, none⟩ = false) ∧
      (∀ g j u, wr.cell? ⟨g, j, none⟩ = some u → (∀ q, (Value.slice A bs.length c).ownBlock = some q → q ≠ g) → ¬ (g = bv ∧ j = i) → (w2.setCell ⟨bv, i, none⟩ v).cell? ⟨g, j, none⟩ = some u) ∧
      (∀ g j, (wr.cell? ⟨g, j, none⟩).isSome = true → (∀ q, (Value.slice A bs.length c).ownBlock = some q → q ≠ g) → (w2.setCell ⟨bv, i, none⟩ v).frozen? ⟨g, j, none⟩ = wr.frozen? ⟨g, j, none⟩) := by
  have ho' : OwnF w2 B e v (bs ++ rs) := by
    unfold OwnF
    rw [List.length_append, List.map_append]
    exact ho
  obtain ⟨A', c', rfl, _⟩ := ho'.form
  have h1 := h.later hx
  have hne0 := h1.ne hte
  have hrow := (h.own.ext hx).row
  have hne : ∀ g, (∀ q, (Value.slice A bs.length c).ownBlock = some q → q ≠ g) → some g ≠ (Value.slice A bs.length c).ownBlock := fun g hq he => hq g he.symm rfl
  have hc1 : w2.cell? ⟨bv, i, none⟩ = some (.slice A bs.length c) := hg.cell h1.hdr (hne bv hne0)
  have hbl : bv < w1.heap.size := lt_of_cell h1.hdr
  have hf1 : w2.frozen? ⟨bv, i, none⟩ = false := (World.frozen?_of_block (w := w1) (w' := w2) (a := ⟨bv, i, none⟩) (hg.block bv hbl (hne bv hne0))).trans h1.fr
  obtain ⟨cs, fz, hb1⟩ := h1.blk
  have hb2 : w2.heap[bv]? = some (.cells cs t fz) := (hg.block bv hbl (hne bv hne0)).trans hb1
  have hne2 := ho'.ne_block hb2 hte
  have hi : i < cs.size := by
    simp only [World.cell?, hb2] at hc1
    simp at hc1
    exact (Array.getElem?_eq_some_iff.1 hc1).1
  refine ⟨A', c', bs ++ rs, rfl, ⟨ho'.set_ne (fun g hg' => by exact hne2 g hg') _, ⟨cs.setIfInBounds i (.slice A' (bs ++ rs).length c'), fz, ?_⟩, ?_, ?_, ?_, ?_, h.b0, h.b1⟩, ⟨hc1, hf1⟩, ?_, ?_⟩
  · simp [World.setCell, Array.getElem?_modify, hb2]
  · simp [World.setCell, World.cell?, Array.getElem?_modify, hb2, hi]
  · simp only [World.frozen?, World.setCell] at hf1 ⊢
    rw [hb2] at hf1
    simpa [Array.getElem?_modify, hb2] using hf1
  · rw [List.map_append, h.like, hr]
  · exact Ext.setCell (Ext.grown h1.ext hg (fun g hg' => by have := hrow g hg'; have := h.b0; omega)) h.b1 _
  · intro g j u hu hq hne3
    rw [cell_set_ne hne3]
    exact hg.cell (cell_ext hu hx) (hne g hq)
  · intro g j hs hq
    obtain ⟨u, hu⟩ := Option.isSome_iff_exists.1 hs
    have hl : g < w1.heap.size := lt_of_cell (cell_ext hu hx)
    have h3 : w2.frozen? ⟨g, j, none⟩ = wr.frozen? ⟨g, j, none⟩ := (World.frozen?_of_block (a := ⟨g, j, none⟩) (hg.block g hl (hne g hq))).trans (hx.marks g j hs)
    rw [← h3]
    simp only [World.frozen?, World.setCell]
    by_cases hgv : bv = g
    · subst hgv
      simp [Array.getElem?_modify, hb2]
    · simp [Array.getElem?_modify, hgv]
theorem Acc2.below {W wr : World} {B : Nat} {e t : TypeId} {bv i : Nat} {A : Option Addr} {c : Nat} {bs L : List Nat} (h : Acc2 W wr B e t bv i A c bs L) {g : Nat} (hg : g < W.heap.size) : ∀ q, (Value.slice A bs.length c).ownBlock = some q → q ≠ g := by
  intro q hq he
  have := h.own.row q hq
  have := h.b0
  omega
theorem cell_set_eq {w : World} {g i : Nat} {v u : Value} (h : w.cell? ⟨g, i, none⟩ = some v) : (w.setCell ⟨g, i, none⟩ u).cell? ⟨g, i, none⟩ = some u := by
  simp only [World.cell?, World.setCell] at h ⊢
  cases h2 : w.heap[g]? with
  | none => rw [h2] at h; cases h
  | some o =>
    rw [h2] at h
    cases o with
    | cells cs t fz =>
      have hi : i < cs.size := by
        simp at h
        exact (Array.getElem?_eq_some_iff.1 h).1
      simp [Array.getElem?_modify, h2, hi]
    | _ => simp at h
theorem blk_set {w : World} {g : Nat} {t : TypeId} {a : Addr} {u : Value} (h : ∃ cs fz, w.heap[g]? = some (.cells cs t fz)) : ∃ cs fz, (w.setCell a u).heap[g]? = some (.cells cs t fz) := by
  obtain ⟨cs, fz, h⟩ := h
  by_cases hg : a.block = g
  · subst hg
    exact ⟨_, fz, by simp [World.setCell, Array.getElem?_modify, h]; rfl⟩
  · exact ⟨cs, fz, by simp [World.setCell, Array.getElem?_modify, h, hg]⟩
/-- Words that lie in a row. -/
theorem lies_new {w : World} {H off : Nat} {rs : List Nat} (h : Lies w H off rs) : ∀ j u, (rs.map fl)[j]? = some u → w.cell? ((⟨H, off, none⟩ : Addr).add j) = some u := fun j u hu => by
  have hj : j < rs.length := by
    rcases Nat.lt_or_ge j rs.length with h1 | h1
    · exact h1
    · simp [List.getElem?_eq_none (show rs.length ≤ j from h1)] at hu
  have := h j hj
  rw [show ((⟨H, off, none⟩ : Addr).add j) = ⟨H, off + j, none⟩ by unfold Addr.add; split <;> simp_all, this]
  simp [List.getElem?_eq_getElem hj] at hu
  simp [← hu, List.getElem?_eq_getElem hj]
theorem words_one (rs : List Nat) : ∀ u ∈ rs.map fl, u.oneCell' = true := fun u hu => by
  obtain ⟨r, _, rfl⟩ := List.mem_map.1 hu
  rfl
theorem OwnF.lies {w : World} {base : Nat} {e : TypeId} {g n c : Nat} {bs : List Nat} (h : OwnF w base e (.slice (some ⟨g, 0, none⟩) n c) bs) : Lies w g 0 bs := fun i hi => by
  rw [Nat.zero_add]; exact h.cell hi
theorem cells3_block (F : Nat → Nat → Nat → Nat) (w d k j : Nat) (hj : j < w) : ∀ l, l ≤ d → cells3 F w d ((k * w + j) * d + l) = cells3 F w d ((k * w + j) * d) ++ (List.range l).map (fun e => F j k e)
  | 0, _ => by simp
  | l + 1, hl => by
    rw [← Nat.add_assoc, cells3_step F w d k j l hj (by omega), cells3_block F w d k j hj l (by omega), List.range_succ, List.map_append, List.append_assoc]
    rfl
theorem drop_take_nrm (bs : List Nat) (k d : Nat) (h : k + d ≤ bs.length) : ((bs.drop k).take d).map nrm = (List.range d).map (fun e => nrm (bs.getD (k + e) 0)) := by
  refine List.ext_getElem (by simp; omega) (fun i h1 h2 => ?_)
  simp at h1 h2
  simp [List.getD_eq_getElem?_getD, List.getElem?_eq_getElem (show k + i < bs.length by omega)]
end Go.Proofs.Ytgpobhpcbgenoaa
