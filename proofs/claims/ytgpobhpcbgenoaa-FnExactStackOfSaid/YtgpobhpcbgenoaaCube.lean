/- The costs of a volume as a list; a row that is filled in place. No program in sight. -/
import Derived.Test.YtgpobhpcbgenoaaAcc
namespace Go.Proofs.Ytgpobhpcbgenoaa
open Go.RowKit

/-- The values of F in cells of d, rows of w cells, the first n. -/
def cells3 (F : Nat → Nat → Nat → Nat) (w d n : Nat) : List Nat := (List.range n).map fun i => F (i / d % w) (i / d / w) (i % d)
theorem cells3_length (F : Nat → Nat → Nat → Nat) (w d n : Nat) : (cells3 F w d n).length = n := by simp [cells3]
theorem cells3_zero (F : Nat → Nat → Nat → Nat) (w d : Nat) : cells3 F w d 0 = [] := rfl
theorem cube_at {w d j l : Nat} (k : Nat) (hj : j < w) (hl : l < d) : ((k * w + j) * d + l) / d % w = j ∧ ((k * w + j) * d + l) / d / w = k ∧ ((k * w + j) * d + l) % d = l := by
  have h0 : ((k * w + j) * d + l) / d = k * w + j := by
    rw [Nat.mul_comm, Nat.mul_add_div (by omega), Nat.div_eq_of_lt hl]; rfl
  refine ⟨?_, ?_, ?_⟩
  · rw [h0, Nat.mul_comm, Nat.mul_add_mod]; exact Nat.mod_eq_of_lt hj
  · rw [h0, Nat.mul_comm, Nat.mul_add_div (by omega), Nat.div_eq_of_lt hj]; rfl
  · rw [Nat.mul_comm, Nat.mul_add_mod]; exact Nat.mod_eq_of_lt hl
theorem cells3_step (F : Nat → Nat → Nat → Nat) (w d k j l : Nat) (hj : j < w) (hl : l < d) : cells3 F w d ((k * w + j) * d + l + 1) = cells3 F w d ((k * w + j) * d + l) ++ [F j k l] := by
  obtain ⟨h1, h2, h3⟩ := cube_at k hj hl
  unfold cells3
  rw [List.range_succ, List.map_append]
  simp [h1, h2, h3]
theorem cells3_cell (F : Nat → Nat → Nat → Nat) (w d k j : Nat) : cells3 F w d ((k * w + j) * d + d) = cells3 F w d ((k * w + (j + 1)) * d) := by
  rw [← Nat.add_assoc, Nat.succ_mul (k * w + j)]
theorem cells3_row (F : Nat → Nat → Nat → Nat) (w d k : Nat) : cells3 F w d ((k * w + w) * d) = cells3 F w d ((k + 1) * w * d) := by rw [Nat.succ_mul k]
/-- Where a cell's word lies. -/
theorem cube_split {w h d i : Nat} (hi : i < w * h * d) : i / d % w < w ∧ i / d / w < h ∧ i % d < d ∧ (i / d % w + w * (i / d / w)) * d + i % d = i := by
  have hd : 0 < d := by
    rcases Nat.eq_zero_or_pos d with h0 | h0
    · subst h0; omega
    · exact h0
  have hq : i / d < w * h := Nat.div_lt_of_lt_mul (by rw [Nat.mul_comm]; exact hi)
  have hw : 0 < w := by
    rcases Nat.eq_zero_or_pos w with h0 | h0
    · subst h0; omega
    · exact h0
  refine ⟨Nat.mod_lt _ hw, Nat.div_lt_of_lt_mul hq, Nat.mod_lt _ hd, ?_⟩
  rw [Nat.mod_add_div, Nat.mul_comm]
  exact Nat.div_add_mod i d
theorem cells3_congr {F G : Nat → Nat → Nat → Nat} {w h d : Nat} (hF : ∀ x y e, x < w → y < h → e < d → F x y e = G x y e) : cells3 F w d (w * h * d) = cells3 G w d (w * h * d) := by
  unfold cells3
  refine List.map_congr_left fun i hi => ?_
  obtain ⟨h1, h2, h3, _⟩ := cube_split (List.mem_range.1 hi)
  exact hF _ _ _ h1 h2 h3
theorem cells3_flat {F : Nat → Nat → Nat → Nat} {G : Nat → Nat} {w h d : Nat} (hF : ∀ x y e, x < w → y < h → e < d → F x y e = G ((x + w * y) * d + e)) : cells3 F w d (w * h * d) = (List.range (w * h * d)).map G := by
  unfold cells3
  refine List.map_congr_left fun i hi => ?_
  obtain ⟨h1, h2, h3, h4⟩ := cube_split (List.mem_range.1 hi)
  rw [hF _ _ _ h1 h2 h3, h4]
theorem cells_split {w h i : Nat} (hi : i < w * h) : i % w < w ∧ i / w < h ∧ i % w + w * (i / w) = i := by
  have hw : 0 < w := by
    rcases Nat.eq_zero_or_pos w with h0 | h0
    · subst h0; omega
    · exact h0
  exact ⟨Nat.mod_lt _ hw, Nat.div_lt_of_lt_mul hi, Nat.mod_add_div i w⟩
theorem cells_flat {F : Nat → Nat → Nat} {G : Nat → Nat} {w h : Nat} (hF : ∀ x y, x < w → y < h → F x y = G (x + w * y)) : cells F w (w * h) = (List.range (w * h)).map G := by
  unfold cells
  refine List.map_congr_left fun i hi => ?_
  obtain ⟨h1, h2, h4⟩ := cells_split (List.mem_range.1 hi)
  rw [hF _ _ h1 h2, h4]
theorem cube_le {w h d k j l : Nat} (hwh : w * h ≤ 256) (hd : d ≤ 8) (hk : k < h) (hj : j < w) (hl : l < d) : (k * w + j) * d + l + 1 ≤ 2048 ∧ (k * w + j) * d + l < w * h * d := by
  have h1 : (k + 1) * w ≤ h * w := Nat.mul_le_mul_right _ hk
  rw [Nat.succ_mul, Nat.mul_comm h w] at h1
  have h2 : (k * w + j + 1) * d ≤ w * h * d := Nat.mul_le_mul_right _ (by omega)
  have h3 : w * h * d ≤ 256 * 8 := Nat.mul_le_mul hwh hd
  rw [Nat.succ_mul] at h2
  omega

/-- A word of a row of the call's own is put. -/
theorem OwnF.put {w : World} {base : Nat} {e : TypeId} {g n c : Nat} {bs : List Nat} (h : OwnF w base e (.slice (some ⟨g, 0, none⟩) n c) bs) (i : Nat) (r : Nat) :
    OwnF (w.setCell ⟨g, i, none⟩ (fl r)) base e (.slice (some ⟨g, 0, none⟩) n c) (bs.set i r) := by
  refine ⟨by simp, ?_⟩
  rcases h.2 with ⟨h2, _⟩ | ⟨g', cap, cur, hv, hg, hh, hnc, hcm, hsz, ht⟩
  · simp at h2
  · simp only [Value.slice.injEq, Option.some.injEq, Addr.mk.injEq] at hv
    obtain ⟨⟨rfl, _⟩, rfl, rfl⟩ := hv
    refine .inr ⟨g, c, cur.setIfInBounds i (fl r), by simp, hg, ?_, by simpa using hnc, hcm, by simpa using hsz, ?_⟩
    · simp [World.setCell, Array.getElem?_modify, hh]
    · rw [Array.toList_setIfInBounds, List.take_set, List.length_set, ht, List.map_set]
/-- What a row of the call's own tells of its cells. -/
theorem OwnF.cell {w : World} {base : Nat} {e : TypeId} {g n c : Nat} {bs : List Nat} (h : OwnF w base e (.slice (some ⟨g, 0, none⟩) n c) bs) {i : Nat} (hi : i < bs.length) : w.cell? ⟨g, i, none⟩ = some (fl (bs.getD i 0)) := by
  obtain ⟨g', off, he, hl⟩ := h.reads.2 (by have := h.len; omega)
  simp only [Option.some.injEq, Addr.mk.injEq] at he
  obtain ⟨rfl, rfl, _⟩ := he
  have := hl i hi
  simpa using this
theorem OwnF.cool {w : World} {base : Nat} {e : TypeId} {g n c : Nat} {bs : List Nat} (h : OwnF w base e (.slice (some ⟨g, 0, none⟩) n c) bs) (i : Nat) : w.frozen? ⟨g, i, none⟩ = false := by
  rcases h.2 with ⟨h2, _⟩ | ⟨g', cap, cur, hv, hg, hh, hnc, hcm, hsz, ht⟩
  · simp at h2
  · simp only [Value.slice.injEq, Option.some.injEq, Addr.mk.injEq] at hv
    obtain ⟨⟨rfl, _⟩, rfl, rfl⟩ := hv
    simp [World.frozen?, hh]
theorem OwnF.ge {w : World} {base : Nat} {e : TypeId} {g n c : Nat} {bs : List Nat} (h : OwnF w base e (.slice (some ⟨g, 0, none⟩) n c) bs) : base ≤ g ∧ g < w.heap.size := h.row g rfl
theorem OwnF.at {w : World} {base : Nat} {e : TypeId} {A : Option Addr} {n c : Nat} {bs : List Nat} (h : OwnF w base e (.slice A n c) bs) (hn : 0 < bs.length) : ∃ g, A = some ⟨g, 0, none⟩ := by
  rcases h.2 with ⟨h2, h3⟩ | ⟨g', cap, cur, hv, hg, hh, hnc, hcm, hsz, ht⟩
  · omega
  · simp only [Value.slice.injEq] at hv
    exact ⟨g', hv.1⟩
/-- A row whose first i words are told anew. -/
structure Fil (W wr : World) (B : Nat) (e : TypeId) (g n c : Nat) (old : List Nat) (i : Nat) (G : Nat → Nat) : Prop where
  own : ∃ ns, OwnF wr B e (.slice (some ⟨g, 0, none⟩) n c) (ns ++ old.drop i) ∧ ns.length = i ∧ ns.map nrm = (List.range i).map G
  len : old.length = n
  le : i ≤ n
  ext : Ext W wr
theorem Fil.start {W wr : World} {B : Nat} {e : TypeId} {g n c : Nat} {old : List Nat} {G : Nat → Nat} (h : OwnF wr B e (.slice (some ⟨g, 0, none⟩) n c) old) (hx : Ext W wr) : Fil W wr B e g n c old 0 G :=
  ⟨⟨[], by simpa using h, rfl, rfl⟩, h.len.symm, Nat.zero_le _, hx⟩
theorem Fil.cell {W wr : World} {B : Nat} {e : TypeId} {g n c : Nat} {old : List Nat} {i : Nat} {G : Nat → Nat} (h : Fil W wr B e g n c old i G) {k : Nat} (hk : k < n) (hi : i ≤ k) : wr.cell? ⟨g, k, none⟩ = some (fl (old.getD k 0)) := by
  obtain ⟨ns, ho, hl, hm⟩ := h.own
  have hlen := h.len
  rw [ho.cell (by simp; omega)]
  congr 2
  simp [List.getD_eq_getElem?_getD, List.getElem?_append_right (show ns.length ≤ k by omega), List.getElem?_drop, show i + (k - ns.length) = k by omega]
theorem Fil.cool {W wr : World} {B : Nat} {e : TypeId} {g n c : Nat} {old : List Nat} {i : Nat} {G : Nat → Nat} (h : Fil W wr B e g n c old i G) (k : Nat) : wr.frozen? ⟨g, k, none⟩ = false := by
  obtain ⟨ns, ho, hl, hm⟩ := h.own
  exact ho.cool k
theorem Fil.ge {W wr : World} {B : Nat} {e : TypeId} {g n c : Nat} {old : List Nat} {i : Nat} {G : Nat → Nat} (h : Fil W wr B e g n c old i G) : B ≤ g ∧ g < wr.heap.size := by
  obtain ⟨ns, ho, hl, hm⟩ := h.own
  exact ho.ge
theorem Fil.later {W wr w1 : World} {B : Nat} {e : TypeId} {g n c : Nat} {old : List Nat} {i : Nat} {G : Nat → Nat} (h : Fil W wr B e g n c old i G) (hx : Ext wr w1) : Fil W w1 B e g n c old i G := by
  obtain ⟨ns, ho, hl, hm⟩ := h.own
  exact ⟨⟨ns, ho.ext hx, hl, hm⟩, h.len, h.le, h.ext.trans hx⟩
theorem Fil.put {W wr : World} {B : Nat} {e : TypeId} {g n c : Nat} {old : List Nat} {i : Nat} {G : Nat → Nat} (h : Fil W wr B e g n c old i G) (hi : i < n) (hB : W.heap.size ≤ B) {r : Nat} (hr : Is r (G i)) :
    Fil W (wr.setCell ⟨g, i, none⟩ (fl r)) B e g n c old (i + 1) G := by
  obtain ⟨ns, ho, hl, hm⟩ := h.own
  have hlen := h.len
  refine ⟨⟨ns ++ [r], ?_, by simp; omega, ?_⟩, h.len, hi, h.ext.setCell (by have := ho.ge.1; dsimp only; omega) _⟩
  · have := ho.put i r
    rw [List.set_append_right _ _ (by omega), hl, Nat.sub_self, List.drop_eq_getElem_cons (show i < old.length by omega)] at this
    rw [List.append_assoc]
    exact this
  · rw [List.map_append, hm, List.range_succ, List.map_append]; simp [hr.2]
/-- Nothing is put: the word stays. -/
theorem Fil.keep {W wr : World} {B : Nat} {e : TypeId} {g n c : Nat} {old : List Nat} {i : Nat} {G : Nat → Nat} (h : Fil W wr B e g n c old i G) (hi : i < n) (hr : nrm (old.getD i 0) = G i) : Fil W wr B e g n c old (i + 1) G := by
  obtain ⟨ns, ho, hl, hm⟩ := h.own
  have hlen := h.len
  refine ⟨⟨ns ++ [old.getD i 0], ?_, by simp; omega, ?_⟩, h.len, hi, h.ext⟩
  · have h2 : old.drop i = old.getD i 0 :: old.drop (i + 1) := by
      rw [List.drop_eq_getElem_cons (show i < old.length by omega)]
      congr 1
      simp [List.getD_eq_getElem?_getD, List.getElem?_eq_getElem (show i < old.length by omega)]
    rw [h2] at ho
    rw [List.append_assoc]
    exact ho
  · rw [List.map_append, hm, List.range_succ, List.map_append, List.map_singleton, List.map_singleton, hr]
theorem Fil.done {W wr : World} {B : Nat} {e : TypeId} {g n c : Nat} {old : List Nat} {G : Nat → Nat} (h : Fil W wr B e g n c old n G) : ∃ bs, bs.length = n ∧ OwnF wr B e (.slice (some ⟨g, 0, none⟩) n c) bs ∧ bs.map nrm = (List.range n).map G := by
  obtain ⟨ns, ho, hl, hm⟩ := h.own
  have hlen := h.len
  rw [List.drop_eq_nil_of_le (by omega), List.append_nil] at ho
  exact ⟨ns, hl, ho, hm⟩
/-- Another block's cells and marks stay. -/
theorem set_cell_ne {w : World} {g i b j : Nat} {v u : Value} (h : w.cell? ⟨b, j, none⟩ = some v) (hne : b ≠ g) : (w.setCell ⟨g, i, none⟩ u).cell? ⟨b, j, none⟩ = some v := by
  rw [cell_set_ne (fun he => hne he.1)]; exact h
theorem Lies.set_ne {w : World} {g i b off : Nat} {bs : List Nat} {u : Value} (h : Lies w b off bs) (hne : b ≠ g) : Lies (w.setCell ⟨g, i, none⟩ u) b off bs := fun k hk => set_cell_ne (h k hk) hne
theorem Box4.set_ne {w : World} {g i b : Nat} {p q r s u : Value} (h : Box4 w b p q r s) (hne : b ≠ g) : Box4 (w.setCell ⟨g, i, none⟩ u) b p q r s := ⟨set_cell_ne h.1 hne, set_cell_ne h.2.1 hne, set_cell_ne h.2.2.1 hne, set_cell_ne h.2.2.2 hne⟩
theorem Box3.set_ne {w : World} {g i b : Nat} {p q r u : Value} (h : Box3 w b p q r) (hne : b ≠ g) : Box3 (w.setCell ⟨g, i, none⟩ u) b p q r := ⟨set_cell_ne h.1 hne, set_cell_ne h.2.1 hne, set_cell_ne h.2.2 hne⟩
/-- A fresh volume of a result. -/
structure Res4 (w : World) (g : Nat) : Prop where
  c0 : w.cell? ⟨g, 0, none⟩ = some (.int .i64 0)
  c1 : w.cell? ⟨g, 1, none⟩ = some (.int .i64 0)
  c2 : w.cell? ⟨g, 2, none⟩ = some (.int .i64 0)
  c3 : w.cell? ⟨g, 3, none⟩ = some (.slice none 0 0)
  f0 : w.frozen? ⟨g, 0, none⟩ = false
  f1 : w.frozen? ⟨g, 1, none⟩ = false
  f2 : w.frozen? ⟨g, 2, none⟩ = false
  f3 : w.frozen? ⟨g, 3, none⟩ = false
/-- A fresh map or picture of a result. -/
structure Res3 (w : World) (g : Nat) : Prop where
  c0 : w.cell? ⟨g, 0, none⟩ = some (.int .i64 0)
  c1 : w.cell? ⟨g, 1, none⟩ = some (.int .i64 0)
  c2 : w.cell? ⟨g, 2, none⟩ = some (.slice none 0 0)
  f0 : w.frozen? ⟨g, 0, none⟩ = false
  f1 : w.frozen? ⟨g, 1, none⟩ = false
  f2 : w.frozen? ⟨g, 2, none⟩ = false
theorem frozen_set_ne {w : World} {g i b j : Nat} {u : Value} (h : w.frozen? ⟨b, j, none⟩ = false) (hne : b ≠ g) : (w.setCell ⟨g, i, none⟩ u).frozen? ⟨b, j, none⟩ = false := by
  simp only [World.frozen?, World.setCell] at h ⊢
  simpa [Array.getElem?_modify, Ne.symm hne] using h
theorem frozen_ext {w w' : World} {g i : Nat} {v : Value} (h : w.frozen? ⟨g, i, none⟩ = false) (hc : w.cell? ⟨g, i, none⟩ = some v) (e : Ext w w') : w'.frozen? ⟨g, i, none⟩ = false := (e.marks _ _ (by rw [hc]; rfl)).trans h
theorem Res4.ext {w w' : World} {g : Nat} (h : Res4 w g) (e : Ext w w') : Res4 w' g :=
  ⟨cell_ext h.c0 e, cell_ext h.c1 e, cell_ext h.c2 e, cell_ext h.c3 e, frozen_ext h.f0 h.c0 e, frozen_ext h.f1 h.c1 e, frozen_ext h.f2 h.c2 e, frozen_ext h.f3 h.c3 e⟩
theorem Res3.ext {w w' : World} {g : Nat} (h : Res3 w g) (e : Ext w w') : Res3 w' g :=
  ⟨cell_ext h.c0 e, cell_ext h.c1 e, cell_ext h.c2 e, frozen_ext h.f0 h.c0 e, frozen_ext h.f1 h.c1 e, frozen_ext h.f2 h.c2 e⟩
theorem Res4.set_ne {w : World} {g i b : Nat} {u : Value} (h : Res4 w b) (hne : b ≠ g) : Res4 (w.setCell ⟨g, i, none⟩ u) b :=
  ⟨set_cell_ne h.c0 hne, set_cell_ne h.c1 hne, set_cell_ne h.c2 hne, set_cell_ne h.c3 hne, frozen_set_ne h.f0 hne, frozen_set_ne h.f1 hne, frozen_set_ne h.f2 hne, frozen_set_ne h.f3 hne⟩
theorem Res3.set_ne {w : World} {g i b : Nat} {u : Value} (h : Res3 w b) (hne : b ≠ g) : Res3 (w.setCell ⟨g, i, none⟩ u) b :=
  ⟨set_cell_ne h.c0 hne, set_cell_ne h.c1 hne, set_cell_ne h.c2 hne, frozen_set_ne h.f0 hne, frozen_set_ne h.f1 hne, frozen_set_ne h.f2 hne⟩
theorem Res4.lt {w : World} {g : Nat} (h : Res4 w g) : g < w.heap.size := lt_of_cell h.c0
theorem Res3.lt {w : World} {g : Nat} (h : Res3 w g) : g < w.heap.size := lt_of_cell h.c0
/-- A row of words and a block of another kind. -/
theorem OwnF.ne_block {w : World} {base : Nat} {e t : TypeId} {v : Value} {bs : List Nat} {cs : Array Value} {H : Nat} {fz : Nat × Nat} (h : OwnF w base e v bs) (hH : w.heap[H]? = some (.cells cs t fz)) (hne : e ≠ t) : ∀ g, v.ownBlock = some g → g ≠ H := by
  intro g hg he
  subst he
  rcases h.2 with ⟨rfl, _⟩ | ⟨g', cap, cur, rfl, hb, hgg, rest⟩
  · simp [Value.ownBlock] at hg
  · simp [Value.ownBlock] at hg
    subst hg
    rw [hgg] at hH
    simp at hH
    exact hne hH.2.1
theorem OwnF.set_ne {w : World} {base : Nat} {e : TypeId} {v : Value} {bs : List Nat} (h : OwnF w base e v bs) {a : Addr} (ha : ∀ g, v.ownBlock = some g → g ≠ a.block) (u : Value) : OwnF (w.setCell a u) base e v bs := by
  refine ⟨h.1, ?_⟩
  rcases h.2 with h2 | ⟨g', cap, cur, rfl, hb, hgg, rest⟩
  · exact .inl h2
  · refine .inr ⟨g', cap, cur, rfl, hb, ?_, rest⟩
    have hne := ha g' (by simp [Value.ownBlock])
    simp [World.setCell, Array.getElem?_modify, Ne.symm hne, hgg]
end Go.Proofs.Ytgpobhpcbgenoaa
