/- Plain facts: a volume told along a direction; a row of words that is filled cell by cell in another order; all but one row stays. No program in sight. -/
import Derived.Test.YthkfbmboiabolaaAcc2
namespace Go.Proofs.Ythkfbmboiabolaa
open Go.RowKit
set_option linter.unusedVariables false

structure Dir (dx dy : Int) : Prop where
  x : dx = -1 ∨ dx = 0 ∨ dx = 1
  y : dy = -1 ∨ dy = 0 ∨ dy = 1
  n : ¬ (dx = 0 ∧ dy = 0)
/-- The place of the cell before. -/
def preU (dx : Int) (x : Nat) : Nat := ((x : Int) - dx).toNat
def hasP (wn hn : Nat) (dx dy : Int) (x y : Nat) : Prop := (0 ≤ (x : Int) - dx ∧ (x : Int) - dx ≤ (wn : Int) - 1) ∧ 0 ≤ (y : Int) - dy ∧ (y : Int) - dy ≤ (hn : Int) - 1
instance (wn hn : Nat) (dx dy : Int) (x y : Nat) : Decidable (hasP wn hn dx dy x y) := by unfold hasP; infer_instance
def pathF (G : Nat → Nat → Nat → Nat → List Nat → List Nat → List Nat) (own : Nat → Nat → List Nat) (wn hn : Nat) (dx dy : Int) : Nat → Nat → Nat → List Nat
  | 0, x, y => own x y
  | f + 1, x, y => if hasP wn hn dx dy x y then G x y (preU dx x) (preU dy y) (own x y) (pathF G own wn hn dx dy f (preU dx x) (preU dy y)) else own x y
def mu (wn hn : Nat) (dx dy : Int) (x y : Nat) : Nat := if dx = 1 then x else if dx = -1 then wn - 1 - x else if dy = 1 then y else hn - 1 - y
theorem preU_spec {wn hn : Nat} {dx dy : Int} {x y : Nat} (hp : hasP wn hn dx dy x y) : ((preU dx x : Nat) : Int) = (x : Int) - dx ∧ ((preU dy y : Nat) : Int) = (y : Int) - dy ∧ preU dx x < wn ∧ preU dy y < hn := by
  obtain ⟨⟨h1, h2⟩, h3, h4⟩ := hp
  unfold preU
  omega
theorem mu_pre {wn hn : Nat} {dx dy : Int} (hd : Dir dx dy) {x y : Nat} (hx : x < wn) (hy : y < hn) (hp : hasP wn hn dx dy x y) : mu wn hn dx dy (preU dx x) (preU dy y) + 1 = mu wn hn dx dy x y := by
  obtain ⟨h1, h2, h3, h4⟩ := preU_spec hp
  obtain ⟨hdx, hdy, hdn⟩ := hd
  unfold mu
  rcases hdx with rfl | rfl | rfl
  · simp; omega
  · rcases hdy with rfl | rfl | rfl
    · simp; omega
    · exact absurd ⟨rfl, rfl⟩ hdn
    · simp; omega
  · simp; omega
section
variable (G : Nat → Nat → Nat → Nat → List Nat → List Nat → List Nat) (own : Nat → Nat → List Nat) (wn hn dn : Nat) (dx dy : Int)
theorem pathF_succ (f x y : Nat) : pathF G own wn hn dx dy (f + 1) x y = if hasP wn hn dx dy x y then G x y (preU dx x) (preU dy y) (own x y) (pathF G own wn hn dx dy f (preU dx x) (preU dy y)) else own x y := rfl
theorem pathF_stable (hd : Dir dx dy) : ∀ f x y, x < wn → y < hn → mu wn hn dx dy x y < f → pathF G own wn hn dx dy (f + 1) x y = pathF G own wn hn dx dy f x y
  | 0, x, y, _, _, h => absurd h (Nat.not_lt_zero _)
  | f + 1, x, y, hx, hy, h => by
    rw [pathF_succ G own wn hn dx dy (f + 1) x y, pathF_succ G own wn hn dx dy f x y]
    by_cases hp : hasP wn hn dx dy x y
    · rw [if_pos hp, if_pos hp]
      obtain ⟨_, _, h3, h4⟩ := preU_spec hp
      have := mu_pre hd hx hy hp
      rw [pathF_stable hd f _ _ h3 h4 (by omega)]
    · rw [if_neg hp, if_neg hp]
/-- The words of a cell, told along a direction. -/
def pathT (x y : Nat) : List Nat := pathF G own wn hn dx dy 24 x y
theorem pathT_eq (hd : Dir dx dy) (hw : wn ≤ 24) (hh : hn ≤ 24) {x y : Nat} (hx : x < wn) (hy : y < hn) :
    pathT G own wn hn dx dy x y = if hasP wn hn dx dy x y then G x y (preU dx x) (preU dy y) (own x y) (pathT G own wn hn dx dy (preU dx x) (preU dy y)) else own x y := by
  have hm : mu wn hn dx dy x y < 24 := by unfold mu; split <;> (try omega); split <;> (try omega); split <;> omega
  unfold pathT
  rw [← pathF_stable G own wn hn dx dy hd 24 x y hx hy hm, pathF]
theorem pathF_len (ho : ∀ x y, (own x y).length = dn) (hG : ∀ x y u w o p, (G x y u w o p).length = o.length) : ∀ f x y, (pathF G own wn hn dx dy f x y).length = dn
  | 0, x, y => ho x y
  | f + 1, x, y => by
    rw [pathF]
    split
    · rw [hG, ho]
    · exact ho x y
end
/-- The rank of a place in the order of a step. -/
def rk (n : Nat) (d : Int) (i : Nat) : Nat := if d < 0 then n - 1 - i else i
theorem rk_lt {n i : Nat} {d : Int} (h : i < n) : rk n d i < n := by unfold rk; split <;> omega
theorem rk_rk {n i : Nat} {d : Int} (h : i < n) : rk n d (rk n d i) = i := by unfold rk; split <;> omega
def pos (wn hn : Nat) (dx dy : Int) (x y : Nat) : Nat := rk hn dy y * wn + rk wn dx x
theorem lin_lt {w h j k : Nat} (hj : j < w) (hk : k < h) : k * w + j < w * h := by
  have : (k + 1) * w ≤ h * w := Nat.mul_le_mul_right _ hk
  rw [Nat.succ_mul, Nat.mul_comm h w] at this
  omega
theorem pos_lt {wn hn x y : Nat} {dx dy : Int} (hx : x < wn) (hy : y < hn) : pos wn hn dx dy x y < wn * hn := lin_lt (rk_lt hx) (rk_lt hy)
theorem pos_cell {wn hn j k : Nat} {dx dy : Int} (hj : j < wn) (hk : k < hn) : pos wn hn dx dy (rk wn dx j) (rk hn dy k) = k * wn + j := by
  unfold pos; rw [rk_rk hj, rk_rk hk]
theorem lin_inj {w j k j' k' : Nat} (hj : j < w) (hj' : j' < w) (h : k * w + j = k' * w + j') : j = j' ∧ k = k' := by
  have h1 := congrArg (· % w) h
  simp only [Nat.mul_comm _ w, Nat.mul_add_mod, Nat.mod_eq_of_lt hj, Nat.mod_eq_of_lt hj'] at h1
  subst h1
  have h3 : w * k = w * k' := by rw [Nat.mul_comm w k, Nat.mul_comm w k']; omega
  exact ⟨rfl, Nat.eq_of_mul_eq_mul_left (by omega) h3⟩
theorem pos_inj {wn hn x y x' y' : Nat} {dx dy : Int} (hx : x < wn) (hy : y < hn) (hx' : x' < wn) (hy' : y' < hn) (h : pos wn hn dx dy x y = pos wn hn dx dy x' y') : x = x' ∧ y = y' := by
  obtain ⟨h1, h2⟩ := lin_inj (rk_lt hx) (rk_lt hx') h
  have e1 := congrArg (rk wn dx) h1
  have e2 := congrArg (rk hn dy) h2
  rw [rk_rk hx, rk_rk hx'] at e1
  rw [rk_rk hy, rk_rk hy'] at e2
  exact ⟨e1, e2⟩
theorem pos_pre {wn hn x y : Nat} {dx dy : Int} (hd : Dir dx dy) (hx : x < wn) (hy : y < hn) (hp : hasP wn hn dx dy x y) : pos wn hn dx dy (preU dx x) (preU dy y) < pos wn hn dx dy x y := by
  obtain ⟨h1, h2, h3, h4⟩ := preU_spec hp
  have hrx := rk_lt (d := dx) h3
  have hry := rk_lt (d := dy) h4
  obtain ⟨hdx, hdy, hdn⟩ := hd
  have hcase : rk hn dy (preU dy y) + 1 = rk hn dy y ∨ (rk hn dy (preU dy y) = rk hn dy y ∧ rk wn dx (preU dx x) + 1 = rk wn dx x) := by
    rcases hdy with rfl | rfl | rfl
    · left; unfold rk; simp; omega
    · right
      refine ⟨by unfold rk; simp; omega, ?_⟩
      rcases hdx with rfl | rfl | rfl
      · unfold rk; simp; omega
      · exact absurd ⟨rfl, rfl⟩ hdn
      · unfold rk; simp; omega
    · left; unfold rk; simp; omega
  unfold pos
  rcases hcase with h | ⟨h, h'⟩
  · rw [← h, Nat.succ_mul]; omega
  · rw [h]; omega

/-- A row of words whose first t cells in an order are told by T; if s, the others by own. -/
def Tab (s : Bool) (T own : Nat → Nat → List Nat) (wn hn dn : Nat) (dx dy : Int) (cs : List Nat) (t : Nat) : Prop :=
  cs.length = wn * hn * dn ∧ ∀ x y e, x < wn → y < hn → e < dn → (pos wn hn dx dy x y < t → nrm (cs.getD ((y * wn + x) * dn + e) 0) = (T x y).getD e 0) ∧ (s = true → ¬ pos wn hn dx dy x y < t → nrm (cs.getD ((y * wn + x) * dn + e) 0) = (own x y).getD e 0)
theorem Tab.skip {s : Bool} {T own : Nat → Nat → List Nat} {wn hn dn : Nat} {dx dy : Int} {cs : List Nat} {X Y : Nat} (hX : X < wn) (hY : Y < hn) (h : Tab true T own wn hn dn dx dy cs (pos wn hn dx dy X Y)) (hT : T X Y = own X Y) : Tab true T own wn hn dn dx dy cs (pos wn hn dx dy X Y + 1) := by
  refine ⟨h.1, fun x y e hx hy he => ⟨fun ht => ?_, fun hs ht => (h.2 x y e hx hy he).2 hs (by omega)⟩⟩
  by_cases hlt : pos wn hn dx dy x y < pos wn hn dx dy X Y
  · exact (h.2 x y e hx hy he).1 hlt
  · obtain ⟨rfl, rfl⟩ := pos_inj hx hy hX hY (show pos wn hn dx dy x y = pos wn hn dx dy X Y by omega)
    rw [hT]
    exact (h.2 x y e hx hy he).2 rfl hlt
theorem Tab.put {s : Bool} {T own : Nat → Nat → List Nat} {wn hn dn : Nat} {dx dy : Int} {cs cs' : List Nat} {X Y : Nat} (hX : X < wn) (hY : Y < hn) (h : Tab s T own wn hn dn dx dy cs (pos wn hn dx dy X Y)) (hl : cs'.length = cs.length)
    (hn1 : ∀ x y e, x < wn → y < hn → e < dn → ¬ (x = X ∧ y = Y) → cs'.getD ((y * wn + x) * dn + e) 0 = cs.getD ((y * wn + x) * dn + e) 0) (hn2 : ∀ e, e < dn → nrm (cs'.getD ((Y * wn + X) * dn + e) 0) = (T X Y).getD e 0) : Tab s T own wn hn dn dx dy cs' (pos wn hn dx dy X Y + 1) := by
  refine ⟨hl.trans h.1, fun x y e hx hy he => ?_⟩
  by_cases hxy : x = X ∧ y = Y
  · obtain ⟨rfl, rfl⟩ := hxy
    exact ⟨fun _ => hn2 e he, fun _ hlt => absurd (Nat.lt_succ_self _) hlt⟩
  · rw [hn1 x y e hx hy he hxy]
    refine ⟨fun ht => ?_, fun hs ht => (h.2 x y e hx hy he).2 hs (by omega)⟩
    by_cases hlt : pos wn hn dx dy x y < pos wn hn dx dy X Y
    · exact (h.2 x y e hx hy he).1 hlt
    · exact absurd (pos_inj hx hy hX hY (show pos wn hn dx dy x y = pos wn hn dx dy X Y by omega)) hxy
theorem range_getD {L : List Nat} {d : Nat} (h : L.length = d) : (List.range d).map (fun e => L.getD e 0) = L := by
  refine List.ext_getElem (by simp [h]) (fun i h1 h2 => ?_)
  simp [List.getD_eq_getElem?_getD, List.getElem?_eq_getElem h2]
theorem cube_in {wn hn dn x y e : Nat} (hx : x < wn) (hy : y < hn) (he : e < dn) : (y * wn + x) * dn + e < wn * hn * dn := by
  have h1 := lin_lt hx hy
  have h2 : (y * wn + x + 1) * dn ≤ wn * hn * dn := Nat.mul_le_mul_right _ h1
  rw [Nat.succ_mul] at h2
  omega
theorem Tab.read {s : Bool} {T own : Nat → Nat → List Nat} {wn hn dn : Nat} {dx dy : Int} {cs : List Nat} {t x y : Nat} (h : Tab s T own wn hn dn dx dy cs t) (hx : x < wn) (hy : y < hn) (ht : pos wn hn dx dy x y < t) (hT : (T x y).length = dn) (hd : 0 < dn) :
    ((cs.drop ((y * wn + x) * dn)).take dn).map nrm = T x y := by
  have h1 := cube_in (dn := dn) (e := dn - 1) hx hy (by omega)
  rw [drop_take_nrm cs _ dn (by rw [h.1]; omega), ← range_getD hT]
  refine List.map_congr_left fun e he => ?_
  have he := List.mem_range.1 he
  exact (h.2 x y e hx hy he).1 ht
theorem Tab.done {s : Bool} {T own : Nat → Nat → List Nat} {wn hn dn : Nat} {dx dy : Int} {cs : List Nat} (h : Tab s T own wn hn dn dx dy cs (wn * hn)) : cs.map nrm = cells3 (fun x y e => (T x y).getD e 0) wn dn (wn * hn * dn) := by
  refine List.ext_getElem (by rw [List.length_map, h.1, cells3_length]) (fun i h1 h2 => ?_)
  have hi : i < wn * hn * dn := by rw [List.length_map, h.1] at h1; exact h1
  obtain ⟨hx, hy, he, hi2⟩ := cube_split hi
  have h3 := (h.2 _ _ _ hx hy he).1 (pos_lt hx hy)
  have h4 : (i / dn / wn * wn + i / dn % wn) * dn + i % dn = i := by rw [Nat.mul_comm (i / dn / wn) wn, Nat.add_comm (wn * _) _]; exact hi2
  rw [h4] at h3
  simp only [cells3, List.getElem_map, List.getElem_range]
  rw [← h3, List.getD_eq_getElem?_getD, List.getElem?_eq_getElem (by rw [h.1]; exact hi), Option.getD_some]
/-- One cell's words laid anew. -/
def lay (cs : List Nat) (k : Nat) (b : List Nat) : List Nat := cs.take k ++ (b ++ cs.drop (k + b.length))
theorem lay_length {cs b : List Nat} {k : Nat} (h : k + b.length ≤ cs.length) : (lay cs k b).length = cs.length := by unfold lay; simp; omega
theorem lay_in {cs b : List Nat} {k e : Nat} (h : k + b.length ≤ cs.length) (he : e < b.length) : (lay cs k b).getD (k + e) 0 = b.getD e 0 := by
  unfold lay
  rw [List.getD_eq_getElem?_getD, List.getElem?_append_right (by simp; omega), List.length_take, Nat.min_eq_left (by omega), Nat.add_sub_cancel_left, List.getElem?_append_left he, List.getD_eq_getElem?_getD]
theorem lay_out {cs b : List Nat} {k i : Nat} (h : k + b.length ≤ cs.length) (hi : i < k ∨ k + b.length ≤ i) : (lay cs k b).getD i 0 = cs.getD i 0 := by
  unfold lay
  rcases hi with hi | hi
  · rw [List.getD_eq_getElem?_getD, List.getElem?_append_left (by simp; omega), List.getElem?_take_of_lt hi, List.getD_eq_getElem?_getD]
  · rw [List.getD_eq_getElem?_getD, List.getElem?_append_right (by simp; omega), List.getElem?_append_right (by simp; omega), List.getElem?_drop, List.getD_eq_getElem?_getD]
    congr 2
    simp
    omega
theorem cell_apart {wn dn x y X Y e : Nat} (hx : x < wn) (hX : X < wn) (he : e < dn) (hne : ¬ (x = X ∧ y = Y)) : (y * wn + x) * dn + e < (Y * wn + X) * dn ∨ (Y * wn + X) * dn + dn ≤ (y * wn + x) * dn + e := by
  rcases Nat.lt_trichotomy (y * wn + x) (Y * wn + X) with h | h | h
  · left
    have : (y * wn + x + 1) * dn ≤ (Y * wn + X) * dn := Nat.mul_le_mul_right _ h
    rw [Nat.succ_mul] at this; omega
  · exact absurd (lin_inj hx hX h) hne
  · right
    have : (Y * wn + X + 1) * dn ≤ (y * wn + x) * dn := Nat.mul_le_mul_right _ h
    rw [Nat.succ_mul] at this; omega
/-- A cell is laid anew. -/
theorem Tab.lay {s : Bool} {T own : Nat → Nat → List Nat} {wn hn dn : Nat} {dx dy : Int} {cs b : List Nat} {X Y : Nat} (hX : X < wn) (hY : Y < hn) (h : Tab s T own wn hn dn dx dy cs (pos wn hn dx dy X Y)) (hd : 0 < dn) (hb : b.length = dn) (hT : b.map nrm = T X Y) :
    Tab s T own wn hn dn dx dy (lay cs ((Y * wn + X) * dn) b) (pos wn hn dx dy X Y + 1) := by
  have h1 := cube_in (dn := dn) (e := dn - 1) hX hY (by omega)
  have hfit : (Y * wn + X) * dn + b.length ≤ cs.length := by rw [hb, h.1]; omega
  refine h.put hX hY (lay_length hfit) (fun x y e hx hy he hne => lay_out hfit (by rw [hb]; exact cell_apart hx hX he hne)) (fun e he => ?_)
  rw [lay_in hfit (by omega), ← hT]
  simp [List.getD_eq_getElem?_getD, List.getElem?_eq_getElem (show e < b.length by omega)]

/-- All but block H stays. -/
structure But (H : Nat) (w w' : World) : Prop where
  os : w'.os = w.os
  tape : w'.tape = w.tape
  output : w'.output = w.output
  size : w.heap.size ≤ w'.heap.size
  block : ∀ g, g < w.heap.size → g ≠ H → w'.heap[g]? = w.heap[g]?
theorem But.refl (H : Nat) (w : World) : But H w w := ⟨rfl, rfl, rfl, Nat.le_refl _, fun _ _ _ => rfl⟩
theorem But.ext {H : Nat} {w w' w'' : World} (h : But H w w') (e : Ext w' w'') : But H w w'' :=
  ⟨e.os.trans h.os, e.tape.trans h.tape, e.output.trans h.output, Nat.le_trans h.size e.size, fun g hg hn => (e.block g (by have := h.size; omega)).trans (h.block g hg hn)⟩
theorem But.of {H : Nat} {w w' : World} (e : Ext w w') : But H w w' := (But.refl H w).ext e
theorem But.trans {H : Nat} {a b c : World} (h : But H a b) (k : But H b c) : But H a c :=
  ⟨k.os.trans h.os, k.tape.trans h.tape, k.output.trans h.output, Nat.le_trans h.size k.size, fun g hg hn => (k.block g (by have := h.size; omega) hn).trans (h.block g hg hn)⟩
theorem But.set {H : Nat} {w w' : World} (h : But H w w') (i : Nat) (u : Value) : But H w (w'.setCell ⟨H, i, none⟩ u) :=
  ⟨h.os, h.tape, h.output, by simpa [World.setCell] using h.size, fun g hg hn => by rw [← h.block g hg hn]; simp [World.setCell, Array.getElem?_modify, Ne.symm hn]⟩
theorem But.toExt {H : Nat} {u w w' : World} (e : Ext u w) (hH : u.heap.size ≤ H) (h : But H w w') : Ext u w' :=
  ⟨h.os.trans e.os, h.tape.trans e.tape, h.output.trans e.output, Nat.le_trans e.size h.size, fun g hg => (h.block g (by have := e.size; omega) (by omega)).trans (e.block g hg)⟩
theorem cell_but {H g i : Nat} {w w' : World} {v : Value} (h : w.cell? ⟨g, i, none⟩ = some v) (k : But H w w') (hne : g ≠ H) : w'.cell? ⟨g, i, none⟩ = some v := by
  have hb := k.block g (lt_of_cell h) hne
  simp only [World.cell?, hb] at h ⊢
  exact h
theorem Box4.but {H g : Nat} {w w' : World} {p q r s : Value} (h : Box4 w g p q r s) (k : But H w w') (hne : g ≠ H) : Box4 w' g p q r s := ⟨cell_but h.1 k hne, cell_but h.2.1 k hne, cell_but h.2.2.1 k hne, cell_but h.2.2.2 k hne⟩
theorem Box3.but {H g : Nat} {w w' : World} {p q r : Value} (h : Box3 w g p q r) (k : But H w w') (hne : g ≠ H) : Box3 w' g p q r := ⟨cell_but h.1 k hne, cell_but h.2.1 k hne, cell_but h.2.2 k hne⟩
theorem Box2.but {H g : Nat} {w w' : World} {p q : Value} (h : Box2 w g p q) (k : But H w w') (hne : g ≠ H) : Box2 w' g p q := ⟨cell_but h.1 k hne, cell_but h.2 k hne⟩
theorem frozen_but {H g i : Nat} {w w' : World} {v : Value} (hf : w.frozen? ⟨g, i, none⟩ = false) (h : w.cell? ⟨g, i, none⟩ = some v) (k : But H w w') (hne : g ≠ H) : w'.frozen? ⟨g, i, none⟩ = false := by
  have hb := k.block g (lt_of_cell h) hne
  simp only [World.frozen?, hb] at hf ⊢
  exact hf
theorem Res4.but {H g : Nat} {w w' : World} (h : Res4 w g) (k : But H w w') (hne : g ≠ H) : Res4 w' g :=
  ⟨cell_but h.c0 k hne, cell_but h.c1 k hne, cell_but h.c2 k hne, cell_but h.c3 k hne, frozen_but h.f0 h.c0 k hne, frozen_but h.f1 h.c1 k hne, frozen_but h.f2 h.c2 k hne, frozen_but h.f3 h.c3 k hne⟩
/-- A cell of a row of the call's own is laid anew by copy. -/
theorem OwnF.laid {w : World} {base : Nat} {e : TypeId} {g n c : Nat} {cs : List Nat} (h : OwnF w base e (.slice (some ⟨g, 0, none⟩) n c) cs) :
    ∃ cur : Array Value, w.heap[g]? = some (.cells cur e (0, 0)) ∧ cs.length ≤ cur.size ∧ ∀ (k : Nat) (b : List Nat), k + b.length ≤ cs.length →
      OwnF (w.setRow g (cur.toList.take k ++ (b.map fl ++ cur.toList.drop (k + b.length))).toArray) base e (.slice (some ⟨g, 0, none⟩) n c) (lay cs k b) ∧ But g w (w.setRow g (cur.toList.take k ++ (b.map fl ++ cur.toList.drop (k + b.length))).toArray) := by
  rcases h.2 with ⟨h2, _⟩ | ⟨g', cap, cur, hv, hg, hh, hnc, hcm, hsz, ht⟩
  · simp at h2
  · simp only [Value.slice.injEq, Option.some.injEq, Addr.mk.injEq] at hv
    obtain ⟨⟨rfl, _⟩, rfl, rfl⟩ := hv
    rw [Nat.mul_one] at ht hsz
    refine ⟨cur, hh, by omega, fun k b hk => ⟨⟨by simp, .inr ⟨g, c, (cur.toList.take k ++ (b.map fl ++ cur.toList.drop (k + b.length))).toArray, ?_, hg, ?_, ?_, hcm, ?_, ?_⟩⟩, ?_⟩⟩
    · rw [lay_length hk]
    · exact setRow_heap w g _ _ e _ hh
    · rw [lay_length hk]; exact hnc
    · rw [Nat.mul_one]; simp; omega
    · rw [lay_length hk, Nat.mul_one]
      have hcur : cur.toList = cs.map fl ++ cur.toList.drop cs.length := by rw [← ht, List.take_append_drop]
      show (cur.toList.take k ++ (b.map fl ++ cur.toList.drop (k + b.length))).take cs.length = (lay cs k b).map fl
      have h1 : cur.toList.take k = (cs.take k).map fl := by
        rw [hcur, List.take_append_of_le_length (by simp; omega), List.map_take]
      have h2 : cur.toList.drop (k + b.length) = (cs.drop (k + b.length)).map fl ++ cur.toList.drop cs.length := by
        rw [hcur, List.drop_append_of_le_length (by simp; omega), List.map_drop, ← hcur]
      rw [h1, h2]
      unfold lay
      rw [List.map_append, List.map_append, ← List.append_assoc, ← List.append_assoc, List.take_append_of_le_length (by simp; omega)]
      rw [List.take_of_length_le (by simp; omega), List.append_assoc]
    · refine ⟨rfl, rfl, rfl, by simp [World.setRow], fun g' hg' hne => setRow_other w g g' _ hne⟩
end Go.Proofs.Ythkfbmboiabolaa
