/- Plain: the map of rows that cost least; rows of whole numbers, one behind the other. -/
import Derived.Test.YthkfbmboiabolaaFSolveRow
import Derived.Test.YthkfbmboiabolaaAcc
import Derived.Test.YthkfbmboiabolaaConv
namespace Go.Proofs.Ythkfbmboiabolaa
open Go.RowKit
set_option linter.unusedVariables false

/-- What a solved map hands back. -/
def MapR (W : World) (w h : Int) (L : List Nat) (o : Bool) (e : Ending) (U' : World) : Prop := ∃ A c b, e = .returned (.tuple #[.agg #[.int .i64 w, .int .i64 h, .slice A b.length c], .bool o]) ∧ OwnF U' W.heap.size 23 (.slice A b.length c) b ∧ b.map nrm = L ∧ Ext W U'
def RowsOk (wn hn dn : Nat) (bs : List Nat) : Prop := ∀ y, y < hn → SolOk (rowC wn dn bs y) wn dn
/-- The value of a cell of the map. -/
def rowsF (wn dn p0 p1 : Nat) (bs : List Nat) (x y : Nat) : Nat := floatOfInt .f32 ((solB (rowC wn dn bs y) p0 p1 dn wn (wn - 1 - x) : Nat) : Int)
def RowsSay (wn hn dn p0 p1 : Nat) (bs : List Nat) (w h : Int) (L : List Nat) (o : Bool) : Prop :=
  (RowsOk wn hn dn bs ∧ o = true ∧ w = wn ∧ h = hn ∧ L = cells (rowsF wn dn p0 p1 bs) wn (wn * hn)) ∨ (¬ RowsOk wn hn dn bs ∧ o = false ∧ w = 0 ∧ h = 0 ∧ L = [])
theorem solL_length (C : Nat → Nat → Nat) (p0 p1 dn wn : Nat) : (solL C p0 p1 dn wn).length = wn := by simp [solL]
theorem solL_getD (C : Nat → Nat → Nat) (p0 p1 dn wn : Nat) {x : Nat} (hx : x < wn) : (solL C p0 p1 dn wn).getD x 0 = ((solB C p0 p1 dn wn (wn - 1 - x) : Nat) : Int) := by simp [solL, List.getD, hx]
theorem nrm_ofInt (z : Int) : nrm (floatOfInt .f32 z) = floatOfInt .f32 z := nrm_of _ (isN_ofInt z)
theorem infoU : (Try.prog.info? 36).map (fun i => (i.zero, i.size, i.bytes)) = some (some (.slice none 0 0), 1, 24) := by kernel_rfl
/-- The cells of a list of rows tell the numbers. -/
def RowsU (w : World) (xs : List Value) (k dn : Nat) (Q : Nat → Nat → Int) : Prop :=
  ∀ j, j < k → ∃ ga c, xs[j]? = some (.slice (some ⟨ga, 0, none⟩) dn c) ∧ (∃ cs fz, w.heap[ga]? = some (.cells cs 2 fz)) ∧ ∀ d, d < dn → w.cell? ⟨ga, d, none⟩ = some (it (Q j d))
theorem RowsU.ext {w w' : World} {xs : List Value} {k dn : Nat} {Q : Nat → Nat → Int} (h : RowsU w xs k dn Q) (e : Ext w w') : RowsU w' xs k dn Q := fun j hj => by
  obtain ⟨ga, c, h1, ⟨cs, fz, h2⟩, h3⟩ := h j hj
  exact ⟨ga, c, h1, ⟨cs, fz, (e.block _ (lt_of_block h2)).trans h2⟩, fun d hd => cell_ext (h3 d hd) e⟩
/-- A list of rows of the call's own. -/
def OwnU (w : World) (base : Nat) (v : Value) (k dn : Nat) (Q : Nat → Nat → Int) : Prop := ∃ xs : List Value, w.ownsRow base 36 1 v k xs ∧ RowsU w xs k dn Q
theorem OwnU.ext {w w' : World} {base : Nat} {v : Value} {k dn : Nat} {Q : Nat → Nat → Int} (h : OwnU w base v k dn Q) (e : Ext w w') : OwnU w' base v k dn Q := by
  obtain ⟨xs, h1, h2⟩ := h
  exact ⟨xs, ownsRow_ext1 h1 e, h2.ext e⟩
theorem OwnU.form {w : World} {base : Nat} {v : Value} {k dn : Nat} {Q : Nat → Nat → Int} (h : OwnU w base v k dn Q) : ∃ A c, v = .slice A k c := by
  obtain ⟨xs, h1, h2⟩ := h
  rcases h1.2 with ⟨rfl, rfl⟩ | ⟨g, cap, cur, rfl, r⟩
  · exact ⟨_, _, rfl⟩
  · exact ⟨_, _, rfl⟩
theorem OwnU.made (w : World) (dn : Nat) (Q : Nat → Nat → Int) (base : Nat) (hb : base ≤ w.heap.size) : OwnU (w.alloc (.cells #[] 36)) base (.slice (some ⟨w.heap.size, 0, none⟩) 0 0) 0 dn Q :=
  ⟨[], World.ownsRow_made (size := 1) w #[] 0 hb (by unfold maxLen; omega) rfl, fun j hj => by omega⟩
/-- One row more. -/
theorem ownU_push {Z w2 : World} {base B : Nat} {v v' : Value} {k dn : Nat} {Q : Nat → Nat → Int} {xs : List Value} (hrow : Z.ownsRow base 36 1 v k xs) (hp : RowsU Z xs k dn Q) {g c : Nat} {b : List Int} (hb : OwnI Z B 2 (.slice (some ⟨g, 0, none⟩) dn c) b) (hl : b.length = dn) (hq : ∀ d, d < dn → b.getD d 0 = Q k d)
    (ho : w2.ownsRow base 36 1 v' (k + 1) (xs ++ [.slice (some ⟨g, 0, none⟩) dn c])) (hg : Z.grownBy w2 v.ownBlock) (hdn : 0 < dn) : OwnU w2 base v' (k + 1) dn Q := by
  have hxl : xs.length = k := by have := hrow.1; omega
  have key : ∀ ga (cs : Array Value) fz, Z.heap[ga]? = some (.cells cs 2 fz) → some ga ≠ v.ownBlock := by
    intro ga cs fz hga he
    rcases hrow.2 with ⟨rfl, _⟩ | ⟨g, cap, cur, rfl, _, hh, _⟩
    · simp [Value.ownBlock] at he
    · simp [Value.ownBlock] at he
      subst he
      rw [hh] at hga
      simp at hga
  refine ⟨_, ho, fun j hj => ?_⟩
  by_cases hjk : j < k
  · obtain ⟨ga, c', q0, ⟨cs, fz, q1⟩, q2⟩ := hp j hjk
    refine ⟨ga, c', by rw [List.getElem?_append_left (by omega), q0], ⟨cs, fz, (hg.block _ (lt_of_block q1) (key ga cs fz q1)).trans q1⟩, fun d hd => hg.cell (q2 d hd) (key ga cs fz q1)⟩
  · obtain rfl : j = k := by omega
    obtain ⟨cs, fz, q1⟩ : ∃ cs fz, Z.heap[g]? = some (.cells cs 2 fz) := by
      rcases hb.2 with ⟨h2, _⟩ | ⟨g', cap, cur, hv, hg', hh, _⟩
      · simp at h2
      · simp only [Value.slice.injEq, Option.some.injEq, Addr.mk.injEq] at hv
        obtain ⟨⟨rfl, _⟩, _⟩ := hv
        exact ⟨_, _, hh⟩
    refine ⟨g, c, by rw [List.getElem?_append_right (by omega), hxl]; simp, ⟨cs, fz, (hg.block _ (lt_of_block q1) (key g cs fz q1)).trans q1⟩, fun d hd => ?_⟩
    rw [← hq d hd]
    exact hg.cell (hb.cell (by omega)) (key g cs fz q1)
/-- A store into a block of another kind leaves them. -/
theorem OwnU.set {w : World} {base : Nat} {v : Value} {k dn : Nat} {Q : Nat → Nat → Int} {H i : Nat} {t : TypeId} {ys : List Value} (h : OwnU w base v k dn Q) (hH : Blk w H t ys) (h1 : 36 ≠ t) (h2 : 2 ≠ t) (u : Value) : OwnU (w.setCell ⟨H, i, none⟩ u) base v k dn Q := by
  obtain ⟨xs, hr, hp⟩ := h
  have key : ∀ (q : Nat) (cs' : Array Value) (t' : TypeId) fz', w.heap[q]? = some (.cells cs' t' fz') → t' ≠ t → q ≠ H := by
    intro q cs' t' fz' hq ht he
    subst he
    unfold Blk at hH
    rw [hH] at hq
    simp at hq
    exact ht hq.2.1.symm
  have hblk : ∀ (q : Nat) o, q ≠ H → w.heap[q]? = some o → (w.setCell ⟨H, i, none⟩ u).heap[q]? = some o := fun q o hq ho => by
    simp [World.setCell, Array.getElem?_modify, Ne.symm hq, ho]
  refine ⟨xs, ⟨hr.1, ?_⟩, fun j hj => ?_⟩
  · rcases hr.2 with h3 | ⟨q, cap, cur, hv, hb, hh, r⟩
    · exact .inl h3
    · exact .inr ⟨q, cap, cur, hv, hb, hblk _ _ (key _ _ _ _ hh h1) hh, r⟩
  · obtain ⟨ga, c, q0, ⟨cs, fz, q1⟩, q2⟩ := hp j hj
    have hne := key _ _ _ _ q1 h2
    exact ⟨ga, c, q0, ⟨cs, fz, hblk _ _ hne q1⟩, fun d hd => set_cell_ne (q2 d hd) hne⟩
/-- A block of another kind stays where the rows grow. -/
theorem Blk.grownV {w w' : World} {g base n : Nat} {e t : TypeId} {xs : List Value} {v : Value} {ys : List Value} (h : Blk w g t xs) (ho : w.ownsRow base e 1 v n ys) (hne : e ≠ t) (hg : w.grownBy w' v.ownBlock) : Blk w' g t xs := (hg.block g h.lt (fun he => by
    unfold Blk at h
    rcases ho.2 with ⟨h2, _⟩ | ⟨g', cap, cur, h2, _, hh, _⟩
    · subst h2; simp [Value.ownBlock] at he
    · subst h2
      simp [Value.ownBlock] at he
      subst he
      rw [hh] at h
      simp at h
      exact hne h.2)).trans h
end Go.Proofs.Ythkfbmboiabolaa
