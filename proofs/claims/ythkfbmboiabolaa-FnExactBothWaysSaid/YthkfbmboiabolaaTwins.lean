/- A region whose order is left open, walked with what is kept between any two of its operations: for regions that make two blocks of one shape. No program in sight. -/
import Derived.Test.YthkfbmboiabolaaEdge
namespace Go.Proofs.Ythkfbmboiabolaa
open Go.RowKit
set_option linter.unusedVariables false

section
variable {P : Program}
/-- One operation, told by the steps of the walk. -/
theorem step_wx {ops : Array Oper} {k : Nat} {o : Oper} (ho : ops[k]? = some o) {a : Act} {w : World} {K : Act → World → Prop} {Q' : Exit → Act → World → Prop} (r : Option (Value → World → Prop))
    (h : wx P ops w K [o] k [r] noFacts a) : wpOp P ops Q' k K a w := by
  unfold wx at h
  have h := h (fun _ _ => rfl)
  refine wpOp_of_xOp (rs := fun _ => r) (w0 := w) (F := noFacts) (K := fun F' a' => ∀ W, Ext w W → (∀ i, F' i W) → K a' W) (Ext.refl w) (fun _ => trivial) stays_none (fun F' a' w' hx hF' _ hK => hK w' hx hF') ?_
  unfold xOp
  rw [ho]
  exact h
def undone (l : List Bool) : Nat := l.countP (fun b => !b)
theorem undone_set : ∀ (l : List Bool) (k : Nat), l[k]? = some false → undone (l.set k true) + 1 = undone l
  | [], k, h => by simp at h
  | b :: l, 0, h => by
    have : b = false := by simpa using h
    subst this
    simp [undone]
  | b :: l, k + 1, h => by
    have ih := undone_set l k (by simpa using h)
    unfold undone at ih ⊢
    cases b <;> simp <;> omega
theorem undone_new (n : Nat) : undone (List.replicate n false) = n := by
  unfold undone
  rw [List.countP_replicate]
  rfl
/-- What is kept from operation to operation, n operations long; then the rest. -/
theorem wpAny_keep {ops : Array Oper} {Q : Exit → Act → World → Prop} (n : Nat) (I : Array Bool → Act → World → Prop) (fin : Array Bool)
    (hstep : ∀ listed a w, listed.size = ops.size → I listed a w → ∀ k ∈ Region.ready .any ops listed, k < n → wpOp P ops Q k (fun a' w' => I (listed.setIfInBounds k true) a' w') a w)
    (hend : ∀ listed a w, listed.size = ops.size → I listed a w → (∃ k ∈ Region.ready .any ops listed, n ≤ k) → listed = fin ∧ wpAny P .any ops Q (undone fin.toList) fin a w)
    (hgo : ∀ listed a w, listed.size = ops.size → I listed a w → Region.ready .any ops listed ≠ []) :
    ∀ (f : Nat) (listed : Array Bool) (a : Act) (w : World), listed.size = ops.size → undone listed.toList = f → I listed a w → wpAny P .any ops Q f listed a w := by
  intro f
  induction f with
  | zero =>
    intro listed a w hsz hu hI
    by_cases he : ∃ k ∈ Region.ready .any ops listed, n ≤ k
    · obtain ⟨rfl, h⟩ := hend _ _ _ hsz hI he
      rw [hu] at h
      exact h
    · exfalso
      cases hr : Region.ready .any ops listed with
      | nil => exact hgo _ _ _ hsz hI hr
      | cons k ks =>
        have hk : k ∈ Region.ready .any ops listed := by rw [hr]; simp
        have h1 := (mem_ready.1 hk).1
        have hlt : k < listed.size := by
          rcases Nat.lt_or_ge k listed.size with h | h
          · exact h
          · rw [Array.getD_eq_getD_getElem?, Array.getElem?_eq_none h] at h1; cases h1
        have h2 : listed.toList[k]? = some false := by
          rw [Array.getD_eq_getD_getElem?, Array.getElem?_eq_getElem hlt] at h1
          simp at h1
          simp [hlt, h1]
        have := undone_set _ _ h2
        omega
  | succ f ih =>
    intro listed a w hsz hu hI
    by_cases he : ∃ k ∈ Region.ready .any ops listed, n ≤ k
    · obtain ⟨rfl, h⟩ := hend _ _ _ hsz hI he
      rw [hu] at h
      exact h
    · refine ⟨fun h0 => absurd h0 (hgo _ _ _ hsz hI), fun k hk => ?_⟩
      have hkn : k < n := by
        rcases Nat.lt_or_ge k n with h | h
        · exact h
        · exact absurd ⟨k, hk, h⟩ he
      refine wpOp_mono (fun a' w' h' => ih _ _ _ (by simp [hsz]) ?_ h') (hstep _ _ _ hsz hI k hk hkn)
      have h1 := (mem_ready.1 hk).1
      have hlt : k < listed.size := by
        rcases Nat.lt_or_ge k listed.size with h | h
        · exact h
        · rw [Array.getD_eq_getD_getElem?, Array.getElem?_eq_none h] at h1; cases h1
      have h2 : listed.toList[k]? = some false := by
        rw [Array.getD_eq_getD_getElem?, Array.getElem?_eq_getElem hlt] at h1
        simp at h1
        simp [hlt, h1]
      have := undone_set _ _ h2
      rw [Array.toList_setIfInBounds]
      omega
theorem region_keep {id : Nat} {Q : Exit → Act → World → Prop} {a : Act} {w : World} {l : List Oper} (hm : P.follows .mixedOrders = true) (n : Nat) (I : Array Bool → Act → World → Prop) (fin : Array Bool)
    (h0 : I (Array.replicate l.toArray.size false) a { w with drawn := w.drawn + 1 })
    (hstep : ∀ listed a w, listed.size = l.toArray.size → I listed a w → ∀ k ∈ Region.ready .any l.toArray listed, k < n → wpOp P l.toArray Q k (fun a' w' => I (listed.setIfInBounds k true) a' w') a w)
    (hend : ∀ listed a w, listed.size = l.toArray.size → I listed a w → (∃ k ∈ Region.ready .any l.toArray listed, n ≤ k) → listed = fin ∧ wpAny P .any l.toArray Q (undone fin.toList) fin a w)
    (hgo : ∀ listed a w, listed.size = l.toArray.size → I listed a w → Region.ready .any l.toArray listed ≠ []) : (Code.region id l.toArray true).wp P Q a w := by
  refine wp_region_any hm ?_
  refine wpAny_keep n I fin hstep hend hgo _ _ _ _ (by simp) ?_ h0
  rw [Array.toList_replicate, undone_new]
end
end Go.Proofs.Ythkfbmboiabolaa
