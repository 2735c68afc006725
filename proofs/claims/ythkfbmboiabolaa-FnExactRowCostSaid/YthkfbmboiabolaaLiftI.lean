/- How an argument that is a list of whole numbers is opened. -/
import Derived.Test.YthkfbmboiabolaaLift
import Derived.Test.YthkfbmboiabolaaInts
namespace Go.Proofs.Ythkfbmboiabolaa
open Go.ChangeShapes Go.WideShapes Go.RowKit Go.Joins Go.Deep

section
variable {H : Type} {enc : TypeId × Value → H} {P : Program} {w : World} {base : Nat} {spare : Nat → Bool} {held : Bool}

theorem trod_ints {t e : TypeId} {fuel : Nat} {c : Value} {x : DataW H × List MemPlace} (ht : P.underlying t = some (.slice e)) (he : P.underlying e = some (.int .i64)) (hC : P.cellsOf e = 1)
    (h : DataW.trod enc P w base spare held fuel t [c] = some x) : ∃ A n cap bs, c = .slice A n cap ∧ n ≤ cap ∧ cap ≤ maxLen ∧ ReadsI w A n bs ∧ (∀ z ∈ bs, -9223372036854775808 ≤ z ∧ z ≤ 9223372036854775807) := by
  rcases open_slice1 ht hC h with ⟨hcs, _⟩ | ⟨a, len, cap, m, fu, V, D, Pl, hcs, _, hl, hm, hmm, _, hi⟩
  · have : c = .slice none 0 0 := by simpa using hcs
    subst this
    exact ⟨none, 0, 0, [], rfl, Nat.le_refl _, by simp [maxLen], ⟨rfl, fun h => by omega⟩, fun b hb => by cases hb⟩
  · have : c = .slice (some a) len cap := by simpa using hcs
    subst this
    have hlm : len ≤ m := by rw [hmm]; split <;> omega
    have each : ∀ i, i < len → ∃ b, V i = .int .i64 b ∧ -9223372036854775808 ≤ b ∧ b ≤ 9223372036854775807 := fun i hlt => trod_i64 he (hi i (by omega)).2
    have each' : ∀ i, ∃ b : Int, i < len → V i = .int .i64 b ∧ -9223372036854775808 ≤ b ∧ b ≤ 9223372036854775807 := fun i => by
      by_cases hlt : i < len
      · obtain ⟨b, hb⟩ := each i hlt
        exact ⟨b, fun _ => hb⟩
      · exact ⟨0, fun h => absurd h hlt⟩
    let f : Nat → Int := fun i => Classical.choose (each' i)
    have hf : ∀ i, i < len → V i = .int .i64 (f i) ∧ -9223372036854775808 ≤ f i ∧ f i ≤ 9223372036854775807 := fun i => Classical.choose_spec (each' i)
    clear_value f
    refine ⟨some a, len, cap, (List.range len).map f, rfl, hl, hm, ⟨by simp, fun hn => ?_⟩, fun b hb => ?_⟩
    · obtain ⟨g, off, spot⟩ := a
      have h0 := (hi 0 (by omega)).1
      have hs : spot = none := by simpa [Addr.add] using World.cell?_spot h0
      subst hs
      refine ⟨g, off, rfl, fun i hlt => ?_⟩
      have hlt' : i < len := by simpa using hlt
      have h1 := (hi i (by omega)).1
      rw [add_spot rfl, (hf i hlt').1] at h1
      rw [h1]; simp [List.getD, hlt']
    · obtain ⟨i, hi', rfl⟩ := List.mem_map.1 hb
      exact (hf i (by simpa using hi')).2
end
end Go.Proofs.Ythkfbmboiabolaa
