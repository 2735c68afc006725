/- How the arguments of a law are opened: prices, maps, pictures, volumes, lists of words and of integers. -/
import Derived.Test.YtgpobhpcbgenoaaSteps
import Derived.Test.YtgpobhpcbgenoaaChecked
import Derived.Lib.SmallJoins
import Derived.Deep.Slices
import Derived.Carry
import Derived.OpenShut
namespace Go.Proofs.Ytgpobhpcbgenoaa
open Go.ChangeShapes Go.WideShapes Go.RowKit Go.Joins Go.Deep

theorem own : ownKnob Try.prog.godebug = none := by kernel_rfl
theorem laidOut : laidOutB Try.prog = true := by kernel_rfl

section
variable {H : Type} {enc : TypeId × Value → H} {P : Program} {w : World} {base : Nat} {spare : Nat → Bool} {held : Bool}

theorem trod_word {e : TypeId} {fuel : Nat} {c : Value} {x : DataW H × List MemPlace} (he : P.underlying e = some (.float .f32)) (h : DataW.trod enc P w base spare held fuel e [c] = some x) :
    ∃ b, c = .float .f32 b ∧ b < 4294967296 := by
  cases fuel with
  | zero => simp [DataW.trod] at h
  | succ n =>
    unfold DataW.trod at h
    rw [he] at h
    split at h <;> simp_all
    rename_i h2
    subst h2
    obtain ⟨⟨_, hw⟩, _⟩ := h
    simpa [Lit.wf] using hw

theorem add_spot {ad : Addr} {g off : Nat} {i : Nat} (h : ad = ⟨g, off, none⟩) : ad.add i = ⟨g, off + i, none⟩ := by
  subst h
  unfold Addr.add; split <;> simp_all

theorem trod_words {t e : TypeId} {fuel : Nat} {c : Value} {x : DataW H × List MemPlace} (ht : P.underlying t = some (.slice e)) (he : P.underlying e = some (.float .f32)) (hC : P.cellsOf e = 1)
    (h : DataW.trod enc P w base spare held fuel t [c] = some x) : ∃ A n cap bs, c = .slice A n cap ∧ n ≤ cap ∧ cap ≤ maxLen ∧ Reads w A n bs ∧ Words bs := by
  rcases open_slice1 ht hC h with ⟨hcs, _⟩ | ⟨a, len, cap, m, fu, V, D, Pl, hcs, _, hl, hm, hmm, _, hi⟩
  · have : c = .slice none 0 0 := by simpa using hcs
    subst this
    exact ⟨none, 0, 0, [], rfl, Nat.le_refl _, by simp [maxLen], ⟨rfl, fun h => by omega⟩, fun b hb => by cases hb⟩
  · have : c = .slice (some a) len cap := by simpa using hcs
    subst this
    have hlm : len ≤ m := by rw [hmm]; split <;> omega
    have each : ∀ i, i < len → ∃ b, V i = .float .f32 b ∧ b < 4294967296 := fun i hlt => trod_word he (hi i (by omega)).2
    obtain ⟨f, hf⟩ := choose_lt each
    refine ⟨some a, len, cap, (List.range len).map f, rfl, hl, hm, ⟨by simp, fun hn => ?_⟩, fun b hb => ?_⟩
    · obtain ⟨g, off, spot⟩ := a
      have h0 := (hi 0 (by omega)).1
      have hs : spot = none := by simpa [Addr.add] using World.cell?_spot h0
      subst hs
      refine ⟨g, off, rfl, fun i hlt => ?_⟩
      have hlt' : i < len := by simpa using hlt
      have h1 := (hi i (by omega)).1
      rw [add_spot rfl, (hf i hlt').1] at h1
      rw [h1]; simp [List.getD, hlt']
    · obtain ⟨i, hi', rfl⟩ := List.mem_map.1 hb
      exact (hf i (by simpa using hi')).2

theorem trod_i64 {e : TypeId} {fuel : Nat} {c : Value} {x : DataW H × List MemPlace} (he : P.underlying e = some (.int .i64)) (h : DataW.trod enc P w base spare held fuel e [c] = some x) :
    ∃ n : Int, c = .int .i64 n ∧ -9223372036854775808 ≤ n ∧ n ≤ 9223372036854775807 := by
  obtain ⟨n, hc, _, hw⟩ := DataW.trod_int he h
  have h2 : IntKind.i64.min ≤ n ∧ n ≤ IntKind.i64.max := by simpa [Lit.wf] using hw
  exact ⟨n, by simpa using hc, h2.1, h2.2⟩
end
end Go.Proofs.Ytgpobhpcbgenoaa
