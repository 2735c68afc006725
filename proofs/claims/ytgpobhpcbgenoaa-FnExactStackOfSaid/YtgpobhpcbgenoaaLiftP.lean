/- How an argument that is a list of pictures is opened. -/
import Derived.Test.YtgpobhpcbgenoaaLift
import Derived.Test.YtgpobhpcbgenoaaStkM
import Derived.Deep.Strs
namespace Go.Proofs.Ytgpobhpcbgenoaa
open Go.ChangeShapes Go.WideShapes Go.RowKit Go.Joins Go.Deep

section
variable {H : Type} {enc : TypeId × Value → H} {P : Program} {w : World} {base : Nat} {spare : Nat → Bool} {held : Bool}

theorem trod_pics {t e eF : TypeId} {f0 f1 f2 : Field} {fuel : Nat} {c : Value} {x : DataW H × List MemPlace} (ht : P.underlying t = some (.slice e)) (he : P.underlying e = some (.struct #[f0, f1, f2])) (ce : P.cellsOf e = 3)
    (o0 : f0.offset = 0) (o1 : f1.offset = 1) (o2 : f2.offset = 2) (c0 : P.cellsOf f0.type = 1) (c1 : P.cellsOf f1.type = 1) (c2 : P.cellsOf f2.type = 1)
    (h0 : P.underlying f0.type = some (.int .i64)) (h1 : P.underlying f1.type = some (.int .i64)) (h2 : P.underlying f2.type = some (.slice eF)) (hF : P.underlying eF = some (.float .f32)) (hC : P.cellsOf eF = 1)
    (h : DataW.trod enc P w base spare held fuel t [c] = some x) : ∃ A n cap ws ht bs, c = .slice A n cap ∧ n ≤ cap ∧ cap ≤ maxLen ∧ ReadsP w A n ws ht bs ∧ ∀ i, i < n → (bs i).length ≤ maxLen ∧ Words (bs i) := by
  rcases open_slice ht h with ⟨hcs, _⟩ | ⟨a, len, cap, m, fu, D, Pl, hcs, _, hl, hm, hmm, _, hi⟩
  · have : c = .slice none 0 0 := by simpa using hcs
    subst this
    exact ⟨none, 0, 0, fun _ => 0, fun _ => 0, fun _ => [], rfl, Nat.le_refl _, by simp [maxLen], fun h => by omega, fun i hi => by omega⟩
  · have : c = .slice (some a) len cap := by simpa using hcs
    subst this
    have hlm : len ≤ m := by rw [hmm]; split <;> omega
    have each : ∀ i, i < len → ∃ q : Int × Int × List Nat, ∃ Ai ci, w.cell? ((a.add (i * 3)).add 0) = some (.int .i64 q.1) ∧ w.cell? ((a.add (i * 3)).add 1) = some (.int .i64 q.2.1) ∧ w.cell? ((a.add (i * 3)).add 2) = some (.slice Ai q.2.2.length ci) ∧ Reads w Ai q.2.2.length q.2.2 ∧ q.2.2.length ≤ ci ∧ ci ≤ maxLen ∧ Words q.2.2 := fun i hlt => by
      obtain ⟨cs', g1, g2⟩ := hi i (by omega)
      rw [ce] at g1
      obtain ⟨_, hlen, hcell⟩ := World.cells?_some g1
      obtain ⟨y0, y1, y2, k, _, _, t0, t1, t2⟩ := trod_struct3 he g2
      match cs', hlen with
      | [v0, v1, v2], _ =>
        have e0 := hcell 0 (by omega)
        have e1 := hcell 1 (by omega)
        have e2 := hcell 2 (by omega)
        simp [o0, c0] at t0
        simp [o1, c1] at t1
        simp [o2, c2] at t2
        obtain ⟨z0, rfl, _⟩ := trod_i64 h0 t0
        obtain ⟨z1, rfl, _⟩ := trod_i64 h1 t1
        obtain ⟨Ai, n', ci, b, rfl, hle, hci, hrd, hwd⟩ := trod_words h2 hF hC t2
        have hbl := hrd.1
        subst hbl
        exact ⟨(z0, z1, b), Ai, ci, by simpa using e0, by simpa using e1, by simpa using e2, hrd, hle, hci, hwd⟩
    have each' : ∀ i, ∃ q : Int × Int × List Nat, i < len → ∃ Ai ci, w.cell? ((a.add (i * 3)).add 0) = some (.int .i64 q.1) ∧ w.cell? ((a.add (i * 3)).add 1) = some (.int .i64 q.2.1) ∧ w.cell? ((a.add (i * 3)).add 2) = some (.slice Ai q.2.2.length ci) ∧ Reads w Ai q.2.2.length q.2.2 ∧ q.2.2.length ≤ ci ∧ ci ≤ maxLen ∧ Words q.2.2 := fun i => by
      by_cases hlt : i < len
      · obtain ⟨q, hq⟩ := each i hlt
        exact ⟨q, fun _ => hq⟩
      · exact ⟨(0, 0, []), fun h => absurd h hlt⟩
    let f : Nat → Int × Int × List Nat := fun i => Classical.choose (each' i)
    have hf : ∀ i, i < len → ∃ Ai ci, w.cell? ((a.add (i * 3)).add 0) = some (.int .i64 (f i).1) ∧ w.cell? ((a.add (i * 3)).add 1) = some (.int .i64 (f i).2.1) ∧ w.cell? ((a.add (i * 3)).add 2) = some (.slice Ai (f i).2.2.length ci) ∧ Reads w Ai (f i).2.2.length (f i).2.2 ∧ (f i).2.2.length ≤ ci ∧ ci ≤ maxLen ∧ Words (f i).2.2 := fun i => Classical.choose_spec (each' i)
    clear_value f
    refine ⟨some a, len, cap, fun i => (f i).1, fun i => (f i).2.1, fun i => (f i).2.2, rfl, hl, hm, fun hn => ?_, fun i hlt => ?_⟩
    · obtain ⟨g, off, spot⟩ := a
      obtain ⟨A0, k0, q0, _⟩ := hf 0 hn
      have hs : spot = none := by simpa [Addr.add] using World.cell?_spot q0
      subst hs
      refine ⟨g, off, rfl, fun i hlt => ?_⟩
      obtain ⟨Ai, ci, q0, q1, q2, q3, q4, q5, q6⟩ := hf i hlt
      rw [add_spot (add_spot rfl)] at q0 q1 q2
      exact ⟨Ai, ci, q0, q1, q2, q3, q4, q5⟩
    · obtain ⟨Ai, ci, _, _, _, _, q4, q5, q6⟩ := hf i hlt
      exact ⟨Nat.le_trans q4 q5, q6⟩
end
end Go.Proofs.Ytgpobhpcbgenoaa
