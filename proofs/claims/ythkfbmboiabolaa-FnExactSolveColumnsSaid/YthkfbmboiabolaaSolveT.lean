/- Plain: the row that costs least, told as a table. And the contract of the number of the first least. -/
import Derived.Test.YthkfbmboiabolaaPrice
import Derived.Test.YthkfbmboiabolaaFin
import Derived.Test.YthkfbmboiabolaaAcc2
import Derived.Test.YthkfbmboiabolaaSpecV
namespace Go.Proofs.Ythkfbmboiabolaa
open Go.RowKit
set_option linter.unusedVariables false

/-- The number of the first least of the first words; 0 without any. -/
def flI (F : Nat → Nat) : Nat → Nat
  | 0 => 0
  | k + 1 => if ltF (F k) (F (flI F k)) = true then k else flI F k
theorem flI_le (F : Nat → Nat) : ∀ k, flI F k ≤ k - 1
  | 0 => Nat.le_refl _
  | k + 1 => by
    have := flI_le F k
    unfold flI
    split <;> omega
theorem flI_lt (F : Nat → Nat) {k : Nat} (h : 0 < k) : flI F k < k := by have := flI_le F k; omega
theorem ltF_nrm (a b : Nat) : ltF (nrm a) (nrm b) = ltF a b := by unfold ltF; rw [fcmp_nrm]
theorem flI_congr {F X : Nat → Nat} {n : Nat} (h : ∀ i, i < n → nrm (F i) = X i) : ∀ k, k ≤ n → flI F k = flI X k
  | 0, _ => rfl
  | k + 1, hk => by
    have ih := flI_congr h k (by omega)
    unfold flI
    rw [ih]
    have h1 := h k (by omega)
    have h2 := h (flI X k) (by have := flI_le X k; omega)
    rw [← h1, ← h2, ltF_nrm]
/-- What it costs to come to d from q. -/
def solF (p0 p1 : Nat) (T : Nat → Nat) (d q : Nat) : Nat := fop .add (T q) (nrm (priceX p0 p1 (q : Int) (d : Int)))
/-- The least cost of the row's beginning that ends in d; where it came from; the way back. -/
def solT (C : Nat → Nat → Nat) (p0 p1 dn : Nat) : Nat → Nat → Nat
  | 0, d => C 0 d
  | x + 1, d => fop .add (solF p0 p1 (solT C p0 p1 dn x) d (flI (solF p0 p1 (solT C p0 p1 dn x) d) dn)) (C (x + 1) d)
def solP (C : Nat → Nat → Nat) (p0 p1 dn x d : Nat) : Nat := flI (solF p0 p1 (solT C p0 p1 dn x) d) dn
def solB (C : Nat → Nat → Nat) (p0 p1 dn wn : Nat) : Nat → Nat
  | 0 => flI (solT C p0 p1 dn (wn - 1)) dn
  | k + 1 => solP C p0 p1 dn (wn - 2 - k) (solB C p0 p1 dn wn k)
theorem solP_lt (C : Nat → Nat → Nat) (p0 p1 : Nat) {dn : Nat} (h : 0 < dn) (x d : Nat) : solP C p0 p1 dn x d < dn := flI_lt _ h
theorem solB_lt (C : Nat → Nat → Nat) (p0 p1 : Nat) {dn : Nat} (h : 0 < dn) (wn k : Nat) : solB C p0 p1 dn wn k < dn := by
  cases k with
  | zero => exact flI_lt _ h
  | succ k => exact solP_lt C p0 p1 h _ _
def solL (C : Nat → Nat → Nat) (p0 p1 dn wn : Nat) : List Int := (List.range wn).map fun x => ((solB C p0 p1 dn wn (wn - 1 - x) : Nat) : Int)
/-- What the row costs. -/
def solV (C : Nat → Nat → Nat) (p0 p1 dn wn : Nat) : Nat := solT C p0 p1 dn (wn - 1) (flI (solT C p0 p1 dn (wn - 1)) dn)
/-- No cost of the row is less than zero or no number. -/
def SolOk (C : Nat → Nat → Nat) (wn dn : Nat) : Prop := ∀ x d, x < wn → d < dn → geF (C x d) 0 = true
set_option maxHeartbeats 1000000 in
theorem firstLeast_any (gb off n c : Nat) (F : Nat → Nat) (U : World) (hn : n ≤ 1048576) (hl : ∀ i, i < n → U.cell? ⟨gb, off + i, none⟩ = some (fl (F i))) :
    Calls Try.prog 80 #[.slice (some ⟨gb, off, none⟩) n c] U fun e U' => e = .returned (.int .i64 (flI F n : Nat)) ∧ U = U' := by
  have HL := Lib.hid hl
  clear hl
  go_enter Try.func80, Try.ntmps80
  go_wp2_with fail
  go_loopw [3, 8] (fun bb i wr => ∃ k : Nat, k ≤ n ∧ i = .int .i64 k ∧ bb = .int .i64 (flI F k : Nat) ∧ U = wr) (fun _ i _ => n - (intOf i).toNat)
  case atStart => exact ⟨0, Nat.zero_le _, rfl, rfl, rfl⟩
  case round =>
    obtain ⟨k, hk, rfl, rfl, rfl⟩ := hrel
    by_cases hlt : k < n
    · have hck := HL.out k hlt
      have hle := flI_le F k
      have hcb := HL.out (flI F k) (by omega)
      have hstep : flI F (k + 1) = if ltF (F k) (F (flI F k)) = true then k else flI F k := rfl
      generalize flI F k = b at hcb hstep hle ⊢
      have hord : (FloatKind.f32.format.order (F k) (F b) == some .lt) = ltF (F k) (F b) := rfl
      generalize F k = v at hck hord hstep
      generalize F b = u at hcb hord hstep
      have hk0 : (0 : Int) ≤ (k : Int) := by omega
      have hk1 : (k : Int) < (n : Int) := by omega
      have hb0 : (0 : Int) ≤ (b : Int) := by omega
      have hb1 : (b : Int) < (n : Int) := by omega
      have hk2 : wrap64 ((k : Int) + 1) = (k : Int) + 1 := by unfold wrap64; omega
      cases hb : ltF v u with
      | true =>
        rw [hb] at hord hstep
        have HST : Hid (flI F (k + 1) = k) := Lib.hid (by simpa using hstep)
        clear hstep hb hle
        go_wp2
        go_roundw
        case rel => exact ⟨k + 1, by omega, by go_num, by rw [HST.out], by first | rfl | trivial⟩
        case measure => simp [intOf]; omega
      | false =>
        rw [hb] at hord hstep
        have HST : Hid (flI F (k + 1) = b) := Lib.hid (by simpa using hstep)
        clear hstep hb hle
        go_wp2
        go_roundw
        case rel => exact ⟨k + 1, by omega, by go_num, by rw [HST.out], by first | rfl | trivial⟩
        case measure => simp [intOf]; omega
    · obtain rfl : k = n := by omega
      go_wp2
      go_ret
      exact ⟨rfl, rfl⟩
end Go.Proofs.Ythkfbmboiabolaa
