/- Contracts: the place of a value. -/
import Derived.Test.YthkfbmboiabolaaRound
import Derived.Test.YthkfbmboiabolaaMaps
import Derived.Laws.Externs
namespace Go.Proofs.Ythkfbmboiabolaa
open Go.RowKit
open Ieee
set_option linter.unusedVariables false

theorem shl_int {n k a : Nat} {j : Int} (hn : n = k * 2 ^ a) (hj : j = -(a : Int)) (ha : a ≤ 1074) : n <<< (j + 1074).toNat = k * G74 := by
  have h1 : (j + 1074).toNat = E74 - a := by rw [E74_eq]; omega
  have h2 : a + (E74 - a) = E74 := by rw [E74_eq]; omega
  rw [h1, Nat.shiftLeft_eq, hn, Nat.mul_assoc, ← Nat.pow_add, h2]
  rfl
theorem compare_gt {x y : Int} : (compare x y == .gt) = decide (y < x) := by
  rcases Int.lt_trichotomy x y with h | h | h
  · rw [Int.compare_eq_lt.2 h]; simp; omega
  · rw [Int.compare_eq_eq.2 h]; simp; omega
  · rw [Int.compare_eq_gt.2 h]; simp; omega
theorem compare_lt {x y : Int} : (compare x y == .lt) = decide (x < y) := by
  rcases Int.lt_trichotomy x y with h | h | h
  · rw [Int.compare_eq_lt.2 h]; simp; omega
  · rw [Int.compare_eq_eq.2 h]; simp; omega
  · rw [Int.compare_eq_gt.2 h]; simp; omega
/-- Whether a value has a place. -/
def pok (x : Nat) : Bool := finB x && !ltF x 3204448256
theorem half_mag : finB 3204448256 = true ∧ vneg 3204448256 = true ∧ 2 * vmag 3204448256 = G74 := by
  have hr : single.read 3204448256 = .number true 8388608 (-24) := by decide +kernel
  refine ⟨by decide +kernel, by unfold vneg; rw [hr]; rfl, ?_⟩
  unfold vmag
  rw [hr]
  show 2 * (8388608 <<< ((-24 : Int) + 1074).toNat) = G74
  have h1 : ((-24 : Int) + 1074).toNat = E74 - 24 := by rw [E74_eq]; omega
  have h2 : 24 + (E74 - 24) = E74 := by rw [E74_eq]
  rw [h1, Nat.shiftLeft_eq, ← Nat.mul_assoc, show 2 * 8388608 = 2 ^ 24 by decide, ← Nat.pow_add, h2]
  rfl
theorem pok_fin {x : Nat} (h : pok x = true) : finB x = true := by
  unfold pok at h; simp only [Bool.and_eq_true] at h; exact h.1
/-- A value below nought that has a place: it is nought. -/
theorem pok_neg {x : Nat} (h : pok x = true) (hn : vneg x = true) : rnd (vmag x) = 0 := by
  have hf := pok_fin h
  unfold pok ltF at h
  obtain ⟨h1, h2, h3⟩ := half_mag
  rw [fcmp_sv hf h1, hn, h2] at h
  simp only [Bool.and_eq_true, hf, true_and, Bool.not_eq_true'] at h
  have h4 : (compare (sg true (vmag x)) (sg true (vmag 3204448256)) == Ordering.lt) = false := by simpa using h
  rw [compare_lt] at h4
  simp only [sg, if_true, decide_eq_false_iff_not] at h4
  exact rnd_half (by omega)
theorem sg_rnd {x : Nat} (h : pok x = true) (k : Nat) : sg (vneg x) (rnd (vmag x) * k) = ((rnd (vmag x) * k : Nat) : Int) := by
  unfold sg
  cases hn : vneg x with
  | false => simp
  | true => rw [pok_neg h hn]; simp
theorem fti_rnd {x : Nat} (h : pok x = true) (hR : rnd (vmag x) ≤ 1048576) : floatToIntVal .f64 (rndW x) .i64 = some (rnd (vmag x) : Int) := by
  obtain ⟨m', p', h1, h2, h3⟩ := rndW_read (pok_fin h)
  have hd : FloatKind.f64.decode (rndW x) = .number (vneg x) m' p' := h1
  unfold floatToIntVal
  rw [hd, toInt_sv _ _ _ h2, h3, Nat.mul_div_cancel _ G74_pos]
  have := sg_rnd h 1
  rw [Nat.mul_one] at this
  rw [this]
  have e1 : IntKind.i64.min = -9223372036854775808 := rfl
  have e2 : IntKind.i64.max = 9223372036854775807 := rfl
  exact if_pos ⟨by omega, by omega⟩
theorem gt24 {x : Nat} (h : pok x = true) : (FloatKind.f64.format.order (rndW x) 4627448617123184640 == some .gt) = decide (24 < rnd (vmag x)) := by
  obtain ⟨m', p', h1, h2, h3⟩ := rndW_read (pok_fin h)
  have hc : double.read 4627448617123184640 = .number false 6755399441055744 (-48) := by decide +kernel
  show (Format.order double (rndW x) 4627448617123184640 == some .gt) = _
  unfold Format.order
  have hs : 6755399441055744 <<< ((-48 : Int) + 1074).toNat = 24 * G74 := shl_int (k := 24) (a := 48) (by decide) (by decide) (by omega)
  rw [h1, hc, order_sv _ _ _ _ _ _ h2 (by omega), h3, sg_rnd h, hs]
  show (compare _ _ == Ordering.gt) = _
  rw [compare_gt]
  have hp := G74_pos
  have e : sg false (24 * G74) = ((24 * G74 : Nat) : Int) := rfl
  rw [e]
  by_cases hlt : 24 < rnd (vmag x)
  · have := Nat.mul_lt_mul_of_pos_right hlt hp
    rw [decide_eq_true hlt, decide_eq_true (by omega)]
  · have := Nat.mul_le_mul_right G74 (show rnd (vmag x) ≤ 24 by omega)
    rw [decide_eq_false hlt, decide_eq_false (by omega)]
/-- How the double word stands to 2 ^ 20. -/
theorem ord20 (w : World) {x : Nat} (h : pok x = true) : ∃ o, FloatKind.f64.format.order (cvR w x) 4697254411347427328 = some o ∧ (o = .lt → rnd (vmag x) ≤ 1048576) ∧ (o = .gt → 1048576 ≤ rnd (vmag x)) ∧ (o = .eq → rnd (vmag x) = 1048576 ∧ (FloatKind.f64.decode (cvR w x)).neg = false) := by
  obtain ⟨m', p', h1, h2, h3⟩ := cv_read w (pok_fin h)
  have hc : double.read 4697254411347427328 = .number false 4503599627370496 (-32) := by decide +kernel
  have ho : FloatKind.f64.format.order (cvR w x) 4697254411347427328 = some (compare (sg (vneg x) (vmag x)) ((1048576 * G74 : Nat) : Int)) := by
    show Format.order double _ _ = _
    unfold Format.order
    have hs : 4503599627370496 <<< ((-32 : Int) + 1074).toNat = 1048576 * G74 := shl_int (k := 1048576) (a := 32) (by decide) (by decide) (by omega)
    rw [h1, hc, order_sv _ _ _ _ _ _ h2 (by omega), h3, hs]
    rfl
  have hp := G74_pos
  refine ⟨_, ho, fun hl => ?_, fun hl => ?_, fun hl => ?_⟩
  · cases hn : vneg x with
    | true => rw [pok_neg h hn]; omega
    | false =>
      rw [hn] at hl
      have := Int.compare_eq_lt.1 hl
      unfold sg at this
      exact rnd_le (by simp at this; omega)
  · cases hn : vneg x with
    | true =>
      rw [hn] at hl
      have := Int.compare_eq_gt.1 hl
      unfold sg at this
      simp at this
      omega
    | false =>
      rw [hn] at hl
      have := Int.compare_eq_gt.1 hl
      unfold sg at this
      exact rnd_ge (by simp at this; omega)
  · have hq := Int.compare_eq_eq.1 hl
    cases hn : vneg x with
    | true =>
      rw [hn] at hq
      unfold sg at hq
      simp at hq
      omega
    | false =>
      rw [hn] at hq
      unfold sg at hq
      have hv : vmag x = 1048576 * G74 := by simp at hq; omega
      refine ⟨by rw [hv, rnd_mul], ?_⟩
      show (double.read (cvR w x)).neg = false
      rw [h1, hn]; rfl
end Go.Proofs.Ythkfbmboiabolaa
