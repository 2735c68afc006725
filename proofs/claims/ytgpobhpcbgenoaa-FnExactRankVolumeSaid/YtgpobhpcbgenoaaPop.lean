/- Plain: how many of 24 bits are set, as the library reckons it and bit by bit. No program in sight. -/
import Derived.Test.YtgpobhpcbgenoaaPlain
import Derived.Laws.BitsAllLaws
namespace Go.Proofs.Ytgpobhpcbgenoaa
open Go.RowKit
set_option linter.unusedVariables false

/-- The sum of the first k bits. -/
def pcN : Nat → Nat → Nat
  | 0, _ => 0
  | k + 1, d => d % 2 + pcN k (d / 2)
theorem pcN_zero : ∀ k, pcN k 0 = 0
  | 0 => rfl
  | k + 1 => by rw [pcN]; simp [pcN_zero k]
theorem pcN_le : ∀ k d, pcN k d ≤ k
  | 0, _ => Nat.le_refl _
  | k + 1, d => by rw [pcN]; have := pcN_le k (d / 2); omega
theorem pcN_add (j k : Nat) : ∀ x, pcN (j + k) x = pcN j x + pcN k (x / 2 ^ j) := by
  induction j with
  | zero => intro x; simp [pcN]
  | succ j ih =>
    intro x
    rw [show j + 1 + k = (j + k) + 1 by omega, pcN, pcN, ih, Nat.div_div_eq_div_mul, Nat.pow_succ, Nat.mul_comm 2]
    omega
theorem pcN_byte (b r : Nat) (hb : b < 256) : pcN 8 (b + 256 * r) = pcN 8 b := by
  simp only [pcN]
  omega
theorem pcN_split (k b r : Nat) (hb : b < 256) : pcN (8 + k) (b + 256 * r) = pcN 8 b + pcN k r := by
  rw [pcN_add, pcN_byte b r hb]
  congr 2
  omega
theorem and_split {b r m M : Nat} (hb : b < 256) (hm : m < 256) : (b + 256 * r) &&& (m + 256 * M) = (b &&& m) + 256 * (r &&& M) := by
  have hbm : b &&& m < 2 ^ 8 := Nat.and_lt_two_pow _ (by omega)
  apply Nat.eq_of_testBit_eq
  intro i
  have e : ∀ a c : Nat, a + 256 * c = 2 ^ 8 * c + a := fun a c => by omega
  rw [Nat.testBit_and, e, e, e, Nat.testBit_two_pow_mul_add r (show b < 2 ^ 8 by omega), Nat.testBit_two_pow_mul_add M (show m < 2 ^ 8 by omega), Nat.testBit_two_pow_mul_add _ hbm]
  split
  · rw [Nat.testBit_and]
  · rw [Nat.testBit_and]
def s1 (M x : Nat) : Nat := (x / 2 &&& M) + (x &&& M)
def s2 (M x : Nat) : Nat := (x / 4 &&& M) + (x &&& M)
def s3 (M x : Nat) : Nat := (x / 16 + x) &&& M
theorem byte1 : ∀ b, b < 256 → ∀ t, t < 2 → (b / 2 + 128 * t) &&& 85 = b / 2 &&& 85 := by decide +kernel
theorem byte1_lt : ∀ b, b < 256 → s1 85 b < 171 := by decide +kernel
theorem byte2 : ∀ b, b < 256 → ∀ t, t < 4 → (b / 4 + 64 * t) &&& 51 = b / 4 &&& 51 := by decide +kernel
theorem byte2_lt : ∀ b, b < 256 → s2 51 (s1 85 b) ≤ 68 ∧ s2 51 (s1 85 b) % 16 ≤ 4 := by decide +kernel
theorem byte3 : ∀ b, b < 256 → s3 15 (s2 51 (s1 85 b)) = pcN 8 b := by decide +kernel
theorem s1_split {b r M : Nat} (hb : b < 256) : s1 (85 + 256 * M) (b + 256 * r) = s1 85 b + 256 * s1 M r := by
  unfold s1
  have h1 : (b + 256 * r) / 2 = (b / 2 + 128 * (r % 2)) + 256 * (r / 2) := by omega
  rw [h1, and_split (by omega) (by omega), and_split hb (by omega), byte1 b hb _ (by omega)]
  omega
theorem s2_split {b r M : Nat} (hb : b < 256) : s2 (51 + 256 * M) (b + 256 * r) = s2 51 b + 256 * s2 M r := by
  unfold s2
  have h1 : (b + 256 * r) / 4 = (b / 4 + 64 * (r % 4)) + 256 * (r / 4) := by omega
  rw [h1, and_split (by omega) (by omega), and_split hb (by omega), byte2 b hb _ (by omega)]
  omega
theorem s3_split {b r M : Nat} (hb : b ≤ 68) (hr : r % 16 ≤ 4) : s3 (15 + 256 * M) (b + 256 * r) = s3 15 b + 256 * s3 M r := by
  unfold s3
  have h1 : (b + 256 * r) / 16 + (b + 256 * r) = (b / 16 + 16 * (r % 16) + b) + 256 * (r / 16 + r) := by omega
  rw [h1, and_split (by omega) (by omega), show (15 : Nat) = 2 ^ 4 - 1 from rfl, Nat.and_two_pow_sub_one_eq_mod, Nat.and_two_pow_sub_one_eq_mod]
  omega
theorem s1_zero (M : Nat) : s1 M 0 = 0 := by simp [s1]
theorem s2_zero (M : Nat) : s2 M 0 = 0 := by simp [s2]
theorem s3_zero (M : Nat) : s3 M 0 = 0 := by simp [s3]
theorem s1_one {b : Nat} (M : Nat) (hb : b < 256) : s1 (85 + 256 * M) b = s1 85 b := by
  have := s1_split (r := 0) (M := M) hb
  rw [s1_zero] at this
  exact this
theorem s2_one {b : Nat} (M : Nat) (hb : b < 256) : s2 (51 + 256 * M) b = s2 51 b := by
  have := s2_split (r := 0) (M := M) hb
  rw [s2_zero] at this
  exact this
theorem s3_one {b : Nat} (M : Nat) (hb : b ≤ 68) : s3 (15 + 256 * M) b = s3 15 b := by
  have := s3_split (r := 0) (M := M) hb (by omega)
  rw [s3_zero] at this
  exact this
theorem mod_sum {a r : Nat} (ha : a % 16 ≤ 4) : (a + 256 * r) % 16 ≤ 4 := by omega
/-- Three bytes. -/
theorem pop_bytes (x : Nat) (hx : x < 16777216) : ∃ p0 p1 p2, p0 ≤ 8 ∧ p1 ≤ 8 ∧ p2 ≤ 8 ∧ s3 1085102592571150095 (s2 3689348814741910323 (s1 6148914691236517205 x)) = p0 + 256 * p1 + 65536 * p2 ∧ pcN 24 x = p0 + p1 + p2 := by
  have hb0 : x % 256 < 256 := by omega
  have hb1 : x / 256 % 256 < 256 := by omega
  have hb2 : x / 65536 < 256 := by omega
  have e : x = x % 256 + 256 * (x / 256 % 256 + 256 * (x / 65536)) := by omega
  generalize x % 256 = b0 at *
  generalize x / 256 % 256 = b1 at *
  generalize x / 65536 = b2 at *
  refine ⟨pcN 8 b0, pcN 8 b1, pcN 8 b2, pcN_le _ _, pcN_le _ _, pcN_le _ _, ?_, ?_⟩
  · have l0 := byte1_lt b0 hb0
    have l1 := byte1_lt b1 hb1
    have l2 := byte1_lt b2 hb2
    have m0 := byte2_lt b0 hb0
    have m1 := byte2_lt b1 hb1
    have m2 := byte2_lt b2 hb2
    have h1 : s1 6148914691236517205 x = s1 85 b0 + 256 * (s1 85 b1 + 256 * s1 85 b2) := by
      rw [e, show (6148914691236517205 : Nat) = 85 + 256 * 24019198012642645 from rfl, s1_split hb0, show (24019198012642645 : Nat) = 85 + 256 * 93824992236885 from rfl, s1_split hb1, show (93824992236885 : Nat) = 85 + 256 * 366503875925 from rfl, s1_one _ hb2]
    have h2 : s2 3689348814741910323 (s1 6148914691236517205 x) = s2 51 (s1 85 b0) + 256 * (s2 51 (s1 85 b1) + 256 * s2 51 (s1 85 b2)) := by
      rw [h1, show (3689348814741910323 : Nat) = 51 + 256 * 14411518807585587 from rfl, s2_split (by omega), show (14411518807585587 : Nat) = 51 + 256 * 56294995342131 from rfl, s2_split (by omega), show (56294995342131 : Nat) = 51 + 256 * 219902325555 from rfl, s2_one _ (by omega)]
    rw [h2, show (1085102592571150095 : Nat) = 15 + 256 * 4238682002231055 from rfl, s3_split m0.1 (mod_sum m1.2), show (4238682002231055 : Nat) = 15 + 256 * 16557351571215 from rfl, s3_split m1.1 m2.2,
      show (16557351571215 : Nat) = 15 + 256 * 64677154575 from rfl, s3_one _ m2.1, byte3 b0 hb0, byte3 b1 hb1, byte3 b2 hb2]
    omega
  · rw [e, show 24 = 8 + 16 from rfl, pcN_split 16 _ _ hb0, show 16 = 8 + 8 from rfl, pcN_split 8 _ _ hb1]
    omega
theorem i64_and_nat (a b : Nat) (ha : a < 9223372036854775808) (hb : b < 9223372036854775808) : bits .and .i64 (a : Int) (b : Int) = ((a &&& b : Nat) : Int) := by
  have hx : a &&& b < 2 ^ 63 := Nat.and_lt_two_pow _ (by omega)
  show IntKind.i64.wrap ((BitVec.ofInt 64 (a : Int) &&& BitVec.ofInt 64 (b : Int)).toNat : Int) = _
  rw [BitVec.toNat_and, ofInt_u64 a (by omega), ofInt_u64 b (by omega)]
  exact IntWalk.i64_in _ (by omega)
theorem i64_xor_nat (a b : Nat) (ha : a < 9223372036854775808) (hb : b < 9223372036854775808) : bits .xor .i64 (a : Int) (b : Int) = ((a ^^^ b : Nat) : Int) := by
  have hx : a ^^^ b < 2 ^ 63 := Nat.xor_lt_two_pow (by omega) (by omega)
  show IntKind.i64.wrap ((BitVec.ofInt 64 (a : Int) ^^^ BitVec.ofInt 64 (b : Int)).toNat : Int) = _
  rw [BitVec.toNat_xor, ofInt_u64 a (by omega), ofInt_u64 b (by omega)]
  exact IntWalk.i64_in _ (by omega)
end Go.Proofs.Ytgpobhpcbgenoaa
