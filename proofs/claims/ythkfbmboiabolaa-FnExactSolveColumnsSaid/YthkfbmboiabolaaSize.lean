/- Plain facts on single words: a word written and read back; the size of a word; half a word. No program in sight. -/
import Derived.Test.YthkfbmboiabolaaPlain
namespace Go.Proofs.Ythkfbmboiabolaa
open Ieee

theorem log2_eq {m k : Nat} (h1 : 2 ^ k ≤ m) (h2 : m < 2 ^ (k + 1)) : m.log2 = k := by
  have hm : m ≠ 0 := by have := Nat.two_pow_pos k; omega
  have a := (Nat.le_log2 hm).2 h1
  have b := (Nat.log2_lt hm).2 h2
  omega
theorem shl_ne {m : Nat} (hm : m ≠ 0) (k : Nat) : m <<< k ≠ 0 := by
  rw [Nat.shiftLeft_eq]; exact Nat.mul_ne_zero hm (Nat.pos_iff_ne_zero.1 (Nat.two_pow_pos k))
theorem log2_shl {m : Nat} (hm : m ≠ 0) (k : Nat) : (m <<< k).log2 = m.log2 + k := by
  have h1 : 2 ^ m.log2 ≤ m := Nat.log2_self_le hm
  have h2 : m < 2 ^ (m.log2 + 1) := Nat.lt_log2_self
  rw [Nat.shiftLeft_eq]
  refine log2_eq ?_ ?_
  · rw [Nat.pow_add]; exact Nat.mul_le_mul_right _ h1
  · rw [show m.log2 + k + 1 = (m.log2 + 1) + k by omega, Nat.pow_add]; exact Nat.mul_lt_mul_of_pos_right h2 (Nat.two_pow_pos k)

theorem cut_scale (neg : Bool) (n d k : Nat) (hn : n ≠ 0) : Toward.even.cut neg (n <<< k) (d + k) = Toward.even.cut neg n d := by
  have hl : (n <<< k).log2 = n.log2 + k := log2_shl hn k
  have hm : min (d + k) ((n <<< k).log2 + 2) = min d (n.log2 + 2) + k := by rw [hl]; omega
  unfold Toward.cut
  simp only [hm]
  generalize min d (n.log2 + 2) = e
  have hg : 1 <<< (e + k) = (1 <<< e) * 2 ^ k := by simp [Nat.shiftLeft_eq, Nat.pow_add]
  rw [hg, Nat.shiftLeft_eq]
  generalize 1 <<< e = g
  have hp : 0 < 2 ^ k := Nat.two_pow_pos k
  rw [Nat.mul_div_mul_right _ _ hp, Nat.mul_mod_mul_right]
  have h1 : (g * 2 ^ k < 2 * (n % g * 2 ^ k)) = (g < 2 * (n % g)) := by
    rw [← Nat.mul_assoc]; exact propext ⟨fun h => Nat.lt_of_mul_lt_mul_right h, fun h => Nat.mul_lt_mul_of_pos_right h hp⟩
  have h2 : (g * 2 ^ k == 2 * (n % g * 2 ^ k)) = (g == 2 * (n % g)) := by
    rw [← Nat.mul_assoc, Bool.eq_iff_iff]; simp only [beq_iff_eq]; exact ⟨fun h => Nat.eq_of_mul_eq_mul_right hp h, fun h => congrArg (· * 2 ^ k) h⟩
  simp only [h1, h2]
theorem nearest_scale (f : Format) (neg : Bool) (m k : Nat) (p : Int) : f.nearest neg (m <<< k) (p - k) = f.nearest neg m p := by
  by_cases hm : m = 0
  · subst hm; simp [Format.nearest]
  · have hk : m <<< k ≠ 0 := shl_ne hm k
    have hl : (m <<< k).log2 = m.log2 + k := log2_shl hm k
    unfold Format.nearest
    rw [if_neg hk, if_neg hm, hl]
    have hlast : p - (k : Int) + ((m.log2 + k : Nat) : Int) - (f.fractionBits : Int) = p + (m.log2 : Int) - (f.fractionBits : Int) := by omega
    simp only [hlast]
    generalize max (p + (m.log2 : Int) - (f.fractionBits : Int)) f.leastPlace = last
    have hc : Toward.even.cut neg (m <<< k <<< (p - k - last).toNat) (last - (p - k)).toNat = Toward.even.cut neg (m <<< (p - last).toNat) (last - p).toNat := by
      by_cases h1 : last + k ≤ p
      · have h2 : (p - last).toNat = k + (p - k - last).toNat := by omega
        have h3 : (last - (p - k)).toNat = 0 := by omega
        have h4 : (last - p).toNat = 0 := by omega
        rw [h2, h3, h4, Nat.shiftLeft_add]
      · by_cases h5 : last ≤ p
        · have h6 : (p - k - last).toNat = 0 := by omega
          have h7 : (last - p).toNat = 0 := by omega
          obtain ⟨d, hd⟩ : ∃ d, (last - (p - k)).toNat = d := ⟨_, rfl⟩
          obtain ⟨e, he⟩ : ∃ e, (p - last).toNat = e := ⟨_, rfl⟩
          have h8 : k = e + d := by omega
          rw [h6, h7, hd, he, h8, Nat.shiftLeft_zero, Nat.shiftLeft_add]
          have := cut_scale neg (m <<< e) 0 d (shl_ne hm e)
          rwa [Nat.zero_add] at this
        · have h6 : (p - k - last).toNat = 0 := by omega
          have h7 : (p - last).toNat = 0 := by omega
          have h8 : (last - (p - k)).toNat = (last - p).toNat + k := by omega
          rw [h6, h7, h8, Nat.shiftLeft_zero, Nat.shiftLeft_zero]
          exact cut_scale neg m _ k hm
    rw [hc]
theorem cut_zero (neg : Bool) (n : Nat) : Toward.even.cut neg n 0 = n := by
  unfold Toward.cut
  simp [Nat.mod_one]
theorem nearest_sign (m : Nat) (p : Int) (s : Bool) : single.nearest s m p = single.word s (single.nearest false m p) := by
  unfold Format.nearest
  by_cases hm : m = 0
  · simp [hm, Format.word]
  · simp only [if_neg hm]
    have : ∀ n d, Toward.even.cut s n d = Toward.even.cut false n d := fun n d => rfl
    rw [this]; simp [Format.word]
theorem single_frac : (single.fractionBits : Int) = 23 := rfl
theorem single_least : single.leastPlace = -149 := by decide
theorem nearest_zero (s : Bool) (p : Int) : single.nearest s 0 p = single.word s 0 := by unfold Format.nearest; rw [if_pos rfl]
theorem nearest_fit (m e : Nat) (z : Int) (hz : z = e) (hm0 : m ≠ 0) (hlast : max (-149 + z + (m.log2 : Int) - 23) (-149) = -149 + z) (hr : e * 8388608 + m ≤ 2139095040) : single.nearest false m (-149 + z) = e * 8388608 + m := by
  have hb : single.binade = 8388608 := rfl
  have hi : single.infRung = 2139095040 := rfl
  unfold Format.nearest
  rw [if_neg hm0]
  simp only [single_frac, single_least, hb, hi, hlast, Int.sub_self, Int.toNat_zero, Nat.shiftLeft_zero, cut_zero]
  rw [show -149 + z - -149 = z by omega, hz, Int.toNat_natCast, Nat.min_eq_left hr]
  unfold Format.word
  rw [if_neg (by simp)]
theorem nearest_sub (r : Nat) (h : r < 8388608) : single.nearest false r (-149) = r := by
  by_cases h0 : r = 0
  · rw [h0, nearest_zero]; rfl
  · have hl : r.log2 < 23 := (Nat.log2_lt h0).2 (by omega)
    have := nearest_fit r 0 0 rfl h0 (by omega) (by omega)
    rw [Int.add_zero] at this
    rw [this]; omega
theorem nearest_norm (m e : Nat) (h1 : 8388608 ≤ m) (h2 : m < 16777216) (hr : e * 8388608 + m ≤ 2139095040) : single.nearest false m (-149 + (e : Int)) = e * 8388608 + m := by
  have hl : m.log2 = 23 := log2_eq (by omega) (by omega)
  exact nearest_fit m e e rfl (by omega) (by rw [hl]; omega) hr
/-- What a word that is no not-a-number stands for, and that it is its nearest word. -/
theorem read_word (x : Nat) (hx : x < 4294967296) (hn : isN x = false) :
    ((x = 2139095040 ∧ single.read x = .infinity false) ∨ (x = 4286578688 ∧ single.read x = .infinity true)) ∨
    ∃ s m p, single.read x = .number s m p ∧ single.nearest false m p = x % 2147483648 ∧ single.nearest s m p = x ∧ -149 ≤ p ∧ (m = 0 → x % 2147483648 = 0) ∧ m < 16777216 ∧ (s = true ↔ 2147483648 ≤ x) := by
  have hb : single.binade = 8388608 := rfl
  have hs : single.signWeight = 2147483648 := rfl
  have hi : single.infRung = 2139095040 := rfl
  have hlp : single.leastPlace = -149 := by decide
  obtain ⟨r, hr⟩ : ∃ r, x % 2147483648 = r := ⟨_, rfl⟩
  obtain ⟨s, hsg⟩ : ∃ s, (x / 2147483648 % 2 == 1) = s := ⟨_, rfl⟩
  have hsx : (s = true ↔ 2147483648 ≤ x) := by rw [← hsg]; simp only [beq_iff_eq]; omega
  have hxw : x = single.word s r := by
    unfold Format.word; rw [hs]
    cases s
    · have := mt hsx.2 (by simp); simp; omega
    · have := hsx.1 rfl; simp; omega
  have hrd : single.read x = if r < 8388608 then .number s r (-149) else if r < 2139095040 then .number s (8388608 + r % 8388608) (-149 + ((r / 8388608 - 1 : Nat) : Int)) else if r = 2139095040 then .infinity s else .nan s (r - 2139095040) := by
    unfold Format.read
    simp only [hs, hb, hi, hlp, hr, hsg]
  rw [hrd]
  have key : ∀ m p, single.nearest false m p = r → single.nearest s m p = x := fun m p h => by rw [nearest_sign, h, ← hxw]
  by_cases h1 : r < 8388608
  · rw [if_pos h1]
    have this := nearest_sub r h1
    exact .inr ⟨s, r, -149, rfl, by rw [this, hr], key _ _ this, by omega, fun h => by omega, by omega, hsx⟩
  · rw [if_neg h1]
    by_cases h2 : r < 2139095040
    · rw [if_pos h2]
      obtain ⟨q, hq⟩ : ∃ q, r / 8388608 - 1 = q := ⟨_, rfl⟩
      obtain ⟨m, ht⟩ : ∃ m, 8388608 + r % 8388608 = m := ⟨_, rfl⟩
      rw [hq, ht]
      have hqr : q * 8388608 + m = r := by omega
      have this := nearest_norm m q (by omega) (by omega) (by omega)
      rw [hqr] at this
      exact .inr ⟨s, m, _, rfl, by rw [this, hr], key _ _ this, by omega, fun h => by omega, by omega, hsx⟩
    · rw [if_neg h2]
      by_cases h3 : r = 2139095040
      · rw [if_pos h3]
        refine .inl ?_
        cases s
        · have := mt hsx.2 (by simp); exact .inl ⟨by omega, rfl⟩
        · have := hsx.1 rfl; exact .inr ⟨by omega, rfl⟩
      · exfalso
        unfold isN at hn
        rw [hrd, if_neg h1, if_neg h2, if_neg h3] at hn
        cases hn
/-- The size of a word. -/
def absN (X : Nat) : Nat := if isN X then qnan else X % 2147483648
theorem isN_rung (x : Nat) : isN (x % 2147483648) = isN x := by
  unfold isN Format.read
  have hs : single.signWeight = 2147483648 := rfl
  rw [hs, Nat.mod_mod]
  simp only []
  repeat' split
  all_goals rfl
theorem abs_is {x X : Nat} (h : Is x X) : Is (x % 2147483648) (absN X) := by
  refine ⟨by omega, ?_⟩
  rw [← h.2]
  unfold absN
  rw [isN_nrm]
  by_cases hn : isN x = true
  · rw [if_pos hn]; unfold nrm; rw [isN_rung x, hn]; rfl
  · have hn' : isN x = false := by simpa using hn
    rw [if_neg hn, nrm_of x hn', nrm_of _ (by rw [isN_rung x]; exact hn')]
/-- Not above nought: 0 - x is the size. -/
theorem read_zero : single.read 0 = .number false 0 (-149) := by decide +kernel
theorem compare_le (z : Int) : ((compare z 0 == .lt || compare z 0 == .eq) = true) ↔ z ≤ 0 := by
  rcases Int.lt_trichotomy z 0 with h | h | h
  · have : compare z 0 = .lt := Int.compare_eq_lt.2 h
    rw [this]; simp; omega
  · rw [h]; simp
  · have : compare z 0 = .gt := Int.compare_eq_gt.2 h
    rw [this]; simp; omega
theorem size_le (X : Nat) (hX : X < 4294967296) (hn : isN X = false) (hle : (fcmp X 0 == some .lt || fcmp X 0 == some .eq) = true) : fop .sub 0 X = X % 2147483648 := by
  rcases read_word X hX hn with (⟨h, hr⟩ | ⟨h, hr⟩) | ⟨s, m, p, hr, hw0, hw1, hp, hm0, hm, hs⟩
  · subst h; exact absurd hle (by decide +kernel)
  · subst h; decide +kernel
  · show (single.sub 0 X).getD qnan = _
    have hk : (min (-149) p) = -149 := by omega
    have hk2 : min p (-149) = -149 := by omega
    unfold fcmp Format.order at hle
    rw [hr, read_zero] at hle
    unfold Format.sub
    rw [hr, read_zero]
    simp only [Datum.opposite, Datum.sum, hk, Option.map_some, Option.getD_some, Format.write]
    simp only [Datum.order, hk2] at hle
    have hs0 : signed false 0 (-149 - -149 : Int).toNat = 0 := by decide +kernel
    rw [hs0] at hle ⊢
    have hle2 : signed s m (p - -149).toNat ≤ 0 := by
      rw [← compare_le]; simpa using hle
    obtain ⟨k, hkk⟩ : ∃ k, (p - -149).toNat = k := ⟨_, rfl⟩
    have hpk : (-149 : Int) = p - (k : Int) := by omega
    rw [hkk] at hle2 ⊢
    unfold signed at hle2 ⊢
    cases s
    · have h0 : m <<< k = 0 := by generalize m <<< k = t at hle2 ⊢; simp at hle2 ⊢; omega
      simp [h0, nearest_zero, Format.word]
      have : m = 0 := by
        by_cases hm1 : m = 0
        · exact hm1
        · exact absurd h0 (shl_ne hm1 k)
      exact (hm0 this).symm
    · have h1 : ((0 : Int) + ((m <<< k : Nat) : Int)).natAbs = m <<< k := by generalize m <<< k = t; omega
      have h2 : ¬ ((0 : Int) + ((m <<< k : Nat) : Int) < 0) := by generalize m <<< k = t; omega
      simp only [Bool.not_true, Bool.false_eq_true, if_false, h1, h2, Bool.false_and, decide_false, ite_self]
      rw [hpk, nearest_scale, hw0]
theorem size_gt (X : Nat) (hX : X < 4294967296) (hn : isN X = false) (hle : (fcmp X 0 == some .lt || fcmp X 0 == some .eq) = false) : X % 2147483648 = X := by
  rcases read_word X hX hn with (⟨h, hr⟩ | ⟨h, hr⟩) | ⟨s, m, p, hr, hw0, hw1, hp, hm0, hm, hs⟩
  · subst h; rfl
  · subst h; exact absurd hle (by decide +kernel)
  · have hk2 : min p (-149) = -149 := by omega
    unfold fcmp Format.order at hle
    rw [hr, read_zero] at hle
    simp only [Datum.order, hk2] at hle
    have hs0 : signed false 0 (-149 - -149 : Int).toNat = 0 := by decide +kernel
    rw [hs0] at hle
    cases s
    · have := mt hs.2 (by simp); omega
    · exfalso
      have : signed true m (p - -149).toNat ≤ 0 := by unfold signed; generalize m <<< _ = t; simp
      rw [← compare_le] at this
      have h3 : (compare (signed true m (p - -149).toNat) 0 == .lt || compare (signed true m (p - -149).toNat) 0 == .eq) = false := by simpa using hle
      rw [h3] at this; cases this
/-- The size of a word as the reference reckons it. -/
def sizeN (X : Nat) : Nat := if (fcmp X 0 == some .lt || fcmp X 0 == some .eq) = true then fop .sub 0 X else X
theorem sizeN_abs (X : Nat) (hX : X < 4294967296) (hn : nrm X = X) : sizeN X = absN X := by
  unfold sizeN absN
  by_cases h : isN X = true
  · rw [order_nan_left X 0 h, if_pos h]
    simp; rw [← hn]; unfold nrm; rw [if_pos h]
  · have h' : isN X = false := by simpa using h
    rw [if_neg h]
    split
    · rename_i hle; exact size_le X hX h' hle
    · rename_i hle; exact (size_gt X hX h' (by simpa using hle)).symm
/-- Half of a word, told by * and by /. -/
theorem half_eq (X : Nat) (hX : X < 4294967296) : fop .mul 1056964608 X = fop .quo X 1073741824 := by
  by_cases hn : isN X = true
  · unfold fop; rw [bits_nan_left .quo X _ hn, bits_nan_right .mul _ X hn]
  · have hn' : isN X = false := by simpa using hn
    rcases read_word X hX hn' with (⟨h, hr⟩ | ⟨h, hr⟩) | ⟨s, m, p, hr, hw0, hw1, hp, hm0, hm, hs⟩
    · subst h; decide +kernel
    · subst h; decide +kernel
    · show (single.mul 1056964608 X).getD qnan = (single.div X 1073741824).getD qnan
      have e1 : single.read 1056964608 = .number false 8388608 (-24) := by decide +kernel
      have e2 : single.read 1073741824 = .number false 8388608 (-22) := by decide +kernel
      unfold Format.mul Format.div
      rw [hr, e1, e2]
      have hl : (8388608 : Nat).log2 = 23 := by decide +kernel
      have hf : single.fractionBits + 2 = 25 := rfl
      simp only [Datum.product, Datum.quotient, hl, hf, Option.map_some, if_neg (show ¬ (8388608 : Nat) = 0 by decide), Option.getD_some, Format.write, Bool.false_xor, Bool.xor_false]
      by_cases h0 : m = 0
      · subst h0; simp [nearest_zero]
      · have hlm : m.log2 < 24 := (Nat.log2_lt h0).2 (by omega)
        obtain ⟨a, ha⟩ : ∃ a, 25 + 23 - m.log2 = a + 23 := ⟨25 - m.log2, by omega⟩
        rw [ha]
        have hsh : m <<< (a + 23) = (m <<< a) * 8388608 := by rw [Nat.shiftLeft_add]; exact Nat.shiftLeft_eq _ _
        rw [hsh, Nat.mul_div_cancel _ (by decide), Nat.mul_mod_left]
        have h1 : 8388608 * m = m <<< 23 := by rw [Nat.shiftLeft_eq, Nat.mul_comm]
        have h2 : 2 * (m <<< a) + ((0 : Nat) != 0).toNat = m <<< (a + 1) := by rw [Nat.shiftLeft_succ]; rfl
        rw [h1, h2]
        have h3 : (-24 : Int) + p = (p - 1) - ((23 : Nat) : Int) := by omega
        have h4 : p - -22 - ((a + 23 : Nat) : Int) - 1 = (p - 1) - ((a + 1 : Nat) : Int) := by omega
        rw [h3, h4, nearest_scale, nearest_scale]
end Go.Proofs.Ythkfbmboiabolaa
