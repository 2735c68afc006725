/- Plain facts on rounding a single word to a whole number by way of a double one. No program in sight. -/
import Derived.Test.YthkfbmboiabolaaConv
import Derived.Test.YthkfbmboiabolaaSize
import Derived.Test.YthkfbmboiabolaaFin
namespace Go.Proofs.Ythkfbmboiabolaa
open Ieee

theorem d_frac : (double.fractionBits : Int) = 52 := rfl
theorem d_least : double.leastPlace = -1074 := by decide +kernel
theorem d_binade : double.binade = 4503599627370496 := by decide +kernel
theorem d_inf : double.infRung = 9218868437227405312 := by decide +kernel
theorem d_sign : double.signWeight = 9223372036854775808 := by decide +kernel
theorem read_wordD (s : Bool) (r : Nat) (h : r < 9218868437227405312) : double.read (double.word s r) = if r < 4503599627370496 then .number s r (-1074) else .number s (4503599627370496 + r % 4503599627370496) (-1074 + ((r / 4503599627370496 - 1 : Nat) : Int)) := by
  have hm : double.word s r % 9223372036854775808 = r := by unfold Format.word; rw [d_sign]; split <;> omega
  have hn : (double.word s r / 9223372036854775808 % 2 == 1) = s := by
    unfold Format.word; rw [d_sign]
    cases s
    · simp; omega
    · simp; omega
  unfold Format.read
  simp only [d_sign, d_binade, d_inf, d_least, hm, hn]
  split
  · rfl
  · first | rfl | rw [if_pos h]
theorem shl_lt {m k b : Nat} (h : m.log2 + k ≤ b) : m <<< k < 2 ^ (b + 1) := by
  have h1 : m < 2 ^ (m.log2 + 1) := Nat.lt_log2_self
  rw [Nat.shiftLeft_eq]
  calc m * 2 ^ k < 2 ^ (m.log2 + 1) * 2 ^ k := (Nat.mul_lt_mul_right (Nat.two_pow_pos k)).2 h1
    _ = 2 ^ (m.log2 + 1 + k) := (Nat.pow_add _ _ _).symm
    _ ≤ 2 ^ (b + 1) := Nat.pow_le_pow_right (by omega) (by omega)
theorem shl_ge {m k b : Nat} (hm : m ≠ 0) (h : b ≤ m.log2 + k) : 2 ^ b ≤ m <<< k := by
  have h1 : 2 ^ m.log2 ≤ m := Nat.log2_self_le hm
  rw [Nat.shiftLeft_eq]
  calc 2 ^ b ≤ 2 ^ (m.log2 + k) := Nat.pow_le_pow_right (by omega) h
    _ = 2 ^ m.log2 * 2 ^ k := Nat.pow_add _ _ _
    _ ≤ m * 2 ^ k := Nat.mul_le_mul_right _ h1
/-- A number that fits is written and read back as it was. -/
theorem read_nearestD (s : Bool) (m : Nat) (e : Int) (h0 : m ≠ 0) (hm : m < 9007199254740992) (he : -1074 ≤ e) (he2 : e ≤ 900) :
    ∃ (m' : Nat) (e' : Int), double.read (double.nearest s m e) = .number s m' e' ∧ -1074 ≤ e' ∧ m' <<< (e' + 1074).toNat = m <<< (e + 1074).toNat := by
  have hl : m.log2 ≤ 52 := by
    have := (Nat.log2_lt h0 (k := 53)).2 (by simpa using hm)
    omega
  by_cases hc : e + (m.log2 : Int) - 52 ≤ -1074
  · obtain ⟨k, hk⟩ : ∃ k, (e + 1074).toNat = k := ⟨_, rfl⟩
    have hlast : max (e + (m.log2 : Int) - 52) (-1074) = -1074 := by omega
    have hkept : m <<< k < 9007199254740992 := shl_lt (b := 52) (by omega)
    have hn : double.nearest s m e = double.word s (m <<< k) := by
      unfold Format.nearest
      rw [if_neg h0]
      simp only [d_frac, d_least, d_binade, d_inf, hlast]
      rw [show (e - -1074).toNat = k by omega, show (-1074 - e).toNat = 0 by omega, cut_zero, show ((-1074 : Int) - -1074).toNat = 0 by omega]
      congr 1
      omega
    rw [hn, read_wordD s _ (by omega)]
    by_cases hb : m <<< k < 4503599627370496
    · rw [if_pos hb]
      exact ⟨_, _, rfl, by omega, by rw [show ((-1074 : Int) + 1074).toNat = 0 by omega, hk]; rfl⟩
    · rw [if_neg hb]
      refine ⟨_, _, rfl, by omega, ?_⟩
      have e1 : m <<< k / 4503599627370496 = 1 := by omega
      rw [e1, show ((-1074 : Int) + ((1 - 1 : Nat) : Int) + 1074).toNat = 0 by omega, hk, Nat.shiftLeft_zero]
      omega
  · obtain ⟨q, hq⟩ : ∃ q : Nat, e + (m.log2 : Int) - 52 + 1074 = q := ⟨(e + (m.log2 : Int) - 52 + 1074).toNat, by omega⟩
    have hlast : max (e + (m.log2 : Int) - 52) (-1074) = e + (m.log2 : Int) - 52 := by omega
    obtain ⟨d, hd⟩ : ∃ d, 52 - m.log2 = d := ⟨_, rfl⟩
    have hk1 : m <<< d < 9007199254740992 := shl_lt (b := 52) (by omega)
    have hk2 : 4503599627370496 ≤ m <<< d := shl_ge (b := 52) h0 (by omega)
    have hn : double.nearest s m e = double.word s (q * 4503599627370496 + m <<< d) := by
      unfold Format.nearest
      rw [if_neg h0]
      simp only [d_frac, d_least, d_binade, d_inf, hlast]
      rw [show (e - (e + (m.log2 : Int) - 52)).toNat = d by omega, show (e + (m.log2 : Int) - 52 - e).toNat = 0 by omega, cut_zero, show (e + (m.log2 : Int) - 52 - -1074).toNat = q by omega]
      congr 1
      omega
    rw [hn, read_wordD s _ (by omega), if_neg (by omega)]
    refine ⟨_, _, rfl, by omega, ?_⟩
    have e1 : (q * 4503599627370496 + m <<< d) / 4503599627370496 = q + 1 := by omega
    have e2 : 4503599627370496 + (q * 4503599627370496 + m <<< d) % 4503599627370496 = m <<< d := by omega
    rw [e1, e2, show ((-1074 : Int) + ((q + 1 - 1 : Nat) : Int) + 1074).toNat = q by omega, show (e + 1074).toNat = d + q by omega, Nat.shiftLeft_add]

/-- A number with its sign. -/
def sg (s : Bool) (V : Nat) : Int := if s then -(V : Int) else V
theorem compare_mul (x y c : Int) (hc : 0 < c) : compare (x * c) (y * c) = compare x y := by
  rcases Int.lt_trichotomy x y with h | h | h
  · rw [Int.compare_eq_lt.2 h, Int.compare_eq_lt.2 (Int.mul_lt_mul_of_pos_right h hc)]
  · subst h; rw [Int.compare_eq_eq.2 rfl, Int.compare_eq_eq.2 rfl]
  · rw [Int.compare_eq_gt.2 h, Int.compare_eq_gt.2 (Int.mul_lt_mul_of_pos_right h hc)]
theorem signed_sg (s : Bool) (m k : Nat) : signed s m k = sg s (m <<< k) := rfl
theorem sg_mul (s : Bool) (m a k : Nat) : sg s (m <<< (a + k)) = sg s (m <<< a) * ((2 ^ k : Nat) : Int) := by
  have h : m <<< (a + k) = (m <<< a) * 2 ^ k := by rw [Nat.shiftLeft_add, Nat.shiftLeft_eq (m <<< a)]
  rw [h]
  cases s <;> simp [sg, Int.neg_mul]
theorem order_sv (s : Bool) (m : Nat) (i : Int) (t : Bool) (n : Nat) (j : Int) (hi : -1074 ≤ i) (hj : -1074 ≤ j) :
    Datum.order (.number s m i) (.number t n j) = some (compare (sg s (m <<< (i + 1074).toNat)) (sg t (n <<< (j + 1074).toNat))) := by
  obtain ⟨b, hb⟩ : ∃ b, min i j = b := ⟨_, rfl⟩
  obtain ⟨k, hk⟩ : ∃ k, (b + 1074).toNat = k := ⟨_, rfl⟩
  simp only [Datum.order, hb, signed_sg]
  rw [show (i + 1074).toNat = (i - b).toNat + k by omega, show (j + 1074).toNat = (j - b).toNat + k by omega, sg_mul, sg_mul, compare_mul _ _ _ (by have := Nat.two_pow_pos k; omega)]

theorem E74_ex : ∃ E : Nat, E = 1074 := ⟨_, rfl⟩
/-- The places of a double word behind the point. -/
noncomputable def E74 : Nat := Classical.choose E74_ex
theorem E74_eq : E74 = 1074 := Classical.choose_spec E74_ex
/-- One, in the places of a double word. -/
noncomputable def G74 : Nat := 2 ^ E74
theorem G74_pos : 0 < G74 := Nat.two_pow_pos _
/-- Rounded to a whole number, of two the even one. -/
noncomputable def rnd (V : Nat) : Nat := Toward.even.cut false V E74
theorem cut_eqE (E V : Nat) : ∃ b : Bool, Toward.even.cut false V E = V / 2 ^ E + b.toNat ∧ (b = true → 2 ^ E < 2 * (V % 2 ^ E) ∨ (2 ^ E = 2 * (V % 2 ^ E) ∧ V / 2 ^ E % 2 = 1)) := by
  unfold Toward.cut
  dsimp only
  by_cases h : E ≤ V.log2 + 2
  · rw [Nat.min_eq_left h, Nat.one_shiftLeft]
    refine ⟨_, rfl, ?_⟩
    intro hb
    simp only [Bool.or_eq_true, decide_eq_true_eq, Bool.and_eq_true, beq_iff_eq] at hb
    exact hb
  · rw [Nat.min_eq_right (by omega), Nat.one_shiftLeft]
    have hV : V < 2 ^ (V.log2 + 1) := Nat.lt_log2_self
    have hg : 2 ^ (V.log2 + 2) = 2 * 2 ^ (V.log2 + 1) := by rw [show V.log2 + 2 = V.log2 + 1 + 1 by omega, Nat.pow_succ, Nat.mul_comm]
    have hG : 2 ^ (V.log2 + 1) ≤ 2 ^ E := Nat.pow_le_pow_right (by omega) (by omega)
    rw [hg]
    generalize 2 ^ (V.log2 + 1) = g at *
    generalize 2 ^ E = G at *
    refine ⟨false, ?_, fun h => by cases h⟩
    have e1 : V / (2 * g) = 0 := Nat.div_eq_of_lt (by omega)
    have e2 : V % (2 * g) = V := Nat.mod_eq_of_lt (by omega)
    have e3 : V / G = 0 := Nat.div_eq_of_lt (by omega)
    rw [e1, e2, e3]
    have e4 : decide (2 * g < 2 * V) = false := by simp; omega
    have e5 : (2 * g == 2 * V) = false := by simp; omega
    simp only [e4, e5]
    rfl
theorem rnd_eq (V : Nat) : ∃ b : Bool, rnd V = V / G74 + b.toNat ∧ (b = true → G74 < 2 * (V % G74) ∨ (G74 = 2 * (V % G74) ∧ V / G74 % 2 = 1)) := cut_eqE E74 V
theorem div_G {V k : Nat} (h : k * G74 ≤ V) : k ≤ V / G74 := (Nat.le_div_iff_mul_le G74_pos).2 h
theorem rnd_ge {V k : Nat} (h : k * G74 ≤ V) : k ≤ rnd V := by
  obtain ⟨b, h1, _⟩ := rnd_eq V
  have := div_G h
  omega
theorem rnd_le {V k : Nat} (h : V ≤ k * G74) : rnd V ≤ k := by
  obtain ⟨b, h1, h2⟩ := rnd_eq V
  have hdm := Nat.div_add_mod V G74
  have hlt := Nat.mod_lt V G74_pos
  by_cases hk : V / G74 < k
  · have : b.toNat ≤ 1 := by cases b <;> simp
    omega
  · have h3 : V / G74 ≤ k := by
      have := Nat.div_le_div_right (c := G74) h
      rwa [Nat.mul_div_cancel _ G74_pos] at this
    have h4 : V / G74 = k := by omega
    rw [h4, Nat.mul_comm] at hdm
    have h5 : V % G74 = 0 := by omega
    cases b with
    | false => simp at h1; omega
    | true =>
      have := h2 rfl
      have := G74_pos
      omega
theorem rnd_half {V : Nat} (h : 2 * V ≤ G74) : rnd V = 0 := by
  obtain ⟨b, h1, h2⟩ := rnd_eq V
  have hp := G74_pos
  have e1 : V / G74 = 0 := Nat.div_eq_of_lt (by omega)
  have e2 : V % G74 = V := Nat.mod_eq_of_lt (by omega)
  rw [e1] at h1 h2
  rw [e2] at h2
  cases b with
  | false => simpa using h1
  | true => have := h2 rfl; omega
theorem rnd_mul (k : Nat) : rnd (k * G74) = k := Nat.le_antisymm (rnd_le (Nat.le_refl _)) (rnd_ge (Nat.le_refl _))
theorem shl_G (R : Nat) : R <<< E74 = R * G74 := Nat.shiftLeft_eq _ _
theorem cut_no (way : Toward) (h : way = .even ∨ way = .zero) (s : Bool) (d : Nat) : way.cut s 0 d = 0 := by
  rcases h with rfl | rfl
  · unfold Toward.cut
    simp
  · unfold Toward.cut; simp
theorem cut_sv (s : Bool) (m : Nat) (e : Int) (he : -1074 ≤ e) : Toward.even.cut s (m <<< e.toNat) (-e).toNat = rnd (m <<< (e + 1074).toNat) := by
  show Toward.even.cut false (m <<< e.toNat) (-e).toNat = _
  by_cases hm : m = 0
  · subst hm; rw [Nat.zero_shiftLeft, Nat.zero_shiftLeft]; unfold rnd; rw [cut_no _ (.inl rfl), cut_no _ (.inl rfl)]
  · unfold rnd
    by_cases h : 0 ≤ e
    · rw [show (-e).toNat = 0 by omega, show (e + 1074).toNat = e.toNat + 1074 by omega, Nat.shiftLeft_add]
      rw [← E74_eq]
      have := cut_scale false (m <<< e.toNat) 0 E74 (shl_ne hm _)
      rw [Nat.zero_add] at this
      exact this.symm
    · obtain ⟨k, hk⟩ : ∃ k, (e + 1074).toNat = k := ⟨_, rfl⟩
      rw [show e.toNat = 0 by omega, hk, Nat.shiftLeft_zero]
      have := cut_scale false m (-e).toNat k hm
      rw [show (-e).toNat + k = E74 by rw [E74_eq]; omega] at this
      exact this.symm
theorem cutz_div (s : Bool) (n d : Nat) : Toward.zero.cut s n d = n / 2 ^ d := by
  unfold Toward.cut
  simp only [Nat.one_shiftLeft, Bool.toNat_false, Nat.add_zero]
  by_cases h : d ≤ n.log2 + 2
  · rw [Nat.min_eq_left h]
  · rw [Nat.min_eq_right (by omega)]
    have hn : n < 2 ^ (n.log2 + 1) := Nat.lt_log2_self
    have h1 : n < 2 ^ (n.log2 + 2) := Nat.lt_of_lt_of_le hn (Nat.pow_le_pow_right (by omega) (by omega))
    have h2 : n < 2 ^ d := Nat.lt_of_lt_of_le hn (Nat.pow_le_pow_right (by omega) (by omega))
    rw [Nat.div_eq_of_lt h1, Nat.div_eq_of_lt h2]
theorem cutz_sv (s : Bool) (m : Nat) (e : Int) (he : -1074 ≤ e) : Toward.zero.cut s (m <<< e.toNat) (-e).toNat = m <<< (e + 1074).toNat / G74 := by
  rw [cutz_div]
  by_cases h : 0 ≤ e
  · rw [show (-e).toNat = 0 by omega, show (e + 1074).toNat = e.toNat + E74 by rw [E74_eq]; omega, Nat.shiftLeft_add, shl_G, Nat.mul_div_cancel _ G74_pos]
    simp
  · obtain ⟨k, hk⟩ : ∃ k, (e + 1074).toNat = k := ⟨_, rfl⟩
    rw [show e.toNat = 0 by omega, hk, Nat.shiftLeft_zero, Nat.shiftLeft_eq]
    have hG : G74 = 2 ^ (-e).toNat * 2 ^ k := by unfold G74; rw [← Nat.pow_add]; congr 1; rw [E74_eq]; omega
    rw [hG, Nat.mul_div_mul_right _ _ (Nat.two_pow_pos k)]
theorem toInt_sv (s : Bool) (m : Nat) (e : Int) (he : -1074 ≤ e) : (Datum.number s m e).toInt .zero = some (sg s (m <<< (e + 1074).toNat / G74)) := by
  unfold Datum.toInt Datum.integral
  simp only [signed_sg, Nat.shiftLeft_zero]
  rw [cutz_sv s m e he]

/-- What a single word tells, in the places of a double one. -/
def vmag (x : Nat) : Nat := match single.read x with | .number _ m p => m <<< (p + 1074).toNat | _ => 0
def vneg (x : Nat) : Bool := (single.read x).neg
/-- A finite word. -/
theorem read_fin {x : Nat} (hf : finB x = true) : ∃ s m p, single.read x = .number s m p ∧ m < 16777216 ∧ -149 ≤ p ∧ p ≤ 104 ∧ vmag x = m <<< (p + 1074).toNat ∧ vneg x = s := by
  have hs : single.signWeight = 2147483648 := by decide
  have hb : single.binade = 8388608 := by decide
  have hi : single.infRung = 2139095040 := by decide
  have hp : single.leastPlace = -149 := by decide
  cases hr : single.read x with
  | nan s f =>
    exfalso
    have hn : isN x = true := by unfold isN; rw [hr]; rfl
    unfold finB at hf
    have : fop .sub x x = qnan := by unfold fop; rw [bits_nan_left .sub x x hn]; rfl
    rw [this] at hf
    exact absurd hf (by decide +kernel)
  | infinity s =>
    exfalso
    have : fop .sub x x = qnan := by
      show (single.sub x x).getD qnan = qnan
      unfold Format.sub
      rw [hr]
      cases s <;> rfl
    unfold finB at hf
    rw [this] at hf
    exact absurd hf (by decide +kernel)
  | number s m p =>
    have key : m < 16777216 ∧ -149 ≤ p ∧ p ≤ 104 := by
      have h := hr
      unfold Format.read at h
      simp only [hs, hb, hi, hp] at h
      generalize x % 2147483648 = rung at h
      split at h
      · cases h; omega
      · split at h
        · cases h; omega
        · split at h <;> cases h
    exact ⟨s, m, p, rfl, key.1, key.2.1, key.2.2, by unfold vmag; rw [hr], by unfold vneg; rw [hr]; rfl⟩
/-- How a finite word stands to another one. -/
theorem fcmp_sv {x y : Nat} (hx : finB x = true) (hy : finB y = true) : fcmp x y = some (compare (sg (vneg x) (vmag x)) (sg (vneg y) (vmag y))) := by
  obtain ⟨s, m, p, hr, _, h1, _, hv, hn⟩ := read_fin hx
  obtain ⟨t, n, q, hr', _, h1', _, hv', hn'⟩ := read_fin hy
  unfold fcmp Format.order
  rw [hr, hr', order_sv _ _ _ _ _ _ (by omega) (by omega), hv, hn, hv', hn']
theorem cv_read (w : World) {x : Nat} (hx : finB x = true) : ∃ m' p', double.read (cvR w x) = .number (vneg x) m' p' ∧ -1074 ≤ p' ∧ m' <<< (p' + 1074).toNat = vmag x := by
  obtain ⟨s, m, p, hr, hm, h1, h2, hv, hn⟩ := read_fin hx
  have hc : cvR w x = double.nearest s m p := by unfold cvR; rw [hr]; rfl
  rw [hc, hv, hn]
  by_cases h0 : m = 0
  · subst h0
    refine ⟨0, -1074, ?_, by omega, by simp⟩
    unfold Format.nearest
    rw [if_pos rfl, read_wordD s 0 (by omega)]
    rfl
  · exact read_nearestD s m p h0 (by omega) (by omega) (by omega)
/-- The whole number as a double word, and read back. -/
noncomputable def rndW (x : Nat) : Nat := double.nearest (vneg x) (rnd (vmag x)) 0
theorem rndW_read {x : Nat} (hx : finB x = true) : ∃ m' p', double.read (rndW x) = .number (vneg x) m' p' ∧ -1074 ≤ p' ∧ m' <<< (p' + 1074).toNat = rnd (vmag x) * G74 := by
  obtain ⟨s, m, p, hr, hm, h1, h2, hv, hn⟩ := read_fin hx
  unfold rndW
  by_cases h0 : rnd (vmag x) = 0
  · rw [h0]
    refine ⟨0, -1074, ?_, by omega, by simp⟩
    unfold Format.nearest
    rw [if_pos rfl, read_wordD _ 0 (by omega)]
    rfl
  · by_cases hp : 0 ≤ p
    · have hR : rnd (vmag x) = m <<< p.toNat := by
        rw [hv, ← cut_sv false m p (by omega), show (-p).toNat = 0 by omega, cut_zero]
      rw [hR] at h0 ⊢
      have hm0 : m ≠ 0 := fun h => h0 (by rw [h, Nat.zero_shiftLeft])
      have e1 : (0 : Int) = p - ((p.toNat : Nat) : Int) := by omega
      rw [e1, nearest_scale, ← shl_G, ← Nat.shiftLeft_add, show p.toNat + E74 = (p + 1074).toNat by rw [E74_eq]; omega]
      exact read_nearestD _ m p hm0 (by omega) (by omega) (by omega)
    · have hR : rnd (vmag x) ≤ m := rnd_le (by
        rw [hv, Nat.shiftLeft_eq]
        exact Nat.mul_le_mul_left _ (Nat.pow_le_pow_right (by omega) (show (p + 1074).toNat ≤ E74 by rw [E74_eq]; omega)))
      rw [← shl_G, E74_eq]
      exact read_nearestD _ _ 0 h0 (by omega) (by omega) (by omega)
theorem integral_cv (w : World) {x : Nat} (hx : finB x = true) : double.write ((double.read (cvR w x)).integral .even) = rndW x := by
  obtain ⟨m', p', h1, h2, h3⟩ := cv_read w hx
  rw [h1]
  unfold rndW
  show double.nearest _ (Toward.even.cut _ _ _) 0 = _
  rw [cut_sv _ _ _ h2, h3]
theorem cv_not_nan (w : World) {x : Nat} (hx : finB x = true) : (double.read (cvR w x)).isNaN = false := by
  obtain ⟨m', p', h1, h2, h3⟩ := cv_read w hx
  rw [h1]; rfl
end Go.Proofs.Ythkfbmboiabolaa
