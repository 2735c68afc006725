/- Plain facts on the conversion of a single word to a double one: it is never made infinite, equal words give equal ones, and a not-a-number stays one. No program in sight. -/
import Derived.Test.YtgpobhpcbgenoaaPlain
namespace Go.Proofs.Ytgpobhpcbgenoaa

theorem double_word_not_inf (neg : Bool) (rung : Nat) (h : rung < 9218868437227405312) : (Ieee.double.read (Ieee.double.word neg rung)).isInfinity = false := by
  have hs : Ieee.double.signWeight = 9223372036854775808 := by decide +kernel
  have hb : Ieee.double.binade = 4503599627370496 := by decide +kernel
  have hi : Ieee.double.infRung = 9218868437227405312 := by decide +kernel
  have hm : Ieee.double.word neg rung % 9223372036854775808 = rung := by
    unfold Ieee.Format.word; rw [hs]; split <;> omega
  unfold Ieee.Format.read
  simp only [hs, hb, hi, hm]
  split
  · rfl
  · rfl

theorem log2_le (m : Nat) (h : m < 16777216) (h0 : m ≠ 0) : m.log2 ≤ 23 := by
  have := (Nat.log2_lt h0 (k := 24)).2 (by simpa using h)
  omega

theorem widen_rung (neg : Bool) (m : Nat) (e : Int) (h0 : m ≠ 0) (hm : m < 16777216) (h1 : -149 ≤ e) (h2 : e ≤ 104) :
    (max (e + m.log2 - 52) (-1074) - (-1074)).toNat * 4503599627370496 + Ieee.Toward.even.cut neg (m <<< (e - max (e + m.log2 - 52) (-1074)).toNat) (max (e + m.log2 - 52) (-1074) - e).toNat < 9218868437227405312 := by
  have hl := log2_le m hm h0
  have e1 : max (e + (m.log2 : Int) - 52) (-1074) = e + m.log2 - 52 := by omega
  rw [e1]
  have e2 : (e + (m.log2 : Int) - 52 - e).toNat = 0 := by omega
  have e3 : (e - (e + (m.log2 : Int) - 52)).toNat = 52 - m.log2 := by omega
  rw [e2, e3]
  have hcut : Ieee.Toward.even.cut neg (m <<< (52 - m.log2)) 0 = m <<< (52 - m.log2) := by
    simp [Ieee.Toward.cut, Nat.mod_one]
  rw [hcut, Nat.shiftLeft_eq]
  have hlt : m < 2 ^ (m.log2 + 1) := Nat.lt_log2_self
  have hk : m * 2 ^ (52 - m.log2) < 9007199254740992 := by
    have h3 : m * 2 ^ (52 - m.log2) < 2 ^ (m.log2 + 1) * 2 ^ (52 - m.log2) := (Nat.mul_lt_mul_right (Nat.two_pow_pos _)).2 hlt
    rw [← Nat.pow_add, show m.log2 + 1 + (52 - m.log2) = 53 from by omega] at h3
    exact h3
  have e4 : (e + (m.log2 : Int) - 52 - (-1074)).toNat ≤ 1149 := by omega
  generalize (e + (m.log2 : Int) - 52 - (-1074)).toNat = q at *
  generalize m * 2 ^ (52 - m.log2) = r at *
  omega

theorem widen_not_inf (b : Nat) (s : Bool) (m : Nat) (e : Int) (h : Ieee.single.read b = .number s m e) : (Ieee.double.read (Ieee.double.write (.number s m e))).isInfinity = false := by
  have hs : Ieee.single.signWeight = 2147483648 := by decide
  have hb : Ieee.single.binade = 8388608 := by decide
  have hi : Ieee.single.infRung = 2139095040 := by decide
  have hp : Ieee.single.leastPlace = -149 := by decide
  have key : m < 16777216 ∧ -149 ≤ e ∧ e ≤ 104 := by
    unfold Ieee.Format.read at h
    simp only [hs, hb, hi, hp] at h
    generalize b % 2147483648 = rung at h
    split at h
    · cases h; omega
    · split at h
      · cases h; omega
      · split at h <;> cases h
  show (Ieee.double.read (Ieee.double.nearest s m e)).isInfinity = false
  have db : Ieee.double.binade = 4503599627370496 := by decide +kernel
  have di : Ieee.double.infRung = 9218868437227405312 := by decide +kernel
  have dp : Ieee.double.leastPlace = -1074 := by decide +kernel
  have df : (Ieee.double.fractionBits : Int) = 52 := by decide
  unfold Ieee.Format.nearest
  split
  · exact double_word_not_inf s 0 (by omega)
  · rename_i h0
    simp only [db, di, dp, df]
    exact double_word_not_inf s _ (Nat.lt_of_le_of_lt (Nat.min_le_left _ _) (widen_rung s m e h0 key.1 key.2.1 key.2.2))

/-- float64(x): the word, in the world w. -/
def cvR (w : World) (b : Nat) : Nat :=
  match Ieee.single.read b with
  | .nan _ _ => (Question.nanConv .f64 b).cut (w.tape w.drawn (.nanConv .f64 b))
  | d => Ieee.double.write d
def cvN (b : Nat) : Nat := if isN b then 1 else 0

theorem run_cv {P : Program} (w : World) (src dst : TypeId) (b : Nat) (hs : (P.underlying src).isSome = true) (hd : P.underlying dst = some (.float .f64)) :
    (convert src dst (.float .f32 b)).run P w = .ok (.float .f64 (cvR w b)) (w.drewN (cvN b)) := by
  obtain ⟨u, hs'⟩ := Option.isSome_iff_exists.1 hs
  unfold cvR cvN isN
  cases hr : Ieee.single.read b with
  | nan s f =>
    have hr' : FloatKind.f32.decode b = .nan s f := hr
    cases u <;> simp [convert, run_underlying hs', run_underlying hd, Conv.floatToFloat, hr'] <;> rfl
  | infinity s =>
    have hr' : FloatKind.f32.decode b = .infinity s := hr
    cases u <;> simp [convert, run_underlying hs', run_underlying hd, Conv.floatToFloat, hr'] <;> exact ⟨rfl, rfl⟩
  | number s m e =>
    have hr' : FloatKind.f32.decode b = .number s m e := hr
    have hn : (FloatKind.f64.decode (FloatKind.f64.encode (.number s m e))).isInfinity = false := widen_not_inf b s m e hr
    cases u <;> simp [convert, run_underlying hs', run_underlying hd, Conv.floatToFloat, hr', hn] <;> exact ⟨rfl, rfl⟩

theorem cvR_nan (w : World) (b : Nat) (h : isN b = true) : isD (cvR w b) = true := by
  obtain ⟨s, f, hr⟩ := isN_read h
  unfold cvR; rw [hr]
  exact cut_nan_conv _ _
theorem cvR_not (w : World) (b : Nat) (h : isN b = false) : isD (cvR w b) = false := by
  unfold cvR
  cases hr : Ieee.single.read b with
  | nan s f => unfold isN at h; rw [hr] at h; cases h
  | infinity s => exact isD_write rfl
  | number s m e => exact isD_write rfl
theorem cvR_same (w w' : World) (b : Nat) (h : isN b = false) : cvR w b = cvR w' b := by
  unfold cvR
  cases hr : Ieee.single.read b with
  | nan s f => unfold isN at h; rw [hr] at h; cases h
  | infinity s => rfl
  | number s m e => rfl

/-- Two double words that sameFloat takes for one. -/
def SameD (x y : Nat) : Prop := (isD x = true ∧ isD y = true) ∨ (isD x = false ∧ x = y)
theorem cv_same (w w' : World) (a b : Nat) (h : nrm a = nrm b) : SameD (cvR w a) (cvR w' b) := by
  have hi : isN a = isN b := by rw [← isN_nrm a, ← isN_nrm b, h]
  cases ha : isN a with
  | true => exact .inl ⟨cvR_nan w a ha, cvR_nan w' b (by rw [← hi]; exact ha)⟩
  | false =>
    have hb : isN b = false := by rw [← hi]; exact ha
    rw [nrm_of a ha, nrm_of b hb] at h
    subst h
    exact .inr ⟨cvR_not w a ha, cvR_same w w' a ha⟩

theorem orderD_self (x : Nat) (h : isD x = false) : Ieee.double.order x x = some .eq := by
  unfold Ieee.Format.order
  unfold isD at h
  cases hr : Ieee.double.read x with
  | nan => rw [hr] at h; cases h
  | infinity s => cases s <;> rfl
  | number s m e => simp [Ieee.Datum.order]
theorem orderD_nan (x y : Nat) (h : isD x = true) : Ieee.double.order x y = none := by
  obtain ⟨s, f, hr⟩ := isD_read h
  simp [Ieee.Format.order, hr, Ieee.Datum.order]
theorem order_self (x : Nat) (h : isN x = false) : Ieee.single.order x x = some .eq := by
  unfold Ieee.Format.order
  unfold isN at h
  cases hr : Ieee.single.read x with
  | nan => rw [hr] at h; cases h
  | infinity s => cases s <;> rfl
  | number s m e => simp [Ieee.Datum.order]
/-- 1 / x is no not-a-number where x is a zero. -/
theorem one_over (x : Nat) (h : Ieee.double.order x 0 = some .eq) : ∃ r, floatBits .quo .f64 4607182418800017408 x = some r := by
  have h1 : Ieee.double.read 4607182418800017408 = .number false 4503599627370496 (-52) := by decide +kernel
  have h0 : Ieee.double.read 0 = .number false 0 (-1074) := by decide +kernel
  unfold Ieee.Format.order at h
  rw [h0] at h
  show ∃ r, ((Ieee.double.read 4607182418800017408).quotient _ (Ieee.double.read x)).map Ieee.double.write = some r
  rw [h1]
  cases hr : Ieee.double.read x with
  | nan => rw [hr] at h; simp [Ieee.Datum.order] at h
  | infinity s => exact ⟨_, rfl⟩
  | number s m e =>
    simp only [Ieee.Datum.quotient]
    split <;> exact ⟨_, rfl⟩

theorem isN_ofInt (n : Int) : isN (floatOfInt .f32 n) = false := isN_nearest _ _ _
theorem ofInt_lt (n : Int) : floatOfInt .f32 n < 4294967296 := by
  have := floatOfInt_wf .f32 n
  simpa [Lit.wf] using this
end Go.Proofs.Ytgpobhpcbgenoaa
