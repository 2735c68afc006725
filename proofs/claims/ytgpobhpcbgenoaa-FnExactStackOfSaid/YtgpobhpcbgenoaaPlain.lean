/- Plain facts on float words: what a word is but for which not-a-number it is, and that the operations see no more of it. No program in sight. -/
import Derived.Laws.FloatArith
import Derived.Laws.FloatBits
import Derived.Deep.Draws
import Derived.RowKit3
import Derived.WalkSmall
namespace Go.Proofs.Ytgpobhpcbgenoaa

/-- The one not-a-number that stands for all. -/
def qnan : Nat := 2143289344
def isN (b : Nat) : Bool := (Ieee.single.read b).isNaN
def isD (b : Nat) : Bool := (Ieee.double.read b).isNaN
/-- A single word, all not-a-numbers made one. -/
def nrm (b : Nat) : Nat := if isN b then qnan else b

theorem isN_qnan : isN qnan = true := by decide +kernel
theorem isN_nrm (b : Nat) : isN (nrm b) = isN b := by
  unfold nrm; split
  · rename_i h; rw [h]; exact isN_qnan
  · rfl
theorem nrm_nrm (b : Nat) : nrm (nrm b) = nrm b := by
  show (if isN (nrm b) then qnan else nrm b) = nrm b
  rw [isN_nrm]; unfold nrm; split <;> rfl
theorem nrm_of (b : Nat) (h : isN b = false) : nrm b = b := by unfold nrm; rw [h]; rfl

/-- r is a word, and X is what it is. -/
def Is (r X : Nat) : Prop := r < 4294967296 ∧ nrm r = X
theorem Is.self {r : Nat} (h : r < 4294967296) : Is r (nrm r) := ⟨h, rfl⟩

/-- The operation's word; a not-a-number where it has none. -/
def fop (op : BinOp) (x y : Nat) : Nat := (floatBits op .f32 x y).getD qnan
def fcmp (x y : Nat) : Option Ordering := Ieee.single.order x y

theorem isN_read {b : Nat} (h : isN b = true) : ∃ s f, Ieee.single.read b = .nan s f := by
  unfold isN at h
  cases hr : Ieee.single.read b with
  | nan s f => exact ⟨s, f, rfl⟩
  | number => rw [hr] at h; cases h
  | infinity => rw [hr] at h; cases h
theorem isD_read {b : Nat} (h : isD b = true) : ∃ s f, Ieee.double.read b = .nan s f := by
  unfold isD at h
  cases hr : Ieee.double.read b with
  | nan s f => exact ⟨s, f, rfl⟩
  | number => rw [hr] at h; cases h
  | infinity => rw [hr] at h; cases h

theorem bits_nan_left (op : BinOp) (x y : Nat) (h : isN x = true) : floatBits op .f32 x y = none := by
  obtain ⟨s, f, hr⟩ := isN_read h
  cases op <;> simp [floatBits, FloatKind.format, Ieee.Format.add, Ieee.Format.sub, Ieee.Format.mul, Ieee.Format.div, hr, Ieee.Datum.sum, Ieee.Datum.product, Ieee.Datum.quotient]
theorem bits_nan_right (op : BinOp) (x y : Nat) (h : isN y = true) : floatBits op .f32 x y = none := by
  obtain ⟨s, f, hr⟩ := isN_read h
  cases hx : Ieee.single.read x <;> cases op <;> simp [floatBits, FloatKind.format, Ieee.Format.add, Ieee.Format.sub, Ieee.Format.mul, Ieee.Format.div, hr, hx, Ieee.Datum.sum, Ieee.Datum.product, Ieee.Datum.quotient, Ieee.Datum.opposite]
theorem order_nan_left (x y : Nat) (h : isN x = true) : fcmp x y = none := by
  obtain ⟨s, f, hr⟩ := isN_read h
  simp [fcmp, Ieee.Format.order, hr, Ieee.Datum.order]
theorem order_nan_right (x y : Nat) (h : isN y = true) : fcmp x y = none := by
  obtain ⟨s, f, hr⟩ := isN_read h
  cases hx : Ieee.single.read x <;> simp [fcmp, Ieee.Format.order, hr, hx, Ieee.Datum.order]

theorem bits_nrm (op : BinOp) (x y : Nat) : floatBits op .f32 (nrm x) (nrm y) = floatBits op .f32 x y := by
  by_cases hx : isN x = true
  · rw [bits_nan_left op x y hx, bits_nan_left op _ _ (by rw [isN_nrm]; exact hx)]
  · by_cases hy : isN y = true
    · rw [bits_nan_right op x y hy, bits_nan_right op _ _ (by rw [isN_nrm]; exact hy)]
    · rw [nrm_of x (by simpa using hx), nrm_of y (by simpa using hy)]
theorem fop_nrm (op : BinOp) (x y : Nat) : fop op (nrm x) (nrm y) = fop op x y := by unfold fop; rw [bits_nrm]
theorem fcmp_nrm (x y : Nat) : fcmp (nrm x) (nrm y) = fcmp x y := by
  by_cases hx : isN x = true
  · rw [order_nan_left x y hx, order_nan_left _ _ (by rw [isN_nrm]; exact hx)]
  · by_cases hy : isN y = true
    · rw [order_nan_right x y hy, order_nan_right _ _ (by rw [isN_nrm]; exact hy)]
    · rw [nrm_of x (by simpa using hx), nrm_of y (by simpa using hy)]

theorem isN_word (neg : Bool) (rung : Nat) (h : rung ≤ 2139095040) : isN (Ieee.single.word neg rung) = false := by
  have hs : Ieee.single.signWeight = 2147483648 := by decide
  have hb : Ieee.single.binade = 8388608 := by decide
  have hi : Ieee.single.infRung = 2139095040 := by decide
  have hm : Ieee.single.word neg rung % 2147483648 = rung := by
    unfold Ieee.Format.word; rw [hs]; split <;> omega
  unfold isN Ieee.Format.read
  simp only [hs, hb, hi, hm]
  split
  · rfl
  · split
    · rfl
    · split
      · rfl
      · omega
theorem isD_word (neg : Bool) (rung : Nat) (h : rung ≤ 9218868437227405312) : isD (Ieee.double.word neg rung) = false := by
  have hs : Ieee.double.signWeight = 9223372036854775808 := by decide +kernel
  have hb : Ieee.double.binade = 4503599627370496 := by decide +kernel
  have hi : Ieee.double.infRung = 9218868437227405312 := by decide +kernel
  have hm : Ieee.double.word neg rung % 9223372036854775808 = rung := by
    unfold Ieee.Format.word; rw [hs]; split <;> omega
  unfold isD Ieee.Format.read
  simp only [hs, hb, hi, hm]
  split
  · rfl
  · split
    · rfl
    · split
      · rfl
      · omega
theorem isN_nearest (neg : Bool) (m : Nat) (e : Int) : isN (Ieee.single.nearest neg m e) = false := by
  unfold Ieee.Format.nearest
  split
  · exact isN_word _ _ (by omega)
  · exact isN_word _ _ (Nat.min_le_right _ _)
theorem isD_nearest (neg : Bool) (m : Nat) (e : Int) : isD (Ieee.double.nearest neg m e) = false := by
  unfold Ieee.Format.nearest
  split
  · exact isD_word _ _ (by omega)
  · exact isD_word _ _ (by have hi : Ieee.double.infRung = 9218868437227405312 := by decide +kernel
                           have := Nat.min_le_right ((max (e + ↑m.log2 - ↑Ieee.double.fractionBits) Ieee.double.leastPlace - Ieee.double.leastPlace).toNat * Ieee.double.binade + Ieee.Toward.even.cut neg (m <<< (e - max (e + ↑m.log2 - ↑Ieee.double.fractionBits) Ieee.double.leastPlace).toNat) (max (e + ↑m.log2 - ↑Ieee.double.fractionBits) Ieee.double.leastPlace - e).toNat) Ieee.double.infRung
                           exact Nat.le_trans this (by rw [hi]; exact Nat.le_refl _))
theorem isN_write {d : Ieee.Datum} (h : d.isNaN = false) : isN (Ieee.single.write d) = false := by
  cases d with
  | nan => cases h
  | number s m e => exact isN_nearest s m e
  | infinity s => exact isN_word s _ (by decide)
theorem isD_write {d : Ieee.Datum} (h : d.isNaN = false) : isD (Ieee.double.write d) = false := by
  cases d with
  | nan => cases h
  | number s m e => exact isD_nearest s m e
  | infinity s => exact isD_word s _ (by decide +kernel)

theorem sum_not {a b d : Ieee.Datum} (h : a.sum b = some d) : d.isNaN = false := by
  cases a <;> cases b <;> simp only [Ieee.Datum.sum] at h <;> try (cases h; done)
  all_goals first | (cases h; rfl) | (split at h <;> cases h; rfl)
theorem product_not {a b d : Ieee.Datum} (h : a.product b = some d) : d.isNaN = false := by
  cases a <;> cases b <;> simp only [Ieee.Datum.product] at h <;> try (cases h; done)
  all_goals first | (cases h; rfl) | (split at h <;> cases h; rfl)
theorem quotient_not {n : Nat} {a b d : Ieee.Datum} (h : Ieee.Datum.quotient n a b = some d) : d.isNaN = false := by
  cases a <;> cases b <;> simp only [Ieee.Datum.quotient] at h <;> try (cases h; done)
  all_goals first | (cases h; rfl) | (split at h <;> first | (cases h; rfl) | (split at h <;> cases h; rfl))

theorem map_write_not {d : Option Ieee.Datum} {r : Nat} (hd : ∀ x, d = some x → x.isNaN = false) (h : d.map Ieee.single.write = some r) : isN r = false := by
  cases d with
  | none => cases h
  | some x => cases h; exact isN_write (hd x rfl)
theorem mapD_write_not {d : Option Ieee.Datum} {r : Nat} (hd : ∀ x, d = some x → x.isNaN = false) (h : d.map Ieee.double.write = some r) : isD r = false := by
  cases d with
  | none => cases h
  | some x => cases h; exact isD_write (hd x rfl)
theorem bits_not {op : BinOp} {x y r : Nat} (h : floatBits op .f32 x y = some r) : isN r = false := by
  unfold floatBits at h
  split at h
  · exact map_write_not (fun _ h => sum_not h) h
  · exact map_write_not (fun _ h => sum_not h) h
  · exact map_write_not (fun _ h => product_not h) h
  · exact map_write_not (fun _ h => quotient_not h) h
  · cases h
theorem bits_lt {op : BinOp} {x y r : Nat} (h : floatBits op .f32 x y = some r) : r < 4294967296 := by
  have := floatBits_wf h
  simpa [Lit.wf] using this
theorem bitsD_not {op : BinOp} {x y r : Nat} (h : floatBits op .f64 x y = some r) : isD r = false := by
  unfold floatBits at h
  split at h
  · exact mapD_write_not (fun _ h => sum_not h) h
  · exact mapD_write_not (fun _ h => sum_not h) h
  · exact mapD_write_not (fun _ h => product_not h) h
  · exact mapD_write_not (fun _ h => quotient_not h) h
  · cases h

/-- What the tape gives for a not-a-number is one. -/
theorem cut_nan (x y t : Nat) : isN ((Question.nanBits .f32 x y).cut t) = true ∧ (Question.nanBits .f32 x y).cut t < 4294967296 := by
  have hs : Ieee.single.signWeight = 2147483648 := by decide
  have hb : Ieee.single.binade = 8388608 := by decide
  have hi : Ieee.single.infRung = 2139095040 := by decide
  have e : (Question.nanBits .f32 x y).cut t = (t % 2) * 2147483648 + 2139095040 + 1 + (t / 2) % 8388607 := rfl
  rw [e]
  have h1 : t / 2 % 8388607 < 8388607 := Nat.mod_lt _ (by omega)
  have h2 : t % 2 < 2 := Nat.mod_lt _ (by omega)
  generalize t / 2 % 8388607 = q at *
  generalize t % 2 = p at *
  refine ⟨?_, by omega⟩
  have hm : (p * 2147483648 + 2139095040 + 1 + q) % 2147483648 = 2139095041 + q := by omega
  unfold isN Ieee.Format.read
  simp only [hs, hb, hi, hm]
  rw [if_neg (by omega), if_neg (by omega), if_neg (by omega)]
  rfl
theorem cut_nan_conv (b t : Nat) : isD ((Question.nanConv .f64 b).cut t) = true := by
  have hs : Ieee.double.signWeight = 9223372036854775808 := by decide +kernel
  have hb : Ieee.double.binade = 4503599627370496 := by decide +kernel
  have hi : Ieee.double.infRung = 9218868437227405312 := by decide +kernel
  have e : (Question.nanConv .f64 b).cut t = (t % 2) * 9223372036854775808 + 9218868437227405312 + 1 + (t / 2) % 4503599627370495 := by
    show (t % 2) * 2 ^ 63 + 0x7ff0000000000000 + 1 + (t / 2) % (2 ^ 52 - 1) = _
    rw [show (2 : Nat) ^ 63 = 9223372036854775808 from by decide +kernel, show (2 : Nat) ^ 52 - 1 = 4503599627370495 from by decide +kernel]
  rw [e]
  have h1 : t / 2 % 4503599627370495 < 4503599627370495 := Nat.mod_lt _ (by omega)
  have h2 : t % 2 < 2 := Nat.mod_lt _ (by omega)
  generalize t / 2 % 4503599627370495 = q at *
  generalize t % 2 = p at *
  have hm : (p * 9223372036854775808 + 9218868437227405312 + 1 + q) % 9223372036854775808 = 9218868437227405313 + q := by omega
  unfold isD Ieee.Format.read
  simp only [hs, hb, hi, hm]
  rw [if_neg (by omega), if_neg (by omega), if_neg (by omega)]
  rfl

/-- The word that a single operation leaves, in the world w. -/
def flR (op : BinOp) (w : World) (x y : Nat) : Nat :=
  match floatBits op .f32 x y with
  | some r => r
  | none => (Question.nanBits .f32 x y).cut (w.tape w.drawn (.nanBits .f32 x y))
/-- How many answers it has drawn. -/
def flN (op : BinOp) (x y : Nat) : Nat := if (floatBits op .f32 x y).isSome then 0 else 1

theorem flR_is (op : BinOp) (w : World) (x y : Nat) : Is (flR op w x y) (fop op x y) := by
  unfold flR fop
  cases h : floatBits op .f32 x y with
  | some r => exact ⟨bits_lt h, nrm_of r (bits_not h)⟩
  | none => exact ⟨(cut_nan _ _ _).2, by show nrm _ = qnan; unfold nrm; rw [(cut_nan _ _ _).1]; rfl⟩

theorem run_fl {P : Program} (w : World) {op : BinOp} (t : TypeId) (x y : Nat) (hop : op = .add ∨ op = .sub ∨ op = .mul ∨ op = .quo) :
    (binOp op t (.float .f32 x) (.float .f32 y)).run P w = .ok (.float .f32 (flR op w x y)) (w.drewN (flN op x y)) := by
  unfold flR flN
  cases h : floatBits op .f32 x y with
  | some r => exact run_float_arith w op t .f32 x y r h
  | none =>
    rcases hop with rfl | rfl | rfl | rfl <;> simp only [floatBits, FloatKind.format] at h <;> simp [binOp, Op.floatArith, FloatKind.format, h] <;> rfl
end Go.Proofs.Ytgpobhpcbgenoaa
