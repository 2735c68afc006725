/- Contracts: the place of a value. -/
import Derived.Test.YtgpobhpcbgenoaaRound
import Derived.Test.YtgpobhpcbgenoaaMaps
import Derived.Laws.Externs
namespace Go.Proofs.Ytgpobhpcbgenoaa
open Go.RowKit
open Ieee
set_option linter.unusedVariables false

theorem shl_int {n k a : Nat} {j : Int} (hn : n = k * 2 ^ a) (hj : j = -(a : Int)) (ha : a ≤ 1074) : n <<< (j + 1074).toNat = k * G74 := by
  have h1 : (j + 1074).toNat = E74 - a := by rw [E74_eq]; omega
  have h2 : a + (E74 - a) = E74 := by rw [E74_eq]; omega
  rw [h1, Nat.shiftLeft_eq, hn, Nat.mul_assoc, ← Nat.pow_add, h2]
  rfl
theorem compare_gt {x y : Int} : (compare x y == .gt) = decide (y < x) := by
  rcases Int.lt_trichotomy x y with h | h | h
  · rw [Int.compare_eq_lt.2 h]; simp; omega
  · rw [Int.compare_eq_eq.2 h]; simp; omega
  · rw [Int.compare_eq_gt.2 h]; simp; omega
theorem compare_lt {x y : Int} : (compare x y == .lt) = decide (x < y) := by
  rcases Int.lt_trichotomy x y with h | h | h
  · rw [Int.compare_eq_lt.2 h]; simp; omega
  · rw [Int.compare_eq_eq.2 h]; simp; omega
  · rw [Int.compare_eq_gt.2 h]; simp; omega
/-- Whether a value has a place. -/
def pok (x : Nat) : Bool := finB x && !ltF x 3204448256
theorem half_mag : finB 3204448256 = true ∧ vneg 3204448256 = true ∧ 2 * vmag 3204448256 = G74 := by
  have hr : single.read 3204448256 = .number true 8388608 (-24) := by decide +kernel
  refine ⟨by decide +kernel, by unfold vneg; rw [hr]; rfl, ?_⟩
  unfold vmag
  rw [hr]
  show 2 * (8388608 <<< ((-24 : Int) + 1074).toNat) = G74
  have h1 : ((-24 : Int) + 1074).toNat = E74 - 24 := by rw [E74_eq]; omega
  have h2 : 24 + (E74 - 24) = E74 := by rw [E74_eq]
  rw [h1, Nat.shiftLeft_eq, ← Nat.mul_assoc, show 2 * 8388608 = 2 ^ 24 by decide, ← Nat.pow_add, h2]
  rfl
theorem pok_fin {x : Nat} (h : pok x = true) : finB x = true := by
  unfold pok at h; simp only [Bool.and_eq_true] at h; exact h.1
/-- A value below nought that has a place: it is nought. -/
theorem pok_neg {x : Nat} (h : pok x = true) (hn : vneg x = true) : rnd (vmag x) = 0 := by
  have hf := pok_fin h
  unfold pok ltF at h
  obtain ⟨h1, h2, h3⟩ := half_mag
  rw [fcmp_sv hf h1, hn, h2] at h
  simp only [Bool.and_eq_true, hf, true_and, Bool.not_eq_true'] at h
  have h4 : (compare (sg true (vmag x)) (sg true (vmag 3204448256)) == Ordering.lt) = false := by simpa using h
  rw [compare_lt] at h4
  simp only [sg, if_true, decide_eq_false_iff_not] at h4
  exact rnd_half (by omega)
theorem sg_rnd {x : Nat} (h : pok x = true) (k : Nat) : sg (vneg x) (rnd (vmag x) * k) = ((rnd (vmag x) * k : Nat) : Int) := by
  unfold sg
  cases hn : vneg x with
  | false => simp
  | true => rw [pok_neg h hn]; simp
theorem fti_rnd {x : Nat} (h : pok x = true) (hR : rnd (vmag x) ≤ 1048576) : floatToIntVal .f64 (rndW x) .i64 = some (rnd (vmag x) : Int) := by
  obtain ⟨m', p', h1, h2, h3⟩ := rndW_read (pok_fin h)
  have hd : FloatKind.f64.decode (rndW x) = .number (vneg x) m' p' := h1
  unfold floatToIntVal
  rw [hd, toInt_sv _ _ _ h2, h3, Nat.mul_div_cancel _ G74_pos]
  have := sg_rnd h 1
  rw [Nat.mul_one] at this
  rw [this]
  have e1 : IntKind.i64.min = -9223372036854775808 := rfl
  have e2 : IntKind.i64.max = 9223372036854775807 := rfl
  exact if_pos ⟨by omega, by omega⟩
theorem gt24 {x : Nat} (h : pok x = true) : (FloatKind.f64.format.order (rndW x) 4627448617123184640 == some .gt) = decide (24 < rnd (vmag x)) := by
  obtain ⟨m', p', h1, h2, h3⟩ := rndW_read (pok_fin h)
  have hc : double.read 4627448617123184640 = .number false 6755399441055744 (-48) := by decide +kernel
  show (Format.order double (rndW x) 4627448617123184640 == some .gt) = _
  unfold Format.order
  have hs : 6755399441055744 <<< ((-48 : Int) + 1074).toNat = 24 * G74 := shl_int (k := 24) (a := 48) (by decide) (by decide) (by omega)
  rw [h1, hc, order_sv _ _ _ _ _ _ h2 (by omega), h3, sg_rnd h, hs]
  show (compare _ _ == Ordering.gt) = _
  rw [compare_gt]
  have hp := G74_pos
  have e : sg false (24 * G74) = ((24 * G74 : Nat) : Int) := rfl
  rw [e]
  by_cases hlt : 24 < rnd (vmag x)
  · have := Nat.mul_lt_mul_of_pos_right hlt hp
    rw [decide_eq_true hlt, decide_eq_true (by omega)]
  · have := Nat.mul_le_mul_right G74 (show rnd (vmag x) ≤ 24 by omega)
    rw [decide_eq_false hlt, decide_eq_false (by omega)]
/-- How the double word stands to 2 ^ 20. -/
theorem ord20 (w : World) {x : Nat} (h : pok x = true) : ∃ o, FloatKind.f64.format.order (cvR w x) 4697254411347427328 = some o ∧ (o = .lt → rnd (vmag x) ≤ 1048576) ∧ (o = .gt → 1048576 ≤ rnd (vmag x)) ∧ (o = .eq → rnd (vmag x) = 1048576 ∧ (FloatKind.f64.decode (cvR w x)).neg = false) := by
  obtain ⟨m', p', h1, h2, h3⟩ := cv_read w (pok_fin h)
  have hc : double.read 4697254411347427328 = .number false 4503599627370496 (-32) := by decide +kernel
  have ho : FloatKind.f64.format.order (cvR w x) 4697254411347427328 = some (compare (sg (vneg x) (vmag x)) ((1048576 * G74 : Nat) : Int)) := by
    show Format.order double _ _ = _
    unfold Format.order
    have hs : 4503599627370496 <<< ((-32 : Int) + 1074).toNat = 1048576 * G74 := shl_int (k := 1048576) (a := 32) (by decide) (by decide) (by omega)
    rw [h1, hc, order_sv _ _ _ _ _ _ h2 (by omega), h3, hs]
    rfl
  have hp := G74_pos
  refine ⟨_, ho, fun hl => ?_, fun hl => ?_, fun hl => ?_⟩
  · cases hn : vneg x with
    | true => rw [pok_neg h hn]; omega
    | false =>
      rw [hn] at hl
      have := Int.compare_eq_lt.1 hl
      unfold sg at this
      exact rnd_le (by simp at this; omega)
  · cases hn : vneg x with
    | true =>
      rw [hn] at hl
      have := Int.compare_eq_gt.1 hl
      unfold sg at this
      simp at this
      omega
    | false =>
      rw [hn] at hl
      have := Int.compare_eq_gt.1 hl
      unfold sg at this
      exact rnd_ge (by simp at this; omega)
  · have hq := Int.compare_eq_eq.1 hl
    cases hn : vneg x with
    | true =>
      rw [hn] at hq
      unfold sg at hq
      simp at hq
      omega
    | false =>
      rw [hn] at hq
      unfold sg at hq
      have hv : vmag x = 1048576 * G74 := by simp at hq; omega
      refine ⟨by rw [hv, rnd_mul], ?_⟩
      show (double.read (cvR w x)).neg = false
      rw [h1, hn]; rfl
theorem run_rte (z q : Nat) (h : (double.read z).isNaN = false) (hq : double.write ((double.read z).integral .even) = q) (w : World) : (callFunc 108 #[.float .f64 z]).run Try.prog w = .ok (.value (.float .f64 q)) w := by
  refine (run_callFunc_extern Try.func108 (by kernel_rfl) (by kernel_rfl) (by kernel_rfl) (e := Extern.MathFloor.toIntegral "math.RoundToEven" .even) (by kernel_rfl) #[.float .f64 z] w).trans ?_
  have key : Extern.MathFloor.toIntegral "math.RoundToEven" .even #[.float .f64 z] = pure (.float .f64 q) := by
    have hd : FloatKind.f64.decode z = double.read z := rfl
    subst hq
    conv => lhs; whnf
    rw [hd]
    cases hr : double.read z with
    | nan s t => rw [hr] at h; cases h
    | infinity s => rfl
    | number s m e => rfl
  rw [key]
  rfl
theorem drew0 (w : World) : w.drewN 0 = w := rfl
theorem cvN_fin {x : Nat} (h : finB x = true) : cvN x = 0 := by
  obtain ⟨s, m, p, hr, _⟩ := read_fin h
  unfold cvN isN
  rw [hr]; rfl
theorem isN_fin {x : Nat} (h : finB x = true) : isN x = false := by
  obtain ⟨s, m, p, hr, _⟩ := read_fin h
  unfold isN
  rw [hr]; rfl
theorem l03Place_any (x : Nat) (U : World) :
    Calls Try.prog 76 #[.float .f32 x] U fun e U' => e = .returned (.int .i64 (if pok x = true then min (rnd (vmag x) : Int) 25 else -1)) ∧ Ext U U' := by
  cases hlt : ltF x 3204448256 with
  | true =>
    have hp : pok x = false := by unfold pok; rw [hlt]; simp
    have hlt' : (FloatKind.f32.format.order x 3204448256 == some .lt) = true := hlt
    rw [hp, if_neg (by simp)]
    clear hp hlt
    go_enter Try.func76, Try.ntmps76
    go_wp2
    go_ret
    exact ⟨rfl, Ext.refl _⟩
  | false =>
    have hlt' : (FloatKind.f32.format.order x 3204448256 == some .lt) = false := hlt
    cases hf : finB x with
    | false =>
      have hp : pok x = false := by unfold pok; rw [hf]; simp
      rw [hp, if_neg (by simp)]
      have HF := Lib.hid (fun W => specFinite_of x false hf W)
      clear hp hlt hf
      go_enter Try.func76, Try.ntmps76
      go_wp2_with (go_at_call 96; refine (HF.out _).mono ?_; rintro e w' ⟨rfl, hx⟩)
      go_ret
      exact ⟨rfl, hx⟩
    | true =>
      have hp : pok x = true := by unfold pok; rw [hf, hlt]; rfl
      rw [hp, if_pos rfl]
      have HF := Lib.hid (fun W => specFinite_of x true hf W)
      have hcv : ∀ w', cvR w' x = cvR U x := fun w' => cvR_same _ _ _ (isN_fin hf)
      have hcn : cvN x = 0 := cvN_fin hf
      have hrt := fun w' => run_rte (cvR U x) (rndW x) (cv_not_nan U hf) (integral_cv U hf) w'
      have hgt := gt24 hp
      have hfi := fti_rnd hp
      generalize cvR U x = z at hcv hrt
      generalize rndW x = q at hrt hgt hfi
      generalize rnd (vmag x) = R at hgt hfi ⊢
      have hd := drew0
      clear hp hlt hf
      by_cases h24 : 24 < R
      · rw [decide_eq_true h24] at hgt
        clear hfi
        go_enter Try.func76, Try.ntmps76
        go_wp2_with (go_at_call 96; refine (HF.out _).mono ?_; rintro e w' ⟨rfl, hx⟩)
        go_ret
        exact ⟨by rw [show min (R : Int) 25 = 25 by omega]; rfl, hx⟩
      · rw [decide_eq_false h24] at hgt
        have hci := fun w' => run_convert_float_int (P := Try.prog) (w := w') 41 2 .f64 .i64 q R (by rw [Try.underlying41]; rfl) Try.underlying2 (hfi (by omega))
        clear hfi
        go_enter Try.func76, Try.ntmps76
        go_wp2_with (go_at_call 96; refine (HF.out _).mono ?_; rintro e w' ⟨rfl, hx⟩)
        go_ret
        exact ⟨by rw [show min (R : Int) 25 = R by omega]; rfl, hx⟩
theorem place_any (x : Nat) (U : World) :
    Calls Try.prog 101 #[.float .f32 x] U fun e U' => e = .returned (.int .i64 (if pok x = true then min (rnd (vmag x) : Int) 1048576 else -1)) ∧ Ext U U' := by
  cases hf : finB x with
  | false =>
    have hp : pok x = false := by unfold pok; rw [hf]; simp
    rw [hp, if_neg (by simp)]
    have HF := Lib.hid (fun W => implFinite_of x false hf W)
    clear hp hf
    go_enter Try.func101, Try.ntmps101
    go_wp2_with (go_at_call 118; refine (HF.out _).mono ?_; rintro e w' ⟨rfl, hx⟩)
    go_ret
    exact ⟨rfl, hx⟩
  | true =>
    have HF := Lib.hid (fun W => implFinite_of x true hf W)
    cases hlt : ltF x 3204448256 with
    | true =>
      have hp : pok x = false := by unfold pok; rw [hlt]; simp
      have hlt' : (FloatKind.f32.format.order x 3204448256 == some .lt) = true := hlt
      rw [hp, if_neg (by simp)]
      clear hp hlt hf
      go_enter Try.func101, Try.ntmps101
      go_wp2_with (go_at_call 118; refine (HF.out _).mono ?_; rintro e w' ⟨rfl, hx⟩)
      go_ret
      exact ⟨rfl, hx⟩
    | false =>
      have hlt' : (FloatKind.f32.format.order x 3204448256 == some .lt) = false := hlt
      have hp : pok x = true := by unfold pok; rw [hf, hlt]; rfl
      rw [hp, if_pos rfl]
      have hcv : ∀ w', cvR w' x = cvR U x := fun w' => cvR_same _ _ _ (isN_fin hf)
      have hcn : cvN x = 0 := cvN_fin hf
      obtain ⟨o, ho, hL, hG, hE⟩ := ord20 U hp
      have hrt := fun w' => run_rte (cvR U x) (rndW x) (cv_not_nan U hf) (integral_cv U hf) w'
      have hrc := fun w' => run_rte 4697254411347427328 4697254411347427328 (by decide +kernel) (by decide +kernel) w'
      have hcc := fun w' => run_convert_float_int (P := Try.prog) (w := w') 41 2 .f64 .i64 4697254411347427328 1048576 (by rw [Try.underlying41]; rfl) Try.underlying2 (by decide +kernel)
      have hfi := fti_rnd hp
      generalize cvR U x = z at hcv hrt ho hE
      generalize rndW x = q at hrt hfi
      generalize rnd (vmag x) = R at hfi hL hG hE ⊢
      have hd := drew0
      clear hp hlt hf
      cases o with
      | lt =>
        have hR := hL rfl
        have hci := fun w' => run_convert_float_int (P := Try.prog) (w := w') 41 2 .f64 .i64 q R (by rw [Try.underlying41]; rfl) Try.underlying2 (hfi hR)
        have hmin : ∀ (ts : Array TypeId) (t : TypeId) w', (Builtin.min_ ts t #[.float .f64 z, .float .f64 4697254411347427328]).run Try.prog w' = .ok (.float .f64 z) w' := fun ts t w' => by simp [Builtin.min_, Builtin.min2, ho]
        clear hL hG hE hfi hrc hcc ho
        go_enter Try.func101, Try.ntmps101
        go_wp2_with (go_at_call 118; refine (HF.out _).mono ?_; rintro e w' ⟨rfl, hx⟩)
        go_ret
        exact ⟨by rw [show min (R : Int) 1048576 = R by omega]; rfl, hx⟩
      | gt =>
        have hR := hG rfl
        have hmin : ∀ (ts : Array TypeId) (t : TypeId) w', (Builtin.min_ ts t #[.float .f64 z, .float .f64 4697254411347427328]).run Try.prog w' = .ok (.float .f64 4697254411347427328) w' := fun ts t w' => by simp [Builtin.min_, Builtin.min2, ho]
        clear hL hG hE hfi hrt ho
        go_enter Try.func101, Try.ntmps101
        go_wp2_with (go_at_call 118; refine (HF.out _).mono ?_; rintro e w' ⟨rfl, hx⟩)
        go_ret
        exact ⟨by rw [show min (R : Int) 1048576 = 1048576 by omega]; rfl, hx⟩
      | eq =>
        obtain ⟨hR, hneg⟩ := hE rfl
        have hmin : ∀ (ts : Array TypeId) (t : TypeId) w', (Builtin.min_ ts t #[.float .f64 z, .float .f64 4697254411347427328]).run Try.prog w' = .ok (.float .f64 4697254411347427328) w' := fun ts t w' => by simp [Builtin.min_, Builtin.min2, ho, hneg]
        clear hL hG hE hfi hrt ho hneg
        go_enter Try.func101, Try.ntmps101
        go_wp2_with (go_at_call 118; refine (HF.out _).mono ?_; rintro e w' ⟨rfl, hx⟩)
        go_ret
        exact ⟨by rw [show min (R : Int) 1048576 = 1048576 by omega]; rfl, hx⟩
end Go.Proofs.Ytgpobhpcbgenoaa
