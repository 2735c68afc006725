/- Plain facts: numbers that are one of 0 .. 7. No program in sight. -/
import Derived.Test.YthkfbmboiabolaaPlace
import Derived.Test.YthkfbmboiabolaaSize
namespace Go.Proofs.Ythkfbmboiabolaa
open Go.RowKit Ieee
set_option linter.unusedVariables false

/-- The words of 0 .. 7. -/
def kW (k : Nat) : Nat := [0, 1065353216, 1073741824, 1077936128, 1082130432, 1084227584, 1086324736, 1088421888].getD k 0
theorem kW_fin {k : Nat} (hk : k < 8) : finB (kW k) = true ∧ vneg (kW k) = false ∧ vmag (kW k) = k * G74 := by
  have key : ∀ (w m : Nat) (p : Int) (a : Nat), single.read w = .number false m p → finB w = true → m = k * 2 ^ a → p = -(a : Int) → a ≤ 1074 → finB w = true ∧ vneg w = false ∧ vmag w = k * G74 := fun w m p a h1 h2 h3 h4 h5 =>
    ⟨h2, by unfold vneg; rw [h1]; rfl, by unfold vmag; rw [h1]; exact shl_int h3 h4 h5⟩
  match k, hk with
  | 0, _ => exact key 0 0 (-149) 149 (by decide +kernel) (by decide +kernel) (by decide) (by decide) (by decide)
  | 1, _ => exact key 1065353216 8388608 (-23) 23 (by decide +kernel) (by decide +kernel) (by decide) (by decide) (by decide)
  | 2, _ => exact key 1073741824 8388608 (-22) 22 (by decide +kernel) (by decide +kernel) (by decide) (by decide) (by decide)
  | 3, _ => exact key 1077936128 12582912 (-22) 22 (by decide +kernel) (by decide +kernel) (by decide) (by decide) (by decide)
  | 4, _ => exact key 1082130432 8388608 (-21) 21 (by decide +kernel) (by decide +kernel) (by decide) (by decide) (by decide)
  | 5, _ => exact key 1084227584 10485760 (-21) 21 (by decide +kernel) (by decide +kernel) (by decide) (by decide) (by decide)
  | 6, _ => exact key 1086324736 12582912 (-21) 21 (by decide +kernel) (by decide +kernel) (by decide) (by decide) (by decide)
  | 7, _ => exact key 1088421888 14680064 (-21) 21 (by decide +kernel) (by decide +kernel) (by decide) (by decide) (by decide)
theorem fin_or {x : Nat} (hx : x < 4294967296) : finB x = true ∨ isN x = true ∨ x = 2139095040 ∨ x = 4286578688 := by
  by_cases hn : isN x = true
  · exact .inr (.inl hn)
  · have hn' : isN x = false := by simpa using hn
    rcases read_word x hx hn' with (⟨h, hr⟩ | ⟨h, hr⟩) | ⟨s, m, p, hr, _⟩
    · exact .inr (.inr (.inl h))
    · exact .inr (.inr (.inr h))
    · left
      have hz : fop .sub x x = 0 := by
        show (single.sub x x).getD qnan = _
        unfold Format.sub
        rw [hr]
        have h0 : signed s m (p - p).toNat + signed (!s) m (p - p).toNat = 0 := by
          unfold signed
          generalize m <<< (p - p).toNat = t
          cases s <;> simp <;> omega
        simp only [Datum.opposite, Datum.sum, Int.min_self, h0, Option.map_some, Option.getD_some, Format.write]
        simp [nearest_zero, Format.word]
      unfold finB
      rw [hz]
      decide +kernel
/-- The value of a finite word, scaled. -/
noncomputable def sv (x : Nat) : Int := sg (vneg x) (vmag x)
theorem sv_k {k : Nat} (hk : k < 8) : sv (kW k) = ((k * G74 : Nat) : Int) := by
  obtain ⟨_, h2, h3⟩ := kW_fin hk
  unfold sv; rw [h2, h3]; rfl
theorem fin_of_le {x k : Nat} (hx : x < 4294967296) (hk : k < 8) (h0 : fcmp x 0 = some .gt ∨ fcmp x 0 = some .eq) (h1 : ¬ fcmp x (kW k) = some .gt) : finB x = true := by
  rcases fin_or hx with h | h | h | h
  · exact h
  · exfalso; rcases h0 with h0 | h0 <;> (rw [order_nan_left x 0 h] at h0; cases h0)
  · exfalso; subst h
    revert h1
    match k, hk with
    | 0, _ | 1, _ | 2, _ | 3, _ | 4, _ | 5, _ | 6, _ | 7, _ => decide +kernel
  · exfalso; subst h; rcases h0 with h0 | h0 <;> exact absurd h0 (by decide +kernel)
theorem fin_of_eq {x k : Nat} (hx : x < 4294967296) (hk : k < 8) (h : fcmp x (kW k) = some .eq) : finB x = true := by
  rcases fin_or hx with h1 | h1 | h1 | h1
  · exact h1
  · exfalso; rw [order_nan_left x _ h1] at h; cases h
  · exfalso; subst h1
    revert h
    match k, hk with
    | 0, _ | 1, _ | 2, _ | 3, _ | 4, _ | 5, _ | 6, _ | 7, _ => decide +kernel
  · exfalso; subst h1
    revert h
    match k, hk with
    | 0, _ | 1, _ | 2, _ | 3, _ | 4, _ | 5, _ | 6, _ | 7, _ => decide +kernel
theorem fcmp_k {x k : Nat} (hf : finB x = true) (hk : k < 8) : fcmp x (kW k) = some (compare (sv x) ((k * G74 : Nat) : Int)) := by
  rw [fcmp_sv hf (kW_fin hk).1]
  show some (compare (sv x) (sv (kW k))) = _
  rw [sv_k hk]
theorem k_fcmp {x k : Nat} (hf : finB x = true) (hk : k < 8) : fcmp (kW k) x = some (compare ((k * G74 : Nat) : Int) (sv x)) := by
  rw [fcmp_sv (kW_fin hk).1 hf]
  show some (compare (sv (kW k)) (sv x)) = _
  rw [sv_k hk]
/-- One of 0 .. dn - 1. -/
def whole (dn x : Nat) : Bool := (List.range dn).any fun k => fcmp x (kW k) == some .eq
theorem whole_iff {dn x : Nat} : whole dn x = true ↔ ∃ k, k < dn ∧ fcmp x (kW k) = some .eq := by
  unfold whole
  simp only [List.any_eq_true, List.mem_range, beq_iff_eq]
theorem sv_pos {x : Nat} {k : Nat} (h : sv x = ((k * G74 : Nat) : Int)) : vmag x = k * G74 := by
  unfold sv sg at h
  generalize k * G74 = t at h ⊢
  split at h <;> omega
theorem place_whole {x dn : Nat} (hx : x < 4294967296) (hd : dn ≤ 8) {P : Int} (hP : (if pok x = true then min (rnd (vmag x) : Int) 1048576 else -1) = P) :
    (∃ k : Nat, k < dn ∧ P = (k : Int) ∧ fcmp (kW k) x = some .eq) ↔ whole dn x = true := by
  rw [whole_iff]
  constructor
  · rintro ⟨k, hk, rfl, h⟩
    have hpk : pok x = true := by
      cases hp : pok x with
      | true => rfl
      | false => rw [hp] at hP; simp at hP
    have hf := pok_fin hpk
    rw [k_fcmp hf (by omega), Option.some.injEq, Int.compare_eq_eq] at h
    exact ⟨k, hk, by rw [fcmp_k hf (by omega), Option.some.injEq, Int.compare_eq_eq]; exact h.symm⟩
  · rintro ⟨k, hk, h⟩
    have hf := fin_of_eq hx (by omega) h
    rw [fcmp_k hf (by omega), Option.some.injEq, Int.compare_eq_eq] at h
    have hv := sv_pos h
    have hpk : pok x = true := by
      unfold pok ltF
      rw [hf, fcmp_sv hf half_mag.1]
      have h1 : sv x = sg (vneg x) (vmag x) := rfl
      rw [← h1, h, half_mag.2.1]
      have h2 : ¬ (((k * G74 : Nat) : Int) < sg true (vmag 3204448256)) := by
        unfold sg; rw [if_pos rfl]; generalize vmag 3204448256 = t; generalize k * G74 = u; omega
      have h3 : compare ((k * G74 : Nat) : Int) (sg true (vmag 3204448256)) ≠ .lt := fun h => h2 (Int.compare_eq_lt.1 h)
      generalize compare ((k * G74 : Nat) : Int) (sg true (vmag 3204448256)) = o at h3
      cases o
      · exact absurd rfl h3
      · rfl
      · rfl
    refine ⟨k, hk, ?_, ?_⟩
    · rw [if_pos hpk, hv, rnd_mul] at hP
      omega
    · rw [k_fcmp hf (by omega), Option.some.injEq, Int.compare_eq_eq]; exact h.symm
theorem whole_ge {x dn : Nat} (hx : x < 4294967296) (h0 : 0 < dn) (hd : dn ≤ 8) (h : whole dn x = true) : geF x 0 = true ∧ gtF x (kW (dn - 1)) = false := by
  obtain ⟨k, hk, h⟩ := whole_iff.1 h
  have hf := fin_of_eq hx (by omega) h
  rw [fcmp_k hf (by omega), Option.some.injEq, Int.compare_eq_eq] at h
  have h1 : fcmp x 0 = some (compare (sv x) ((0 * G74 : Nat) : Int)) := fcmp_k (k := 0) hf (by omega)
  have h2 := fcmp_k (k := dn - 1) hf (by omega)
  have h3 : k * G74 ≤ (dn - 1) * G74 := Nat.mul_le_mul_right _ (by omega)
  constructor
  · unfold geF
    rw [h1, h]
    rcases Nat.eq_zero_or_pos (k * G74) with h4 | h4
    · rw [h4]; simp
    · rw [Int.compare_eq_gt.2 (by omega)]; rfl
  · unfold gtF
    rw [h2, h]
    have h5 : compare ((k * G74 : Nat) : Int) (((dn - 1) * G74 : Nat) : Int) ≠ .gt := fun h => by have := Int.compare_eq_gt.1 h; omega
    generalize compare ((k * G74 : Nat) : Int) (((dn - 1) * G74 : Nat) : Int) = o at h5
    cases o
    · rfl
    · rfl
    · exact absurd rfl h5
theorem ge_trunc {x dn : Nat} (hx : x < 4294967296) (h0 : 0 < dn) (hd : dn ≤ 8) (hg : geF x 0 = true) (hl : gtF x (kW (dn - 1)) = false) :
    finB x = true ∧ vmag x / G74 < dn ∧ floatToIntVal .f32 x .i64 = some ((vmag x / G74 : Nat) : Int) ∧ (fcmp x (kW (vmag x / G74)) = some .eq ↔ whole dn x = true) := by
  have hg' : fcmp x 0 = some .gt ∨ fcmp x 0 = some .eq := by
    unfold geF at hg; simpa using hg
  have hl' : ¬ fcmp x (kW (dn - 1)) = some .gt := by
    unfold gtF at hl; simpa using hl
  have hf := fin_of_le hx (by omega) hg' hl'
  have h1 : fcmp x 0 = some (compare (sv x) ((0 * G74 : Nat) : Int)) := fcmp_k (k := 0) hf (by omega)
  rw [h1, Option.some.injEq, Option.some.injEq, Int.compare_eq_gt, Int.compare_eq_eq] at hg'
  rw [fcmp_k hf (by omega), Option.some.injEq, Int.compare_eq_gt] at hl'
  have hsv : sv x = (vmag x : Int) := by
    have h2 : sv x = sg (vneg x) (vmag x) := rfl
    rw [h2] at hg' ⊢
    unfold sg at hg' ⊢
    generalize vmag x = v at hg' ⊢
    split at hg' <;> split <;> first | omega | simp_all
  have hle : vmag x ≤ (dn - 1) * G74 := by rw [hsv] at hl'; omega
  have hq : vmag x / G74 ≤ dn - 1 := Nat.div_le_of_le_mul (by rw [Nat.mul_comm]; exact hle)
  refine ⟨hf, by omega, ?_, ?_⟩
  · obtain ⟨s, m, p, hr, hm, hp1, hp2, hv, hn⟩ := read_fin hf
    have hd' : FloatKind.f32.decode x = .number s m p := hr
    have ht := toInt_sv s m p (by omega)
    rw [← hv, ← hn] at ht
    have hs2 : sg (vneg x) (vmag x / G74) = ((vmag x / G74 : Nat) : Int) := by
      have h2 : sv x = sg (vneg x) (vmag x) := rfl
      rw [h2] at hsv
      unfold sg at hsv ⊢
      split at hsv
      · rename_i hneg
        rw [if_pos hneg]
        have : vmag x = 0 := by omega
        rw [this]; simp
      · rename_i hneg; rw [if_neg hneg]
    rw [hs2] at ht
    have hq8 : vmag x / G74 < 8 := by omega
    generalize vmag x / G74 = q at ht hq8
    unfold floatToIntVal
    rw [hd', ← hn, ht]
    have e1 : IntKind.i64.min = -9223372036854775808 := rfl
    have e2 : IntKind.i64.max = 9223372036854775807 := rfl
    exact if_pos ⟨by omega, by omega⟩
  · rw [whole_iff]
    constructor
    · intro h; exact ⟨_, by omega, h⟩
    · rintro ⟨k, hk, h⟩
      rw [fcmp_k hf (by omega), Option.some.injEq, Int.compare_eq_eq] at h
      have hv := sv_pos h
      rw [hv, Nat.mul_div_cancel _ G74_pos, fcmp_k hf (by omega), Option.some.injEq, Int.compare_eq_eq]
      exact h
theorem kW_conv {k : Nat} (hk : k < 8) : floatOfInt .f32 (k : Int) = kW k := by
  match k, hk with
  | 0, _ | 1, _ | 2, _ | 3, _ | 4, _ | 5, _ | 6, _ | 7, _ => decide +kernel
/-- As the program asks: no one of 0 .. dn - 1. -/
noncomputable def badP (dn x : Nat) : Bool := if 0 ≤ (if pok x = true then min (rnd (vmag x) : Int) 1048576 else -1) ∧ (if pok x = true then min (rnd (vmag x) : Int) 1048576 else -1) ≤ (dn : Int) - 1 then !(fcmp (kW (if pok x = true then min (rnd (vmag x) : Int) 1048576 else -1).toNat) x == some .eq) else true
theorem bad_whole {x dn : Nat} (hx : x < 4294967296) (hd : dn ≤ 8) : badP dn x = !whole dn x := by
  unfold badP
  obtain ⟨P, hP⟩ : ∃ P, (if pok x = true then min (rnd (vmag x) : Int) 1048576 else -1) = P := ⟨_, rfl⟩
  have key := place_whole hx hd hP
  rw [hP]
  cases hw : whole dn x with
  | true =>
    obtain ⟨k, hk, rfl, h⟩ := key.2 hw
    rw [if_pos ⟨by omega, by omega⟩, Int.toNat_natCast, h]
    rfl
  | false =>
    split
    · rename_i hin
      obtain ⟨k, rfl⟩ := Int.eq_ofNat_of_zero_le hin.1
      rw [Int.toNat_natCast]
      have : ¬ fcmp (kW k) x = some .eq := fun h => by
        rw [key.1 ⟨k, by omega, rfl, h⟩] at hw; cases hw
      simp [this]
    · rfl
end Go.Proofs.Ythkfbmboiabolaa
