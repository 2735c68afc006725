/- The number with the least cost, in the program and in the reference. -/
import Derived.Test.YthkfbmboiabolaaSpecV
import Derived.Test.YthkfbmboiabolaaAcc2
import Derived.Test.YthkfbmboiabolaaSame
namespace Go.Proofs.Ythkfbmboiabolaa
open Go.RowKit
set_option linter.unusedVariables false

/-- The number of the least word, the first of them, but one; -1 without any. -/
def winTo (F : Nat → Nat) (but : Int) : Nat → Int
  | 0 => -1
  | k + 1 => if (k : Int) ≠ but ∧ isN (F k) = false ∧ (winTo F but k < 0 ∨ ltF (F k) (F (winTo F but k).toNat) = true) then (k : Int) else winTo F but k
theorem winTo_range (F : Nat → Nat) (but : Int) : ∀ k, winTo F but k = -1 ∨ ∃ b : Nat, winTo F but k = (b : Int) ∧ b < k
  | 0 => .inl rfl
  | k + 1 => by
    unfold winTo
    split
    · exact .inr ⟨k, rfl, by omega⟩
    · rcases winTo_range F but k with h | ⟨b, h, hb⟩
      · exact .inl h
      · exact .inr ⟨b, h, by omega⟩
theorem winTo_skip {F : Nat → Nat} {but : Int} {k : Nat} (h : ¬ ((k : Int) ≠ but ∧ isN (F k) = false ∧ (winTo F but k < 0 ∨ ltF (F k) (F (winTo F but k).toNat) = true))) : winTo F but (k + 1) = winTo F but k := by
  rw [winTo, if_neg h]
theorem winTo_take {F : Nat → Nat} {but : Int} {k : Nat} (h : (k : Int) ≠ but ∧ isN (F k) = false ∧ (winTo F but k < 0 ∨ ltF (F k) (F (winTo F but k).toNat) = true)) : winTo F but (k + 1) = (k : Int) := by
  rw [winTo, if_pos h]
theorem ord_nan {v : Nat} (h : isN v = true) : (FloatKind.f32.format.order v v == some .eq) = false := by
  have : FloatKind.f32.format.order v v = none := order_nan_left v v h
  rw [this]; rfl
theorem ord_num {v : Nat} (h : isN v = false) : (FloatKind.f32.format.order v v == some .eq) = true := by
  have : FloatKind.f32.format.order v v = some .eq := order_self v h
  rw [this]; rfl
end Go.Proofs.Ythkfbmboiabolaa
