/- Contracts: reading maps, pictures and volumes that lie in a box. -/
import Derived.Test.YtppahlkmemngeaaValid
import Derived.Test.YtppahlkmemngeaaKit
namespace Go.Proofs.Ytppahlkmemngeaa
open Go.RowKit
set_option linter.unusedVariables false

/-- The nearest place within. -/
def clampI (n m : Int) : Int := max 0 (min n (m - 1))
theorem clampI_bounds (n : Int) {m : Int} (h : 1 ≤ m) : 0 ≤ clampI n m ∧ clampI n m ≤ m - 1 := by unfold clampI; omega
theorem clampI_in {n m : Int} (h0 : 0 ≤ n) (h1 : n ≤ m - 1) : clampI n m = n := by unfold clampI; omega
theorem idx_bound {w h x y : Int} (hx0 : 0 ≤ x) (hx1 : x ≤ w - 1) (hy0 : 0 ≤ y) (hy1 : y ≤ h - 1) (hw : 1 ≤ w) : 0 ≤ x + w * y ∧ x + w * y < w * h ∧ 0 ≤ w * y ∧ w * y ≤ w * h := by
  have h1 : 0 ≤ w * y := Int.mul_nonneg (by omega) hy0
  have h2 : w * y ≤ w * (h - 1) := Int.mul_le_mul_of_nonneg_left hy1 (by omega)
  rw [Int.mul_sub, Int.mul_one] at h2
  omega
/-- The number of a cell. -/
def cellN (w x y : Int) : Nat := (x + w * y).toNat
theorem cellN_eq {w h x y : Int} {n : Nat} (hv : VMap w h n) (hx0 : 0 ≤ x) (hx1 : x ≤ w - 1) (hy0 : 0 ≤ y) (hy1 : y ≤ h - 1) : x + w * y = (cellN w x y : Int) ∧ cellN w x y < n ∧ IntKind.i64.wrap (w * y) = w * y := by
  have hb := idx_bound hx0 hx1 hy0 hy1 hv.1.1
  have h5 := hv.1.2.2.2.2
  have h6 := hv.2
  unfold cellN
  refine ⟨by omega, by omega, wrap_small _ (by omega) (by omega)⟩
theorem l00Min_any (a b : Int) (U : World) :
    Calls Try.prog 95 #[.int .i64 a, .int .i64 b] U fun e U' => e = .returned (.int .i64 (min a b)) ∧ U = U' := by
  by_cases h : a < b
  · have hm : min a b = a := by omega
    rw [hm]
    go_enter Try.func95, Try.ntmps95
    go_wp2
    go_ret
    exact ⟨rfl, rfl⟩
  · have hm : min a b = b := by omega
    rw [hm]
    go_enter Try.func95, Try.ntmps95
    go_wp2
    go_ret
    exact ⟨rfl, rfl⟩
end Go.Proofs.Ytppahlkmemngeaa
