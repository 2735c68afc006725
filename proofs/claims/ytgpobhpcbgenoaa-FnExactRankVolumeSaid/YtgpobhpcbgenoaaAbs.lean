/- Contracts: the size of a number, as the program and as the reference reckon it; whether two numbers are near. -/
import Derived.Test.YtgpobhpcbgenoaaSame
import Derived.Test.YtgpobhpcbgenoaaSize
import Derived.Laws.DeepBits32
namespace Go.Proofs.Ytgpobhpcbgenoaa
open Go.RowKit
set_option linter.unusedVariables false

theorem u32_andNot_sign (x : Nat) (hx : x < 4294967296) : bits .andNot .u32 (x : Int) 2147483648 = ((x % 2147483648 : Nat) : Int) := by
  show IntKind.u32.wrap ((BitVec.ofInt 32 (x : Int) &&& ~~~BitVec.ofInt 32 2147483648).toNat : Int) = _
  have h1 : (BitVec.ofInt 32 2147483648).toNat = 2147483648 := by decide
  rw [BitVec.toNat_and, BitVec.toNat_not, ofInt_u32 x (by omega), h1, show 2 ^ 32 - 1 - 2147483648 = 2 ^ 31 - 1 by decide, Nat.and_two_pow_sub_one_eq_mod]
  simp [IntKind.wrap, IntKind.bits, IntKind.signed]
  omega
theorem nrm_lt (b : Nat) (hb : b < 4294967296) : nrm b < 4294967296 := by
  unfold nrm; split
  · decide
  · exact hb
@[go_sem] theorem run_frombits32 (b : Nat) (w : World) : (callFunc 111 #[.int .u32 b]).run Try.prog w = .ok (.value (.float .f32 b)) w :=
  run_callFunc_extern Try.func111 (by kernel_rfl) (by kernel_rfl) (by kernel_rfl) (e := Extern.MathFloatBits.float32frombits) (by kernel_rfl) #[.int .u32 b] w
theorem abs_any (x : Nat) (hx : x < 4294967296) (W : World) :
    Calls Try.prog 81 #[.float .f32 x] W fun e W' => e = .returned (.float .f32 (x % 2147483648)) ∧ W = W' := by
  have hb := u32_andNot_sign x hx
  obtain ⟨y, hy⟩ : ∃ y, x % 2147483648 = y := ⟨_, rfl⟩
  rw [hy] at hb ⊢
  clear hy hx
  have hb1 := run_bits x
  have hb2 := run_frombits32 y
  go_enter Try.func81, Try.ntmps81
  go_wp2
  go_ret
  exact ⟨rfl, rfl⟩
theorem l03Size_any (x X : Nat) (hx : Is x X) (U : World) :
    Calls Try.prog 77 #[.float .f32 x] U fun e U' => ∃ r, e = .returned (.float .f32 r) ∧ Is r (absN X) ∧ Ext U U' := by
  have hX : X < 4294967296 := by rw [← hx.2]; exact nrm_lt _ hx.1
  have hnX : nrm X = X := by rw [← hx.2]; exact nrm_nrm _
  have hS := sizeN_abs X hX hnX
  have hcmp : (FloatKind.f32.format.order x 0 == some .lt || FloatKind.f32.format.order x 0 == some .eq) = (fcmp X 0 == some .lt || fcmp X 0 == some .eq) := by
    rw [Is.cmp hx (⟨by omega, by decide +kernel⟩ : Is 0 0)]
  unfold sizeN at hS
  by_cases hle : (fcmp X 0 == some .lt || fcmp X 0 == some .eq) = true
  · rw [if_pos hle] at hS
    rw [hle] at hcmp
    rw [← hS]
    clear hS hle hX hnX
    go_enter Try.func77, Try.ntmps77
    go_wp2
    go_ret
    refine ⟨_, rfl, ?_, ?_⟩
    · exact Is.op (⟨by omega, by decide +kernel⟩ : Is 0 0) hx (flR_is _ _ _ _)
    · repeat (first | with_reducible exact Ext.refl _ | (with_reducible refine Ext.drewN ?_ _))
  · rw [if_neg hle] at hS
    rw [Bool.not_eq_true] at hle
    rw [hle] at hcmp
    rw [← hS]
    clear hS hle hX hnX
    go_enter Try.func77, Try.ntmps77
    go_wp2
    go_ret
    exact ⟨_, rfl, hx, Ext.refl _⟩
end Go.Proofs.Ytgpobhpcbgenoaa
