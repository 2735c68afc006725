/- The positive infinity. -/
import Derived.Test.YtppahlkmemngeaaFin
namespace Go.Proofs.Ytppahlkmemngeaa
open Go.RowKit
set_option linter.unusedVariables false

def infW : Nat := 2139095040
theorem inf_is : Is infW infW := ⟨by unfold infW; omega, by decide +kernel⟩
@[go_sem] theorem run_frombits (w : World) : (callFunc 102 #[.int .u64 9218868437227405312]).run Try.prog w = .ok (.value (.float .f64 9218868437227405312)) w :=
  run_callFunc_extern Try.func102 (by kernel_rfl) (by kernel_rfl) (by kernel_rfl) (e := Extern.MathFloatBits.float64frombits) (by kernel_rfl) #[.int .u64 9218868437227405312] w
@[go_sem] theorem run_cvinf (w : World) : (convert 83 25 (.float .f64 9218868437227405312)).run Try.prog w = .ok (.float .f32 2139095040) w := by
  kernel_rfl
theorem mathInf_any (W : World) : Calls Try.prog 100 #[.int .i64 1] W fun e W' => e = .returned (.float .f64 9218868437227405312) ∧ W = W' := by
  go_enter Try.func100, Try.ntmps100
  go_wp2
  go_ret
  exact ⟨rfl, rfl⟩
theorem implInf_any (W : World) : Calls Try.prog 101 #[] W fun e W' => e = .returned (.float .f32 infW) ∧ W = W' := by
  go_enter Try.func101, Try.ntmps101
  go_wp2_with fail
  refine (mathInf_any _).mono ?_
  rintro e w' ⟨rfl, rfl⟩
  go_wp2
  go_ret
  exact ⟨rfl, rfl⟩
theorem specInf_any (W : World) : Calls Try.prog 88 #[] W fun e W' => e = .returned (.float .f32 infW) ∧ W = W' := by
  go_enter Try.func88, Try.ntmps88
  go_wp2_with fail
  refine (mathInf_any _).mono ?_
  rintro e w' ⟨rfl, rfl⟩
  go_wp2
  go_ret
  exact ⟨rfl, rfl⟩
end Go.Proofs.Ytppahlkmemngeaa
