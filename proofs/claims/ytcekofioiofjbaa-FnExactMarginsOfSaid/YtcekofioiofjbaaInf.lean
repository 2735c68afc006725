/- The positive infinity. -/
import Derived.Test.YtcekofioiofjbaaFin
namespace Go.Proofs.Ytcekofioiofjbaa
open Go.RowKit
set_option linter.unusedVariables false

def infW : Nat := 2139095040
theorem inf_is : Is infW infW := ⟨by unfold infW; omega, by decide +kernel⟩
@[go_sem] theorem run_frombits (w : World) : (callFunc 117 #[.int .u64 9218868437227405312]).run Try.prog w = .ok (.value (.float .f64 9218868437227405312)) w :=
  run_callFunc_extern Try.func117 (by kernel_rfl) (by kernel_rfl) (by kernel_rfl) (e := Extern.MathFloatBits.float64frombits) (by kernel_rfl) #[.int .u64 9218868437227405312] w
@[go_sem] theorem run_cvinf (w : World) : (convert 41 37 (.float .f64 9218868437227405312)).run Try.prog w = .ok (.float .f32 2139095040) w := by
  kernel_rfl
theorem mathInf_any (W : World) : Calls Try.prog 114 #[.int .i64 1] W fun e W' => e = .returned (.float .f64 9218868437227405312) ∧ W = W' := by
  go_enter Try.func114, Try.ntmps114
  go_wp2
  go_ret
  exact ⟨rfl, rfl⟩
theorem implInf_any (W : World) : Calls Try.prog 106 #[] W fun e W' => e = .returned (.float .f32 infW) ∧ W = W' := by
  go_enter Try.func106, Try.ntmps106
  go_wp2_with fail
  refine (mathInf_any _).mono ?_
  rintro e w' ⟨rfl, rfl⟩
  go_wp2
  go_ret
  exact ⟨rfl, rfl⟩
theorem specInf_any (W : World) : Calls Try.prog 103 #[] W fun e W' => e = .returned (.float .f32 infW) ∧ W = W' := by
  go_enter Try.func103, Try.ntmps103
  go_wp2_with fail
  refine (mathInf_any _).mono ?_
  rintro e w' ⟨rfl, rfl⟩
  go_wp2
  go_ret
  exact ⟨rfl, rfl⟩
end Go.Proofs.Ytcekofioiofjbaa
