/- Contracts: the size of a number, as the program and as the reference reckon it; whether two numbers are near. -/
import Derived.Test.YtpjlfgaflbghmaaSame
import Derived.Test.YtpjlfgaflbghmaaSize
import Derived.Laws.DeepBits32
namespace Go.Proofs.Ytpjlfgaflbghmaa
open Go.RowKit
set_option linter.unusedVariables false

theorem u32_andNot_sign (x : Nat) (hx : x < 4294967296) : bits .andNot .u32 (x : Int) 2147483648 = ((x % 2147483648 : Nat) : Int) := by
  show IntKind.u32.wrap ((BitVec.ofInt 32 (x : Int) &&& ~~~BitVec.ofInt 32 2147483648).toNat : Int) = _
  have h1 : (BitVec.ofInt 32 2147483648).toNat = 2147483648 := by decide
  rw [BitVec.toNat_and, BitVec.toNat_not, ofInt_u32 x (by omega), h1, show 2 ^ 32 - 1 - 2147483648 = 2 ^ 31 - 1 by decide, Nat.and_two_pow_sub_one_eq_mod]
  simp [IntKind.wrap, IntKind.bits, IntKind.signed]
  omega
theorem nrm_lt (b : Nat) (hb : b < 4294967296) : nrm b < 4294967296 := by
  unfold nrm; split
  · decide
  · exact hb
@[go_sem] theorem run_frombits32 (b : Nat) (w : World) : (callFunc 131 #[.int .u32 b]).run Try.prog w = .ok (.value (.float .f32 b)) w :=
  run_callFunc_extern Try.func131 (by kernel_rfl) (by kernel_rfl) (by kernel_rfl) (e := Extern.MathFloatBits.float32frombits) (by kernel_rfl) #[.int .u32 b] w
theorem abs_any (x : Nat) (hx : x < 4294967296) (W : World) :
    Calls Try.prog 113 #[.float .f32 x] W fun e W' => e = .returned (.float .f32 (x % 2147483648)) ∧ W = W' := by
  have hb := u32_andNot_sign x hx
  obtain ⟨y, hy⟩ : ∃ y, x % 2147483648 = y := ⟨_, rfl⟩
  rw [hy] at hb ⊢
  clear hy hx
  have hb1 := run_bits x
  have hb2 := run_frombits32 y
  go_enter Try.func113, Try.ntmps113
  go_wp2
  go_ret
  exact ⟨rfl, rfl⟩
end Go.Proofs.Ytpjlfgaflbghmaa
