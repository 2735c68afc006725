/- Contracts: finite numbers, prices. -/
import Derived.Test.YtcekofioiofjbaaHarA
import Derived.Test.YtcekofioiofjbaaKit
namespace Go.Proofs.Ytcekofioiofjbaa
open Go.RowKit
set_option linter.unusedVariables false

theorem nrm_zero : nrm 0 = 0 := by decide +kernel
/-- A number is finite. -/
def finB (b : Nat) : Bool := fcmp (fop .sub b b) 0 == some .eq
def geF (a b : Nat) : Bool := fcmp a b == some .gt || fcmp a b == some .eq
def leF (a b : Nat) : Bool := fcmp a b == some .lt || fcmp a b == some .eq
def gtF (a b : Nat) : Bool := fcmp a b == some .gt
def ltF (a b : Nat) : Bool := fcmp a b == some .lt
def eqF (a b : Nat) : Bool := fcmp a b == some .eq
theorem Is.cmp {r X s Y : Nat} (hr : Is r X) (hs : Is s Y) : FloatKind.f32.format.order r s = fcmp X Y := by
  show fcmp r s = _
  rw [← hr.2, ← hs.2, fcmp_nrm]
theorem Is.zero : Is 0 0 := ⟨by omega, nrm_zero⟩
theorem Is.op {r X s Y q : Nat} {o : BinOp} (hr : Is r X) (hs : Is s Y) (hq : Is q (fop o r s)) : Is q (fop o X Y) := by
  rw [← hr.2, ← hs.2, fop_nrm]; exact hq
theorem fin_order (w : World) (b : Nat) : (FloatKind.f32.format.order (flR .sub w b b) 0 == some .eq) = finB b := by
  rw [(flR_is .sub w b b).cmp Is.zero]; rfl
theorem nrm_word {b : Nat} (h : b < 4294967296) : Is b (nrm b) := ⟨h, rfl⟩
theorem finB_nrm (b : Nat) : finB (nrm b) = finB b := by unfold finB; rw [fop_nrm]

theorem specFinite_of (b : Nat) (v : Bool) (h : finB b = v) (W : World) :
    Calls Try.prog 107 #[.float .f32 b] W fun e W' => e = .returned (.bool v) ∧ Ext W W' := by
  subst h
  go_enter Try.func107, Try.ntmps107
  go_wp2
  go_ret
  exact ⟨by rw [fin_order]; rfl, ext_drewN _ _⟩
theorem implFinite_of (b : Nat) (v : Bool) (h : finB b = v) (W : World) :
    Calls Try.prog 109 #[.float .f32 b] W fun e W' => e = .returned (.bool v) ∧ Ext W W' := by
  subst h
  go_enter Try.func109, Try.ntmps109
  go_wp2
  go_ret
  exact ⟨by rw [fin_order]; rfl, ext_drewN _ _⟩
end Go.Proofs.Ytcekofioiofjbaa
