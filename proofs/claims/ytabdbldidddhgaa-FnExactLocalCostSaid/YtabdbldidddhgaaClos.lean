/- Contracts of the function values that tell a volume's costs. -/
import Derived.Test.YtabdbldidddhgaaCell
namespace Go.Proofs.Ytabdbldidddhgaa
open Go.RowKit
set_option linter.unusedVariables false

theorem fcmp_nrm_left (x y : Nat) : fcmp (nrm x) y = fcmp x y := by
  have h1 := fcmp_nrm (nrm x) y
  have h2 := fcmp_nrm x y
  rw [nrm_nrm] at h1
  rw [← h1, h2]
theorem fop_nrm_left (o : BinOp) (x y : Nat) : fop o (nrm x) y = fop o x y := by
  have h1 := fop_nrm o (nrm x) y
  have h2 := fop_nrm o x y
  rw [nrm_nrm] at h1
  rw [← h1, h2]
theorem fop_nrm_right (o : BinOp) (x y : Nat) : fop o x (nrm y) = fop o x y := by
  have h1 := fop_nrm o x (nrm y)
  have h2 := fop_nrm o x y
  rw [nrm_nrm] at h1
  rw [← h1, h2]
theorem is_l {v p P r : Nat} {o : BinOp} (hv : v < 4294967296) (hp : Is p P) (h : Is r (fop o v p)) : Is r (fop o v P) := by
  have := Is.op (nrm_word hv) hp h
  rwa [fop_nrm_left] at this
theorem is_ll {v w r : Nat} {o : BinOp} (hv : v < 4294967296) (hw : w < 4294967296) (h : Is r (fop o v w)) : Is r (fop o v w) := h
end Go.Proofs.Ytabdbldidddhgaa
