/- Holes. -/
import Derived.Test.YtcekofioiofjbaaMaps
import Derived.Test.YtcekofioiofjbaaFin
namespace Go.Proofs.Ytcekofioiofjbaa
open Go.RowKit
set_option linter.unusedVariables false

def holeB (b : Nat) : Bool := !(geF b 0)
theorem l05Hole_of (b : Nat) (v : Bool) (h : holeB b = v) (W : World) :
    Calls Try.prog 72 #[.float .f32 b] W fun e W' => e = .returned (.bool v) ∧ W = W' := by
  have hge : (FloatKind.f32.format.order b 0 == some .gt || FloatKind.f32.format.order b 0 == some .eq) = !v := by
    have h2 : (!(geF b 0)) = v := h
    rw [← h2, Bool.not_not]; rfl
  clear h
  cases v
  all_goals
    go_enter Try.func72, Try.ntmps72
    go_wp2
    go_ret
    exact ⟨rfl, rfl⟩
theorem isHole_of (b : Nat) (v : Bool) (h : holeB b = v) (W : World) :
    Calls Try.prog 76 #[.float .f32 b] W fun e W' => e = .returned (.bool v) ∧ W = W' := by
  have hge : (FloatKind.f32.format.order b 0 == some .gt || FloatKind.f32.format.order b 0 == some .eq) = !v := by
    have h2 : (!(geF b 0)) = v := h
    rw [← h2, Bool.not_not]; rfl
  clear h
  cases v
  all_goals
    go_enter Try.func76, Try.ntmps76
    go_wp2
    go_ret
    exact ⟨rfl, rfl⟩
theorem noHole_of (b : Nat) (v : Bool) (h : holeB b = v) (W : World) :
    Calls Try.prog 85 #[.float .f32 b] W fun e W' => e = .returned (.bool (!v)) ∧ W = W' := by
  have HH := Lib.hid h
  clear h
  go_enter Try.func85, Try.ntmps85
  go_wp2_with (go_at_call 76; refine (isHole_of b v HH.out _).mono ?_; rintro e w' ⟨rfl, rfl⟩)
  go_ret
  exact ⟨rfl, rfl⟩
theorem is_r {r X b q : Nat} {o : BinOp} (hr : Is r X) (hb : b < 4294967296) (h : Is q (fop o r b)) : Is q (fop o X b) := by
  have h1 := Is.op hr (nrm_word hb) h
  have h2 := fop_nrm o X (nrm b)
  have h3 := fop_nrm o X b
  rw [nrm_nrm] at h2
  rw [h2.symm.trans h3] at h1
  exact h1
theorem wd_at {bs : List Nat} (hw : Words bs) (k : Nat) : bs.getD k 0 < 4294967296 := by
  by_cases h : k < bs.length
  · rw [List.getD_eq_getElem?_getD, List.getElem?_eq_getElem h]; exact hw _ (List.getElem_mem h)
  · rw [List.getD_eq_getElem?_getD, List.getElem?_eq_none (by omega)]; exact by decide
end Go.Proofs.Ytcekofioiofjbaa
