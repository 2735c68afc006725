/- Contracts: finite numbers, prices. -/
import Derived.Test.YtgpobhpcbgenoaaHarA
import Derived.Test.YtgpobhpcbgenoaaKit
namespace Go.Proofs.Ytgpobhpcbgenoaa
open Go.RowKit
set_option linter.unusedVariables false

theorem nrm_zero : nrm 0 = 0 := by decide +kernel
/-- A number is finite. -/
def finB (b : Nat) : Bool := fcmp (fop .sub b b) 0 == some .eq
def geF (a b : Nat) : Bool := fcmp a b == some .gt || fcmp a b == some .eq
def leF (a b : Nat) : Bool := fcmp a b == some .lt || fcmp a b == some .eq
def gtF (a b : Nat) : Bool := fcmp a b == some .gt
def ltF (a b : Nat) : Bool := fcmp a b == some .lt
def eqF (a b : Nat) : Bool := fcmp a b == some .eq
theorem Is.cmp {r X s Y : Nat} (hr : Is r X) (hs : Is s Y) : FloatKind.f32.format.order r s = fcmp X Y := by
  show fcmp r s = _
  rw [← hr.2, ← hs.2, fcmp_nrm]
theorem Is.zero : Is 0 0 := ⟨by omega, nrm_zero⟩
theorem Is.op {r X s Y q : Nat} {o : BinOp} (hr : Is r X) (hs : Is s Y) (hq : Is q (fop o r s)) : Is q (fop o X Y) := by
  rw [← hr.2, ← hs.2, fop_nrm]; exact hq
theorem fin_order (w : World) (b : Nat) : (FloatKind.f32.format.order (flR .sub w b b) 0 == some .eq) = finB b := by
  rw [(flR_is .sub w b b).cmp Is.zero]; rfl
theorem nrm_word {b : Nat} (h : b < 4294967296) : Is b (nrm b) := ⟨h, rfl⟩
theorem finB_nrm (b : Nat) : finB (nrm b) = finB b := by unfold finB; rw [fop_nrm]

theorem specFinite_of (b : Nat) (v : Bool) (h : finB b = v) (W : World) :
    Calls Try.prog 96 #[.float .f32 b] W fun e W' => e = .returned (.bool v) ∧ Ext W W' := by
  subst h
  go_enter Try.func96, Try.ntmps96
  go_wp2
  go_ret
  exact ⟨by rw [fin_order]; rfl, ext_drewN _ _⟩
theorem implFinite_of (b : Nat) (v : Bool) (h : finB b = v) (W : World) :
    Calls Try.prog 118 #[.float .f32 b] W fun e W' => e = .returned (.bool v) ∧ Ext W W' := by
  subst h
  go_enter Try.func118, Try.ntmps118
  go_wp2
  go_ret
  exact ⟨by rw [fin_order]; rfl, ext_drewN _ _⟩
theorem finite1_of (b : Nat) (W : World) :
    Calls Try.prog 119 #[.float .f32 b] W fun e W' => e = .returned (.bool (!finB b)) ∧ Ext W W' := by
  go_enter Try.func119, Try.ntmps119
  go_wp2_with (go_at_call 118; refine (implFinite_of b _ rfl _).mono ?_; rintro e w' ⟨rfl, hx⟩)
  go_ret
  exact ⟨rfl, hx⟩
/-- Right prices. -/
def PV (a b : Nat) : Prop := finB a = true ∧ finB b = true ∧ geF a 0 = true ∧ leF a b = true
instance (a b : Nat) : Decidable (PV a b) := by unfold PV; infer_instance

theorem l04Is_yes (g a b : Nat) (W : World) (hc0 : W.cell? ⟨g, 0, none⟩ = some (.float .f32 a)) (hc1 : W.cell? ⟨g, 1, none⟩ = some (.float .f32 b)) (h : PV a b) :
    Calls Try.prog 48 #[.pointer (some ⟨g, 0, none⟩)] W fun e W' => e = .returned (.bool true) ∧ Ext W W' := by
  obtain ⟨h1, h2, h3, h4⟩ := h
  have h3' : (FloatKind.f32.format.order a 0 == some .gt || FloatKind.f32.format.order a 0 == some .eq) = true := h3
  have h4' : (FloatKind.f32.format.order a b == some .lt || FloatKind.f32.format.order a b == some .eq) = true := h4
  clear h3 h4
  go_enter Try.func48, Try.ntmps48
  go_wp2_with fail
  refine region_wx 30 [] (by kernel_rfl) (by kernel_rfl) ?_
  simp only [List.take_succ_cons, List.take_zero, List.drop_succ_cons, List.drop_zero]
  repeat ((first | refine wx_skip rfl ?_ | refine wx_nilCheck rfl rfl _ rfl _ rfl ?_ | (refine wx_float rfl rfl _ _ _ _ _ _ _ rfl rfl rfl rfl ?_; intro r hr) | (refine wx_k rfl rfl rfl (fun K hK => ?_); go_big_quiet_op; refine hK _ ?_; clear hK K) | (refine wx_call rfl rfl 96 _ _ rfl (by kernel_rfl) (by kernel_rfl) (.bool true) (fun W hW hF => ?_) ?_; go_simp; (with_reducible refine (specFinite_of a true h1 W).mono ?_); rintro e w' h; exact h) | (refine wx_call rfl rfl 96 _ _ rfl (by kernel_rfl) (by kernel_rfl) (.bool true) (fun W hW hF => ?_) ?_; go_simp; (with_reducible refine (specFinite_of b true h2 W).mono ?_); rintro e w' h; exact h)); (try simp only [Act.put, List.setIfInBounds_toArray, List.set_cons_zero, List.set_cons_succ]); (try simp only [List.tail_nil]))
  refine wx_nil (fun W hW hF => ?_)
  go_wp2
  go_ret
  exact ⟨rfl, hW⟩
theorem l04Is_no (g a b : Nat) (W : World) (hc0 : W.cell? ⟨g, 0, none⟩ = some (.float .f32 a)) (hc1 : W.cell? ⟨g, 1, none⟩ = some (.float .f32 b)) (h : ¬ PV a b) :
    Calls Try.prog 48 #[.pointer (some ⟨g, 0, none⟩)] W fun e W' => e = .returned (.bool false) ∧ Ext W W' := by
  cases h1 : finB a with
  | false =>
    go_enter Try.func48, Try.ntmps48
    go_wp2_with fail
    refine region_wx 30 [] (by kernel_rfl) (by kernel_rfl) ?_
    simp only [List.take_succ_cons, List.take_zero, List.drop_succ_cons, List.drop_zero]
    repeat ((first | refine wx_skip rfl ?_ | refine wx_nilCheck rfl rfl _ rfl _ rfl ?_ | (refine wx_float rfl rfl _ _ _ _ _ _ _ rfl rfl rfl rfl ?_; intro r hr) | (refine wx_k rfl rfl rfl (fun K hK => ?_); go_big_quiet_op; refine hK _ ?_; clear hK K) | (refine wx_call rfl rfl 96 _ _ rfl (by kernel_rfl) (by kernel_rfl) (.bool false) (fun W hW hF => ?_) ?_; go_simp; (with_reducible refine (specFinite_of a false h1 W).mono ?_); rintro e w' h; exact h)); (try simp only [Act.put, List.setIfInBounds_toArray, List.set_cons_zero, List.set_cons_succ]); (try simp only [List.tail_nil]))
    refine wx_nil (fun W hW hF => ?_)
    go_wp2
    go_ret
    exact ⟨rfl, hW⟩
  | true =>
  cases h2 : finB b with
  | false =>
    go_enter Try.func48, Try.ntmps48
    go_wp2_with fail
    refine region_wx 30 [] (by kernel_rfl) (by kernel_rfl) ?_
    simp only [List.take_succ_cons, List.take_zero, List.drop_succ_cons, List.drop_zero]
    repeat ((first | refine wx_skip rfl ?_ | refine wx_nilCheck rfl rfl _ rfl _ rfl ?_ | (refine wx_float rfl rfl _ _ _ _ _ _ _ rfl rfl rfl rfl ?_; intro r hr) | (refine wx_k rfl rfl rfl (fun K hK => ?_); go_big_quiet_op; refine hK _ ?_; clear hK K) | (refine wx_call rfl rfl 96 _ _ rfl (by kernel_rfl) (by kernel_rfl) (.bool true) (fun W hW hF => ?_) ?_; go_simp; (with_reducible refine (specFinite_of a true h1 W).mono ?_); rintro e w' h; exact h) | (refine wx_call rfl rfl 96 _ _ rfl (by kernel_rfl) (by kernel_rfl) (.bool false) (fun W hW hF => ?_) ?_; go_simp; (with_reducible refine (specFinite_of b false h2 W).mono ?_); rintro e w' h; exact h)); (try simp only [Act.put, List.setIfInBounds_toArray, List.set_cons_zero, List.set_cons_succ]); (try simp only [List.tail_nil]))
    refine wx_nil (fun W hW hF => ?_)
    go_wp2
    go_ret
    exact ⟨rfl, hW⟩
  | true =>
  cases h3 : geF a 0 with
  | false =>
    have h3' : (FloatKind.f32.format.order a 0 == some .gt || FloatKind.f32.format.order a 0 == some .eq) = false := h3
    go_enter Try.func48, Try.ntmps48
    go_wp2_with fail
    refine region_wx 30 [] (by kernel_rfl) (by kernel_rfl) ?_
    simp only [List.take_succ_cons, List.take_zero, List.drop_succ_cons, List.drop_zero]
    repeat ((first | refine wx_skip rfl ?_ | refine wx_nilCheck rfl rfl _ rfl _ rfl ?_ | (refine wx_float rfl rfl _ _ _ _ _ _ _ rfl rfl rfl rfl ?_; intro r hr) | (refine wx_k rfl rfl rfl (fun K hK => ?_); go_big_quiet_op; refine hK _ ?_; clear hK K) | (refine wx_call rfl rfl 96 _ _ rfl (by kernel_rfl) (by kernel_rfl) (.bool true) (fun W hW hF => ?_) ?_; go_simp; (with_reducible refine (specFinite_of a true h1 W).mono ?_); rintro e w' h; exact h) | (refine wx_call rfl rfl 96 _ _ rfl (by kernel_rfl) (by kernel_rfl) (.bool true) (fun W hW hF => ?_) ?_; go_simp; (with_reducible refine (specFinite_of b true h2 W).mono ?_); rintro e w' h; exact h)); (try simp only [Act.put, List.setIfInBounds_toArray, List.set_cons_zero, List.set_cons_succ]); (try simp only [List.tail_nil]))
    refine wx_nil (fun W hW hF => ?_)
    go_wp2
    go_ret
    exact ⟨rfl, hW⟩
  | true =>
  have h3' : (FloatKind.f32.format.order a 0 == some .gt || FloatKind.f32.format.order a 0 == some .eq) = true := h3
  have h4' : (FloatKind.f32.format.order a b == some .lt || FloatKind.f32.format.order a b == some .eq) = false := by
    cases h4 : leF a b with
    | true => exact absurd ⟨h1, h2, h3, h4⟩ h
    | false => exact h4
  clear h h3
  go_enter Try.func48, Try.ntmps48
  go_wp2_with fail
  refine region_wx 30 [] (by kernel_rfl) (by kernel_rfl) ?_
  simp only [List.take_succ_cons, List.take_zero, List.drop_succ_cons, List.drop_zero]
  repeat ((first | refine wx_skip rfl ?_ | refine wx_nilCheck rfl rfl _ rfl _ rfl ?_ | (refine wx_float rfl rfl _ _ _ _ _ _ _ rfl rfl rfl rfl ?_; intro r hr) | (refine wx_k rfl rfl rfl (fun K hK => ?_); go_big_quiet_op; refine hK _ ?_; clear hK K) | (refine wx_call rfl rfl 96 _ _ rfl (by kernel_rfl) (by kernel_rfl) (.bool true) (fun W hW hF => ?_) ?_; go_simp; (with_reducible refine (specFinite_of a true h1 W).mono ?_); rintro e w' h; exact h) | (refine wx_call rfl rfl 96 _ _ rfl (by kernel_rfl) (by kernel_rfl) (.bool true) (fun W hW hF => ?_) ?_; go_simp; (with_reducible refine (specFinite_of b true h2 W).mono ?_); rintro e w' h; exact h)); (try simp only [Act.put, List.setIfInBounds_toArray, List.set_cons_zero, List.set_cons_succ]); (try simp only [List.tail_nil]))
  refine wx_nil (fun W hW hF => ?_)
  go_wp2
  go_ret
  exact ⟨rfl, hW⟩
end Go.Proofs.Ytgpobhpcbgenoaa
