/- The Go law FnExactJumpsOf answers true at every input, and its arguments read behind the call as they read before. No condition. -/
import Derived.Test.YtgpobhpcbgenoaaRows
import Derived.Test.YtgpobhpcbgenoaaFJumpsOf
import Derived.Test.YtgpobhpcbgenoaaLift
import Derived.WalkKit
import Derived.ProofKit
import Derived.OpenShut
import Derived.ChangeOld
namespace Go.Proofs.Ytgpobhpcbgenoaa.lJumpsOf
open Go.ChangeShapes Go.WideShapes Go.ChangeAt Go.RowKit Go.Joins
set_option linter.unusedVariables false

set_option maxRecDepth 100000 in
theorem lifted (os : Os) (started : os.Started) (H : Type) (enc : TypeId × Value → H) :
    ReturnsInHanded {} Try.checked os 4 .any (Rows.fnExactJumpsOfSpec.pre6 enc Try.prog Try.f4 Rows.fnExactJumpsOfRow.domain false) (Rows.fnExactJumpsOfSpec.post enc Try.prog Try.f4 false true false false) := by
  refine returnsInHanded_of_change (C := Try.checked) own started (by kernel_rfl) Try.func4
    (ChangeSpec.witness6 (enc := enc) (C := Try.checked) false ⟨#[], #[.agg #[.int .i64 0, .int .i64 0, .int .i64 0, .slice none 0 0], .agg #[.int .i64 0, .int .i64 0, .slice none 0 0]], []⟩ 8 (by kernel_rfl) (by kernel_rfl) (by kernel_rfl) (by kernel_rfl)) ?_
  intro W base args ds gs before hval0 hW hcnd _
  have hval : ∀ (j : Nat) t v, Try.f4.params[j]? = some t → args[j]? = some v → Value.okWide Try.prog W .any base t v := hval0
  have hW' := hW
  obtain ⟨p, q, hA0, hV, rfl, hfz, hnd⟩ := hW
  have hA : DataW.TrodAll enc Try.prog W 0 (fun _ => true) true Try.f4.params.toList args.toList ds p := hA0
  rw [Try.params4] at hA hval
  obtain ⟨v0, vs0, d0, ds0, p0, q0, hargs, rfl, rfl, h0, r0⟩ := trodAll_cons hA
  obtain ⟨v1, vs1, d1, ds1, p1, q1, rfl, rfl, rfl, h1, r1⟩ := trodAll_cons r0
  obtain ⟨rfl, rfl, rfl⟩ := trodAll_nil r1
  obtain rfl : args = #[v0, v1] := by cases args; simp_all
  obtain ⟨rfl, rfl⟩ := trodVars_none hV
  have k0 := h0
  have lt0 : ∀ x ∈ p0, x.block < W.heap.size := by obtain ⟨m, hm⟩ := k0; exact DataW.trod_lt m _ _ _ hm
  have k1 := h1
  have lt1 : ∀ x ∈ p1, x.block < W.heap.size := by obtain ⟨m, hm⟩ := k1; exact DataW.trod_lt m _ _ _ hm
  obtain ⟨c00, c01, c02, c03, y00, y01, y02, y03, m0, rfl, _, _, t00, t01, t02, t03⟩ := open_agg4 Try.underlying24 (by kernel_rfl) (by kernel_rfl) (hval 0 24 v0 rfl rfl) h0
  obtain ⟨z00, rfl, lo00, hi00⟩ := trod_i64 Try.underlying2 t00
  obtain ⟨z01, rfl, lo01, hi01⟩ := trod_i64 Try.underlying2 t01
  obtain ⟨z02, rfl, lo02, hi02⟩ := trod_i64 Try.underlying2 t02
  obtain ⟨A0, n0, e0, bs0, rfl, le0, cap0, rd0, wd0⟩ := trod_words Try.underlying22 Try.underlying25 (by kernel_rfl) t03
  obtain ⟨c10, c11, c12, y10, y11, y12, m1, rfl, _, _, t10, t11, t12⟩ := open_agg3 Try.underlying29 (by kernel_rfl) (by kernel_rfl) (hval 1 29 v1 rfl rfl) h1
  obtain ⟨z10, rfl, lo10, hi10⟩ := trod_i64 Try.underlying2 t10
  obtain ⟨z11, rfl, lo11, hi11⟩ := trod_i64 Try.underlying2 t11
  obtain ⟨A1, n1, e1, bs1, rfl, le1, cap1, rd1, wd1⟩ := trod_words Try.underlying22 Try.underlying25 (by kernel_rfl) t12
  clear hA0 hval0
  refine (lawJumpsOf_any W z00 z01 z02 ⟨lo00, hi00⟩ ⟨lo01, hi01⟩ ⟨lo02, hi02⟩ A0 n0 e0 bs0 le0 cap0 rd0 wd0 z10 z11 ⟨lo10, hi10⟩ ⟨lo11, hi11⟩ A1 n1 e1 bs1 le1 cap1 rd1 wd1).mono fun e W' ⟨he, bel⟩ => ?_
  subst he
  exact ⟨_, rfl, _, _, _, [], _, [], hW', trodAll_mk1 (shut_bool Try.underlying4 _), (trodAll_cons_mk (Below.trod laidOut (by kernel_rfl) (of_decide_eq_true (by kernel_rfl)) k0 bel lt0) (trodAll_cons_mk (Below.trod laidOut (by kernel_rfl) (of_decide_eq_true (by kernel_rfl)) k1 bel lt1) trodAll_mk0)), rfl, Below.frame bel _, fun h => by cases h⟩

theorem over : Rows.fnExactJumpsOfRow.holds Try.pinned (OpenSpec.ofChange Rows.fnExactJumpsOfSpec) :=
  OpenClaim.holds_of_wide 4 Try.f4 rfl rfl rfl rfl rfl rfl rfl ⟨rfl, rfl, rfl, rfl, rfl⟩ rfl rfl rfl rfl rfl (by kernel_rfl) Try.func4 (by kernel_rfl)
    (of_decide_eq_true (by kernel_rfl)) (by unfold Func.isWrapper; first | (rw [if_pos (by decide +kernel)]; kernel_rfl) | (rw [if_neg (by decide +kernel)]; exact ⟨rfl, rfl⟩))
    (fun os started H enc _ => lifted os started H enc)

/-- The statement: FnExactJumpsOf is true at every input. -/
theorem proved : Rows.FnExactJumpsOfSaid := over
#print axioms proved
end Go.Proofs.Ytgpobhpcbgenoaa.lJumpsOf
