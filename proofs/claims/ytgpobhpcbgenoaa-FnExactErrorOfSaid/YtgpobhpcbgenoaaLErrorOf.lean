/- The Go law FnExactErrorOf answers true at every input, and its arguments read behind the call as they read before. No condition. -/
import Derived.Test.YtgpobhpcbgenoaaRows
import Derived.Test.YtgpobhpcbgenoaaFErrorOf
import Derived.Test.YtgpobhpcbgenoaaLift
import Derived.WalkKit
import Derived.ProofKit
import Derived.OpenShut
import Derived.ChangeOld
namespace Go.Proofs.Ytgpobhpcbgenoaa.lErrorOf
open Go.ChangeShapes Go.WideShapes Go.ChangeAt Go.RowKit Go.Joins
set_option linter.unusedVariables false

set_option maxRecDepth 100000 in
theorem lifted (os : Os) (started : os.Started) (H : Type) (enc : TypeId × Value → H) :
    ReturnsInHanded {} Try.checked os 6 .any (Rows.fnExactErrorOfSpec.pre6 enc Try.prog Try.f6 Rows.fnExactErrorOfRow.domain false) (Rows.fnExactErrorOfSpec.post enc Try.prog Try.f6 false true false false) := by
  refine returnsInHanded_of_change (C := Try.checked) own started (by kernel_rfl) Try.func6
    (ChangeSpec.witness6 (enc := enc) (C := Try.checked) false ⟨#[], #[.agg #[.int .i64 0, .int .i64 0, .slice none 0 0], .agg #[.int .i64 0, .int .i64 0, .slice none 0 0], .agg #[.int .i64 0, .int .i64 0, .slice none 0 0]], []⟩ 8 (by kernel_rfl) (by kernel_rfl) (by kernel_rfl) (by kernel_rfl)) ?_
  intro W base args ds gs before hval0 hW hcnd _
  have hval : ∀ (j : Nat) t v, Try.f6.params[j]? = some t → args[j]? = some v → Value.okWide Try.prog W .any base t v := hval0
  have hW' := hW
  obtain ⟨p, q, hA0, hV, rfl, hfz, hnd⟩ := hW
  have hA : DataW.TrodAll enc Try.prog W 0 (fun _ => true) true Try.f6.params.toList args.toList ds p := hA0
  rw [Try.params6] at hA hval
  obtain ⟨v0, vs0, d0, ds0, p0, q0, hargs, rfl, rfl, h0, r0⟩ := trodAll_cons hA
  obtain ⟨v1, vs1, d1, ds1, p1, q1, rfl, rfl, rfl, h1, r1⟩ := trodAll_cons r0
  obtain ⟨v2, vs2, d2, ds2, p2, q2, rfl, rfl, rfl, h2, r2⟩ := trodAll_cons r1
  obtain ⟨rfl, rfl, rfl⟩ := trodAll_nil r2
  obtain rfl : args = #[v0, v1, v2] := by cases args; simp_all
  obtain ⟨rfl, rfl⟩ := trodVars_none hV
  have k0 := h0
  have lt0 : ∀ x ∈ p0, x.block < W.heap.size := by obtain ⟨m, hm⟩ := k0; exact DataW.trod_lt m _ _ _ hm
  have k1 := h1
  have lt1 : ∀ x ∈ p1, x.block < W.heap.size := by obtain ⟨m, hm⟩ := k1; exact DataW.trod_lt m _ _ _ hm
  have k2 := h2
  have lt2 : ∀ x ∈ p2, x.block < W.heap.size := by obtain ⟨m, hm⟩ := k2; exact DataW.trod_lt m _ _ _ hm
  obtain ⟨c00, c01, c02, y00, y01, y02, m0, rfl, _, _, t00, t01, t02⟩ := open_agg3 Try.underlying54 (by kernel_rfl) (by kernel_rfl) (hval 0 54 v0 rfl rfl) h0
  obtain ⟨z00, rfl, lo00, hi00⟩ := trod_i64 Try.underlying2 t00
  obtain ⟨z01, rfl, lo01, hi01⟩ := trod_i64 Try.underlying2 t01
  obtain ⟨A0, n0, e0, bs0, rfl, le0, cap0, rd0, wd0⟩ := trod_words Try.underlying22 Try.underlying25 (by kernel_rfl) t02
  obtain ⟨c10, c11, c12, y10, y11, y12, m1, rfl, _, _, t10, t11, t12⟩ := open_agg3 Try.underlying54 (by kernel_rfl) (by kernel_rfl) (hval 1 54 v1 rfl rfl) h1
  obtain ⟨z10, rfl, lo10, hi10⟩ := trod_i64 Try.underlying2 t10
  obtain ⟨z11, rfl, lo11, hi11⟩ := trod_i64 Try.underlying2 t11
  obtain ⟨A1, n1, e1, bs1, rfl, le1, cap1, rd1, wd1⟩ := trod_words Try.underlying22 Try.underlying25 (by kernel_rfl) t12
  obtain ⟨c20, c21, c22, y20, y21, y22, m2, rfl, _, _, t20, t21, t22⟩ := open_agg3 Try.underlying29 (by kernel_rfl) (by kernel_rfl) (hval 2 29 v2 rfl rfl) h2
  obtain ⟨z20, rfl, lo20, hi20⟩ := trod_i64 Try.underlying2 t20
  obtain ⟨z21, rfl, lo21, hi21⟩ := trod_i64 Try.underlying2 t21
  obtain ⟨A2, n2, e2, bs2, rfl, le2, cap2, rd2, wd2⟩ := trod_words Try.underlying22 Try.underlying25 (by kernel_rfl) t22
  clear hA0 hval0
  refine (lawErrorOf_any W z00 z01 ⟨lo00, hi00⟩ ⟨lo01, hi01⟩ A0 n0 e0 bs0 le0 cap0 rd0 wd0 z10 z11 ⟨lo10, hi10⟩ ⟨lo11, hi11⟩ A1 n1 e1 bs1 le1 cap1 rd1 wd1 z20 z21 ⟨lo20, hi20⟩ ⟨lo21, hi21⟩ A2 n2 e2 bs2 le2 cap2 rd2 wd2).mono fun e W' ⟨he, bel⟩ => ?_
  subst he
  exact ⟨_, rfl, _, _, _, [], _, [], hW', trodAll_mk1 (shut_bool Try.underlying4 _), (trodAll_cons_mk (Below.trod laidOut (by kernel_rfl) (of_decide_eq_true (by kernel_rfl)) k0 bel lt0) (trodAll_cons_mk (Below.trod laidOut (by kernel_rfl) (of_decide_eq_true (by kernel_rfl)) k1 bel lt1) (trodAll_cons_mk (Below.trod laidOut (by kernel_rfl) (of_decide_eq_true (by kernel_rfl)) k2 bel lt2) trodAll_mk0))), rfl, Below.frame bel _, fun h => by cases h⟩

theorem over : Rows.fnExactErrorOfRow.holds Try.pinned (OpenSpec.ofChange Rows.fnExactErrorOfSpec) :=
  OpenClaim.holds_of_wide 6 Try.f6 rfl rfl rfl rfl rfl rfl rfl ⟨rfl, rfl, rfl, rfl, rfl⟩ rfl rfl rfl rfl rfl (by kernel_rfl) Try.func6 (by kernel_rfl)
    (of_decide_eq_true (by kernel_rfl)) (by unfold Func.isWrapper; first | (rw [if_pos (by decide +kernel)]; kernel_rfl) | (rw [if_neg (by decide +kernel)]; exact ⟨rfl, rfl⟩))
    (fun os started H enc _ => lifted os started H enc)

/-- The statement: FnExactErrorOf is true at every input. -/
theorem proved : Rows.FnExactErrorOfSaid := over
#print axioms proved
end Go.Proofs.Ytgpobhpcbgenoaa.lErrorOf
