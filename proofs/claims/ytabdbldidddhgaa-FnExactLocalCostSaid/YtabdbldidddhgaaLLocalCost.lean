/- The Go law FnExactLocalCost answers true at every input, and its arguments read behind the call as they read before. No condition. -/
import Derived.Test.YtabdbldidddhgaaRows
import Derived.Test.YtabdbldidddhgaaFLocalCost
import Derived.Test.YtabdbldidddhgaaLift
import Derived.WalkKit
import Derived.ProofKit
import Derived.OpenShut
import Derived.ChangeOld
namespace Go.Proofs.Ytabdbldidddhgaa.lLocalCost
open Go.ChangeShapes Go.WideShapes Go.ChangeAt Go.RowKit Go.Joins
set_option linter.unusedVariables false

set_option maxRecDepth 100000 in
theorem lifted (os : Os) (started : os.Started) (H : Type) (enc : TypeId × Value → H) :
    ReturnsInHanded {} Try.checked os 10 .any (Rows.fnExactLocalCostSpec.pre6 enc Try.prog Try.f10 Rows.fnExactLocalCostRow.domain false) (Rows.fnExactLocalCostSpec.post enc Try.prog Try.f10 false true false false) := by
  refine returnsInHanded_of_change (C := Try.checked) own started (by kernel_rfl) Try.func10
    (ChangeSpec.witness6 (enc := enc) (C := Try.checked) false ⟨#[], #[.agg #[.int .i64 0, .int .i64 0, .int .i64 0, .slice none 0 0], .agg #[.float .f32 0, .float .f32 0], .agg #[.int .i64 0, .int .i64 0, .slice none 0 0], .int .i64 0, .int .i64 0, .int .i64 0], []⟩ 8 (by kernel_rfl) (by kernel_rfl) (by kernel_rfl) (by kernel_rfl)) ?_
  intro W base args ds gs before hval0 hW hcnd _
  have hval : ∀ (j : Nat) t v, Try.f10.params[j]? = some t → args[j]? = some v → Value.okWide Try.prog W .any base t v := hval0
  have hW' := hW
  obtain ⟨p, q, hA0, hV, rfl, hfz, hnd⟩ := hW
  have hA : DataW.TrodAll enc Try.prog W 0 (fun _ => true) true Try.f10.params.toList args.toList ds p := hA0
  rw [Try.params10] at hA hval
  obtain ⟨v0, vs0, d0, ds0, p0, q0, hargs, rfl, rfl, h0, r0⟩ := trodAll_cons hA
  obtain ⟨v1, vs1, d1, ds1, p1, q1, rfl, rfl, rfl, h1, r1⟩ := trodAll_cons r0
  obtain ⟨v2, vs2, d2, ds2, p2, q2, rfl, rfl, rfl, h2, r2⟩ := trodAll_cons r1
  obtain ⟨v3, vs3, d3, ds3, p3, q3, rfl, rfl, rfl, h3, r3⟩ := trodAll_cons r2
  obtain ⟨v4, vs4, d4, ds4, p4, q4, rfl, rfl, rfl, h4, r4⟩ := trodAll_cons r3
  obtain ⟨v5, vs5, d5, ds5, p5, q5, rfl, rfl, rfl, h5, r5⟩ := trodAll_cons r4
  obtain ⟨rfl, rfl, rfl⟩ := trodAll_nil r5
  obtain rfl : args = #[v0, v1, v2, v3, v4, v5] := by cases args; simp_all
  obtain ⟨rfl, rfl⟩ := trodVars_none hV
  have k0 := h0
  have lt0 : ∀ x ∈ p0, x.block < W.heap.size := by obtain ⟨m, hm⟩ := k0; exact DataW.trod_lt m _ _ _ hm
  have k1 := h1
  have lt1 : ∀ x ∈ p1, x.block < W.heap.size := by obtain ⟨m, hm⟩ := k1; exact DataW.trod_lt m _ _ _ hm
  have k2 := h2
  have lt2 : ∀ x ∈ p2, x.block < W.heap.size := by obtain ⟨m, hm⟩ := k2; exact DataW.trod_lt m _ _ _ hm
  have k3 := h3
  have lt3 : ∀ x ∈ p3, x.block < W.heap.size := by obtain ⟨m, hm⟩ := k3; exact DataW.trod_lt m _ _ _ hm
  have k4 := h4
  have lt4 : ∀ x ∈ p4, x.block < W.heap.size := by obtain ⟨m, hm⟩ := k4; exact DataW.trod_lt m _ _ _ hm
  have k5 := h5
  have lt5 : ∀ x ∈ p5, x.block < W.heap.size := by obtain ⟨m, hm⟩ := k5; exact DataW.trod_lt m _ _ _ hm
  obtain ⟨c00, c01, c02, c03, y00, y01, y02, y03, m0, rfl, _, _, t00, t01, t02, t03⟩ := open_agg4 Try.underlying45 (by kernel_rfl) (by kernel_rfl) (hval 0 45 v0 rfl rfl) h0
  obtain ⟨z00, rfl, lo00, hi00⟩ := trod_i64 Try.underlying2 t00
  obtain ⟨z01, rfl, lo01, hi01⟩ := trod_i64 Try.underlying2 t01
  obtain ⟨z02, rfl, lo02, hi02⟩ := trod_i64 Try.underlying2 t02
  obtain ⟨A0, n0, e0, bs0, rfl, le0, cap0, rd0, wd0⟩ := trod_words Try.underlying22 Try.underlying55 (by kernel_rfl) t03
  obtain ⟨c10, c11, y10, y11, m1, rfl, _, _, t10, t11⟩ := open_agg2 Try.underlying67 (by kernel_rfl) (by kernel_rfl) (hval 1 67 v1 rfl rfl) h1
  obtain ⟨b10, rfl, w10⟩ := trod_word Try.underlying55 t10
  obtain ⟨b11, rfl, w11⟩ := trod_word Try.underlying55 t11
  obtain ⟨c20, c21, c22, y20, y21, y22, m2, rfl, _, _, t20, t21, t22⟩ := open_agg3 Try.underlying53 (by kernel_rfl) (by kernel_rfl) (hval 2 53 v2 rfl rfl) h2
  obtain ⟨z20, rfl, lo20, hi20⟩ := trod_i64 Try.underlying2 t20
  obtain ⟨z21, rfl, lo21, hi21⟩ := trod_i64 Try.underlying2 t21
  obtain ⟨A2, n2, e2, bs2, rfl, le2, cap2, rd2, wd2⟩ := trod_words Try.underlying22 Try.underlying55 (by kernel_rfl) t22
  obtain ⟨a3, rfl, _, _, w3⟩ := open_int Try.underlying2 (hval 3 2 v3 rfl rfl) h3
  have w3' : IntKind.i64.min ≤ a3 ∧ a3 ≤ IntKind.i64.max := by simpa [Lit.wf] using w3
  obtain ⟨a4, rfl, _, _, w4⟩ := open_int Try.underlying2 (hval 4 2 v4 rfl rfl) h4
  have w4' : IntKind.i64.min ≤ a4 ∧ a4 ≤ IntKind.i64.max := by simpa [Lit.wf] using w4
  obtain ⟨a5, rfl, _, _, w5⟩ := open_int Try.underlying2 (hval 5 2 v5 rfl rfl) h5
  have w5' : IntKind.i64.min ≤ a5 ∧ a5 ≤ IntKind.i64.max := by simpa [Lit.wf] using w5
  clear hA0 hval0
  refine (lawLocalCost_any W z00 z01 z02 ⟨lo00, hi00⟩ ⟨lo01, hi01⟩ ⟨lo02, hi02⟩ A0 n0 e0 bs0 le0 cap0 rd0 wd0 b10 b11 w10 w11 z20 z21 ⟨lo20, hi20⟩ ⟨lo21, hi21⟩ A2 n2 e2 bs2 le2 cap2 rd2 wd2 a3 w3' a4 w4' a5 w5').mono fun e W' ⟨he, bel⟩ => ?_
  subst he
  exact ⟨_, rfl, _, _, _, [], _, [], hW', trodAll_mk1 (shut_bool Try.underlying4 _), (trodAll_cons_mk (Below.trod laidOut (by kernel_rfl) (of_decide_eq_true (by kernel_rfl)) k0 bel lt0) (trodAll_cons_mk (Below.trod laidOut (by kernel_rfl) (of_decide_eq_true (by kernel_rfl)) k1 bel lt1) (trodAll_cons_mk (Below.trod laidOut (by kernel_rfl) (of_decide_eq_true (by kernel_rfl)) k2 bel lt2) (trodAll_cons_mk (Below.trod laidOut (by kernel_rfl) (of_decide_eq_true (by kernel_rfl)) k3 bel lt3) (trodAll_cons_mk (Below.trod laidOut (by kernel_rfl) (of_decide_eq_true (by kernel_rfl)) k4 bel lt4) (trodAll_cons_mk (Below.trod laidOut (by kernel_rfl) (of_decide_eq_true (by kernel_rfl)) k5 bel lt5) trodAll_mk0)))))), rfl, Below.frame bel _, fun h => by cases h⟩

theorem over : Rows.fnExactLocalCostRow.holds Try.pinned (OpenSpec.ofChange Rows.fnExactLocalCostSpec) :=
  OpenClaim.holds_of_wide 10 Try.f10 rfl rfl rfl rfl rfl rfl rfl ⟨rfl, rfl, rfl, rfl, rfl⟩ rfl rfl rfl rfl rfl (by kernel_rfl) Try.func10 (by kernel_rfl)
    (of_decide_eq_true (by kernel_rfl)) (by unfold Func.isWrapper; first | (rw [if_pos (by decide +kernel)]; kernel_rfl) | (rw [if_neg (by decide +kernel)]; exact ⟨rfl, rfl⟩))
    (fun os started H enc _ => lifted os started H enc)

/-- The statement: FnExactLocalCost is true at every input. -/
theorem proved : Rows.FnExactLocalCostSaid := over
#print axioms proved
end Go.Proofs.Ytabdbldidddhgaa.lLocalCost
