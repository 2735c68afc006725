/- The walk of the law on WayOf, and of the program's and the reference's WayOf. -/
import Derived.Test.YthcpnbjlgbobaaaSteps
import Derived.Test.YthcpnbjlgbobaaaChecked
import Derived.WalkLawsBesides
import Derived.WalkSpells
import Derived.Outline
namespace Go.Proofs.Ythcpnbjlgbobaaa
open Go.RowKit

/-- The steps of a direction. -/
def wayX (d : Int) : Int := if d = 0 then 1 else if d = 1 then -1 else if d = 2 then 0 else if d = 3 then 0 else if d = 4 then 1 else if d = 5 then -1 else if d = 6 then -1 else 1
def wayY (d : Int) : Int := if d = 0 then 0 else if d = 1 then 0 else if d = 2 then 1 else if d = 3 then -1 else if d = 4 then 1 else if d = 5 then -1 else if d = 6 then 1 else -1

theorem dirs (d : Int) (h0 : 0 ≤ d) (h1 : d ≤ 7) : d = 0 ∨ d = 1 ∨ d = 2 ∨ d = 3 ∨ d = 4 ∨ d = 5 ∨ d = 6 ∨ d = 7 := by omega

theorem specWay_any (d : Int) (w : World) (h0 : 0 ≤ d) (h1 : d ≤ 7) :
    Calls Try.prog 55 #[.int .i64 d] w fun e w' => e = .returned (.tuple #[.int .i64 (wayX d), .int .i64 (wayY d)]) ∧ w = w' := by
  rcases dirs d h0 h1 with rfl | rfl | rfl | rfl | rfl | rfl | rfl | rfl
  all_goals
    go_enter Try.func55, Try.ntmps55
    go_wp2
    go_ret2
    exact ⟨rfl, rfl⟩
set_option maxHeartbeats 2000000 in
theorem implWay_any (d : Int) (w : World) (h0 : 0 ≤ d) (h1 : d ≤ 7) :
    Calls Try.prog 57 #[.int .i64 d] w fun e w' => e = .returned (.tuple #[.int .i64 (wayX d), .int .i64 (wayY d)]) ∧ Ext w w' := by
  rcases dirs d h0 h1 with rfl | rfl | rfl | rfl | rfl | rfl | rfl | rfl
  all_goals
    go_enter Try.func57, Try.ntmps57
    go_wp2
    refine gen_alloc (fun W0 hx0 hc0 _ _ => ?_)
    refine region_wx0 [] (by kernel_rfl) (by kernel_rfl) ?_
    repeat ((first | refine wx_skip rfl ?_ | refine wx_nilCheck rfl rfl _ rfl _ rfl ?_ | (refine wx_float rfl rfl _ _ _ _ _ _ _ rfl (by simp) rfl rfl ?_; intro r hr) | (refine wx_k rfl rfl rfl (fun K hK => ?_); go_big_quiet_op; refine hK _ ?_; clear hK K) ); (try simp only [Act.put, List.setIfInBounds_toArray, List.set_cons_zero, List.set_cons_succ]); (try simp only [List.tail_nil]))
    refine wx_nil (fun W hW hF => ?_)
    go_wp2
    go_ret2
    exact ⟨rfl, hx0.trans hW⟩
theorem specWayOf_yes (d : Int) (w : World) (h0 : 0 ≤ d) (h1 : d ≤ 7) :
    Calls Try.prog 18 #[.int .i64 d] w fun e w' => e = .returned (.tuple #[.int .i64 (wayX d), .int .i64 (wayY d), .bool true]) ∧ w = w' := by
  go_enter Try.func18, Try.ntmps18
  go_wp2_with (first | (go_at_call 55; refine (specWay_any _ _ h0 h1).mono ?_; rintro e w' ⟨rfl, rfl⟩) | go_in)
  go_ret3
  exact ⟨rfl, rfl⟩
theorem specWayOf_no (d : Int) (w : World) (h : d < 0 ∨ 7 < d) :
    Calls Try.prog 18 #[.int .i64 d] w fun e w' => e = .returned (.tuple #[.int .i64 0, .int .i64 0, .bool false]) ∧ w = w' := by
  rcases h with h | h
  · go_enter Try.func18, Try.ntmps18
    go_wp2
    go_ret3
    exact ⟨rfl, rfl⟩
  · have h1 : ¬ d ≤ 7 := by omega
    have h0 : 0 ≤ d := by omega
    go_enter Try.func18, Try.ntmps18
    go_wp2
    go_ret3
    exact ⟨rfl, rfl⟩
theorem implWayOf_yes (d : Int) (w : World) (h0 : 0 ≤ d) (h1 : d ≤ 7) :
    Calls Try.prog 19 #[.int .i64 d] w fun e w' => e = .returned (.tuple #[.int .i64 (wayX d), .int .i64 (wayY d), .bool true]) ∧ Ext w w' := by
  go_enter Try.func19, Try.ntmps19
  go_wp2_with (first | (go_at_call 57; refine (implWay_any _ _ h0 h1).mono ?_; rintro e w' ⟨rfl, hx⟩) | go_in)
  go_ret3
  exact ⟨rfl, by assumption⟩
theorem implWayOf_no (d : Int) (w : World) (h : d < 0 ∨ 7 < d) :
    Calls Try.prog 19 #[.int .i64 d] w fun e w' => e = .returned (.tuple #[.int .i64 0, .int .i64 0, .bool false]) ∧ Ext w w' := by
  rcases h with h | h
  · go_enter Try.func19, Try.ntmps19
    go_wp2
    go_ret3
    exact ⟨rfl, Ext.refl _⟩
  · have h1 : ¬ d ≤ 7 := by omega
    have h0 : 0 ≤ d := by omega
    go_enter Try.func19, Try.ntmps19
    go_wp2
    go_ret3
    exact ⟨rfl, Ext.refl _⟩
theorem lawWayOf_any (d : Int) (_ : IntKind.i64.min ≤ d ∧ d ≤ IntKind.i64.max) (w : World) :
    Calls Try.prog 4 #[.int .i64 d] w fun e w' => e = .returned (.bool true) ∧ Ext w w' := by
  by_cases h : 0 ≤ d ∧ d ≤ 7
  · obtain ⟨h0, h1⟩ := h
    have e1 : (wayX d != wayX d) = false := by simp
    have e2 : (wayY d != wayY d) = false := by simp
    go_enter Try.func4, Try.ntmps4
    go_wp2_with (first | (go_at_call 18; refine (specWayOf_yes _ _ h0 h1).mono ?_; rintro e w' ⟨rfl, rfl⟩) | (go_at_call 19; refine (implWayOf_yes _ _ h0 h1).mono ?_; rintro e w1 ⟨rfl, hx⟩))
    go_ret
    exact ⟨rfl, by assumption⟩
  · have h' : d < 0 ∨ 7 < d := by omega
    go_enter Try.func4, Try.ntmps4
    go_wp2_with (first | (go_at_call 18; refine (specWayOf_no _ _ h').mono ?_; rintro e w' ⟨rfl, rfl⟩) | (go_at_call 19; refine (implWayOf_no _ _ h').mono ?_; rintro e w1 ⟨rfl, hx⟩))
    go_ret
    exact ⟨rfl, by assumption⟩
end Go.Proofs.Ythcpnbjlgbobaaa
