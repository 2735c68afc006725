/- The walk of the law on WayOf, and of the program's and the reference's WayOf. -/
import Derived.Test.YthkfbmboiabolaaSteps
import Derived.Test.YthkfbmboiabolaaChecked
import Derived.WalkLawsBesides
import Derived.WalkSpells
import Derived.Outline
namespace Go.Proofs.Ythkfbmboiabolaa
open Go.RowKit

/-- The steps of a direction. -/
def wayX (d : Int) : Int := if d = 0 then 1 else if d = 1 then -1 else if d = 2 then 0 else if d = 3 then 0 else if d = 4 then 1 else if d = 5 then -1 else if d = 6 then -1 else 1
def wayY (d : Int) : Int := if d = 0 then 0 else if d = 1 then 0 else if d = 2 then 1 else if d = 3 then -1 else if d = 4 then 1 else if d = 5 then -1 else if d = 6 then 1 else -1

theorem dirs (d : Int) (h0 : 0 ≤ d) (h1 : d ≤ 7) : d = 0 ∨ d = 1 ∨ d = 2 ∨ d = 3 ∨ d = 4 ∨ d = 5 ∨ d = 6 ∨ d = 7 := by omega

theorem specWay_any (d : Int) (w : World) (h0 : 0 ≤ d) (h1 : d ≤ 7) :
    Calls Try.prog 86 #[.int .i64 d] w fun e w' => e = .returned (.tuple #[.int .i64 (wayX d), .int .i64 (wayY d)]) ∧ w = w' := by
  rcases dirs d h0 h1 with rfl | rfl | rfl | rfl | rfl | rfl | rfl | rfl
  all_goals
    go_enter Try.func86, Try.ntmps86
    go_wp2
    go_ret2
    exact ⟨rfl, rfl⟩
set_option maxHeartbeats 2000000 in
theorem implWay_any (d : Int) (w : World) (h0 : 0 ≤ d) (h1 : d ≤ 7) :
    Calls Try.prog 97 #[.int .i64 d] w fun e w' => e = .returned (.tuple #[.int .i64 (wayX d), .int .i64 (wayY d)]) ∧ Ext w w' := by
  rcases dirs d h0 h1 with rfl | rfl | rfl | rfl | rfl | rfl | rfl | rfl
  all_goals
    go_enter Try.func97, Try.ntmps97
    go_wp2
    refine gen_alloc (fun W0 hx0 hc0 _ _ => ?_)
    refine region_wx0 [] (by kernel_rfl) (by kernel_rfl) ?_
    repeat ((first | refine wx_skip rfl ?_ | refine wx_nilCheck rfl rfl _ rfl _ rfl ?_ | (refine wx_float rfl rfl _ _ _ _ _ _ _ rfl rfl rfl rfl ?_; intro r hr) | (refine wx_k rfl rfl rfl (fun K hK => ?_); go_big_quiet_op; refine hK _ ?_; clear hK K) ); (try simp only [Act.put, List.setIfInBounds_toArray, List.set_cons_zero, List.set_cons_succ]); (try simp only [List.tail_nil]))
    refine wx_nil (fun W hW hF => ?_)
    go_wp2
    go_ret2
    exact ⟨rfl, hx0.trans hW⟩
end Go.Proofs.Ythkfbmboiabolaa
