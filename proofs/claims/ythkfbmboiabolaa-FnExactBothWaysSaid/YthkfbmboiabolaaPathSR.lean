/- Contracts: the reference's paths. -/
import Derived.Test.YthkfbmboiabolaaPathSRpp
import Derived.Test.YthkfbmboiabolaaPathSRpn
import Derived.Test.YthkfbmboiabolaaPathSRnp
import Derived.Test.YthkfbmboiabolaaPathSRnn
namespace Go.Proofs.Ythkfbmboiabolaa
open Go.RowKit
set_option linter.unusedVariables false

theorem l04PathR_any (g gp gq wn hn dn gb off n c : Nat) (bs : List Nat) (d : Int) (hd0 : 0 ≤ d) (hd7 : d ≤ 7) (a b O M : Nat) (e1a : Is a O) (e1b : Is b M) (U : World) (hB : Box4 U g (.int .i64 wn) (.int .i64 hn) (.int .i64 dn) (.slice (some ⟨gb, off, none⟩) n c)) (hP : Box2 U gp (fl a) (fl b)) (hQ : U.cell? ⟨gq, 0, none⟩ = some (.int .i64 0)) (hl : Lies U gb off bs) (hlen : bs.length = n) (hwd : Words bs) (hnc : n ≤ c) (hcm : c ≤ maxLen) (hv : VVol wn hn dn n) :
    Calls Try.prog 63 #[.pointer (some ⟨g, 0, none⟩), .pointer (some ⟨gp, 0, none⟩), .int .i64 d, .bool true, .pointer (some ⟨gq, 0, none⟩)] U fun e U' => ∃ H c' b, e = .returned (.agg #[.int .i64 wn, .int .i64 hn, .int .i64 dn, .slice (some ⟨H, 0, none⟩) n c']) ∧ OwnF U' U.heap.size 23 (.slice (some ⟨H, 0, none⟩) n c') b ∧ b.map nrm = cells3 (fun x y e => ((pathT (fun _ _ _ _ => rawG O M) (ownC bs wn dn) wn hn (wayX d) (wayY d)) x y).getD e 0) wn dn (wn * hn * dn) ∧ Words b ∧ Ext U U' := by
  by_cases hx : wayX d < 0
  · by_cases hy : wayY d < 0
    · exact l04PathRnn_any g gp gq wn hn dn gb off n c bs d hd0 hd7 hx hy a b O M e1a e1b U hB hP hQ hl hlen hwd hnc hcm hv
    · exact l04PathRnp_any g gp gq wn hn dn gb off n c bs d hd0 hd7 hx hy a b O M e1a e1b U hB hP hQ hl hlen hwd hnc hcm hv
  · by_cases hy : wayY d < 0
    · exact l04PathRpn_any g gp gq wn hn dn gb off n c bs d hd0 hd7 hx hy a b O M e1a e1b U hB hP hQ hl hlen hwd hnc hcm hv
    · exact l04PathRpp_any g gp gq wn hn dn gb off n c bs d hd0 hd7 hx hy a b O M e1a e1b U hB hP hQ hl hlen hwd hnc hcm hv
end Go.Proofs.Ythkfbmboiabolaa
