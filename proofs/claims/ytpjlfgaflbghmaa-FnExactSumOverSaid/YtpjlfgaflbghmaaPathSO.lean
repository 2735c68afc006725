/- Contracts: the reference's paths over a picture. -/
import Derived.Test.YtpjlfgaflbghmaaPathSOpp
import Derived.Test.YtpjlfgaflbghmaaPathSOpn
import Derived.Test.YtpjlfgaflbghmaaPathSOnp
import Derived.Test.YtpjlfgaflbghmaaPathSOnn
namespace Go.Proofs.Ytpjlfgaflbghmaa
open Go.RowKit
set_option linter.unusedVariables false

theorem l04PathO_any (g gp gq wn hn dn gb off n c : Nat) (bs : List Nat) (d : Int) (hd0 : 0 ≤ d) (hd7 : d ≤ 7) (a b O : Nat) (M : Nat → Nat → Nat → Nat → Nat) (U : World) (hB : Box4 U g (.int .i64 wn) (.int .i64 hn) (.int .i64 dn) (.slice (some ⟨gb, off, none⟩) n c)) (hP : Box2 U gp (fl a) (fl b)) (hQ : U.cell? ⟨gq, 0, none⟩ = some (.int .i64 wn)) (hov : ∀ (W : World) (x y u w : Nat), Ext U W → x < wn → y < hn → u < wn → w < hn → Calls Try.prog 106 #[.pointer (some ⟨gp, 0, none⟩), .pointer (some ⟨gq, 0, none⟩), .int .i64 x, .int .i64 y, .int .i64 u, .int .i64 w] W fun e W' => ∃ a' b', e = .returned (.agg #[.float .f32 a', .float .f32 b']) ∧ Is a' O ∧ Is b' (M x y u w) ∧ Ext W W') (hl : Lies U gb off bs) (hlen : bs.length = n) (hwd : Words bs) (hnc : n ≤ c) (hcm : c ≤ maxLen) (hv : VVol wn hn dn n) :
    Calls Try.prog 69 #[.pointer (some ⟨g, 0, none⟩), .pointer (some ⟨gp, 0, none⟩), .int .i64 d, .bool false, .pointer (some ⟨gq, 0, none⟩)] U fun e U' => ∃ H c' b, e = .returned (.agg #[.int .i64 wn, .int .i64 hn, .int .i64 dn, .slice (some ⟨H, 0, none⟩) n c']) ∧ OwnF U' U.heap.size 25 (.slice (some ⟨H, 0, none⟩) n c') b ∧ b.map nrm = cells3 (fun x y e => ((pathT (fun x y u w => pathG O (M x y u w)) (ownC bs wn dn) wn hn (wayX d) (wayY d)) x y).getD e 0) wn dn (wn * hn * dn) ∧ Words b ∧ Ext U U' := by
  by_cases hx : wayX d < 0
  · by_cases hy : wayY d < 0
    · exact l04PathOnn_any g gp gq wn hn dn gb off n c bs d hd0 hd7 hx hy a b O M U hB hP hQ hov hl hlen hwd hnc hcm hv
    · exact l04PathOnp_any g gp gq wn hn dn gb off n c bs d hd0 hd7 hx hy a b O M U hB hP hQ hov hl hlen hwd hnc hcm hv
  · by_cases hy : wayY d < 0
    · exact l04PathOpn_any g gp gq wn hn dn gb off n c bs d hd0 hd7 hx hy a b O M U hB hP hQ hov hl hlen hwd hnc hcm hv
    · exact l04PathOpp_any g gp gq wn hn dn gb off n c bs d hd0 hd7 hx hy a b O M U hB hP hQ hov hl hlen hwd hnc hcm hv
end Go.Proofs.Ytpjlfgaflbghmaa
