/- The law on SolveColumns holds. -/
import Derived.Test.YthkfbmboiabolaaColsS
import Derived.Test.YthkfbmboiabolaaColsC
import Derived.Test.YthkfbmboiabolaaCSolveColumns
namespace Go.Proofs.Ythkfbmboiabolaa
open Go.RowKit
set_option linter.unusedVariables false

theorem lawSolveColumns_any (W : World) (z0 z1 z2 : Int) (_ : -9223372036854775808 ≤ z0 ∧ z0 ≤ 9223372036854775807) (_ : -9223372036854775808 ≤ z1 ∧ z1 ≤ 9223372036854775807) (_ : -9223372036854775808 ≤ z2 ∧ z2 ≤ 9223372036854775807) (A : Option Addr) (n m : Nat) (bs : List Nat) (hc : n ≤ m) (hm : m ≤ maxLen) (hr : Reads W A n bs) (hw : Words bs) (p0 p1 : Nat) (h0 : p0 < 4294967296) (h1 : p1 < 4294967296) :
    Calls Try.prog 7 #[.agg #[.int .i64 z0, .int .i64 z1, .int .i64 z2, .slice A n m], .agg #[.float .f32 p0, .float .f32 p1]] W fun e W' => e = .returned (.bool true) ∧ Ext W W' := by
  have hn : n ≤ maxLen := Nat.le_trans hc hm
  have NOC := fun hs hi => lawSolveColumns_core W z0 z1 z2 A n m bs hn hr p0 p1 0 0 [] (by simp) false hs hi
  by_cases hv : VVol z0 z1 z2 n
  · obtain ⟨wn, rfl⟩ := Int.eq_ofNat_of_zero_le (show 0 ≤ z0 by have := hv.1.1; omega)
    obtain ⟨hn', rfl⟩ := Int.eq_ofNat_of_zero_le (show 0 ≤ z1 by have := hv.1.2.2.1; omega)
    obtain ⟨dn, rfl⟩ := Int.eq_ofNat_of_zero_le (show 0 ≤ z2 by have := hv.2.1; omega)
    obtain ⟨hnn, hnp, hnx⟩ := vol_n hv
    by_cases hp : PV p0 p1
    · by_cases hok : ColsOk wn hn' dn bs
      · refine lawSolveColumns_core W wn hn' dn A n m bs hn hr p0 p1 wn hn' (cells (colsF wn hn' dn p0 p1 bs) wn (wn * hn')) (rows_576 hv _) true (fun w D hd => ?_) (fun w D hd => ?_)
        · obtain ⟨gb, off, rfl, hl⟩ := hd.2 hnp
          exact specSolveColumns_yes wn hn' dn gb off n bs p0 p1 w hn hl hd.1 hw hv hp hok
        · obtain ⟨gb, off, rfl, hl⟩ := hd.2 hnp
          exact implSolveColumns_yes wn hn' dn gb off n bs p0 p1 w hn hl hd.1 hw hv hp hok
      · refine NOC (fun w D hd => ?_) (fun w D hd => ?_)
        · obtain ⟨gb, off, rfl, hl⟩ := hd.2 hnp
          exact specSolveColumns_no3 wn hn' dn gb off n bs p0 p1 w hn hl hd.1 hw hv hp hok
        · obtain ⟨gb, off, rfl, hl⟩ := hd.2 hnp
          exact implSolveColumns_no2 wn hn' dn gb off n bs p0 p1 w hn hl hd.1 hw hv (fun h => hok h.2)
    · refine NOC (fun w D hd => specSolveColumns_no2 wn hn' dn D n n p0 p1 w hn hv hp) (fun w D hd => ?_)
      obtain ⟨gb, off, rfl, hl⟩ := hd.2 hnp
      exact implSolveColumns_no2 wn hn' dn gb off n bs p0 p1 w hn hl hd.1 hw hv (fun h => hp h.1)
  · exact NOC (fun w D hd => specSolveColumns_no1 z0 z1 z2 D n n p0 p1 w hn hv) (fun w D hd => implSolveColumns_no1 z0 z1 z2 D n n p0 p1 w hn hv)
end Go.Proofs.Ythkfbmboiabolaa
