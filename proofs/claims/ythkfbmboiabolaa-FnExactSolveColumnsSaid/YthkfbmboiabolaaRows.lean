/-
  No cell of these rows narrows 'for every input' (looked for: loops, veiled, ifaces, maps, wideKeys, modest, calm, conditions, laid).
  DERIVED. THE GIVEN ROWS OF THIS SEAT. 6 by the template 'for every input the law returns true; each argument reads behind the call as it read before'; 0 by the template 'total and deterministic' (their statements: YthkfbmboiabolaaTotals.lean).
  GIVEN WITH THE SEED: the statements are not yours to turn. If you find one false, say at which input.
  Laid BY PROGRAM, IN A SANDBOX (cutbox-rows.mjs): the forced cells as the released guide's own fill.sh prints them over the translation 299638ecd8dcdfde… (all of the seat's roots in one cut). By AI agents, Wed Nov 11 2026. No macro, syntax, notation, axiom, sorry.
-/
import Derived.Test.YthkfbmboiabolaaChecked
import GoSem.Claim
import GoSem.ClaimJoined
import GoSem.ClaimMapViews
import Derived.JoinedTies
import Derived.KernelRfl
namespace Go.Proofs.Ythkfbmboiabolaa
/- THE CELL 'sum', in the pinned program and in every row, IS THE sha256 OF THE DUMP (.gsa) THAT YthkfbmboiabolaaProg.lean LOADS. Nothing in Lean hashes anything: it is a label: what it is worth is what the hold of that sum in a sandbox is worth. -/
noncomputable def Try.pinned : Pinned := { name := "ythkfbmboiabolaa", sum := "299638ecd8dcdfdec8d599e0fba9f176cfe4f6c51fcc17dfc7a65ad30ecdbbad", checked := Try.checked }
namespace Rows
def none {H : Type} : Left H := { results := [], args := [] }

/-- 'laws.FnExactJumpCosts': WHATEVER THE INPUT: true; the input reads as it did. -/
def fnExactJumpCostsSpec : ChangeSpec := { name := "fnExactJumpCosts", fn := fun _ => fun
  | [d1, d2] => { results := [.lit (.bool true)], args := [d1, d2] }
  | _ => none }
def fnExactJumpCostsRow : OpenClaim := { program := "ythkfbmboiabolaa", sum := "299638ecd8dcdfdec8d599e0fba9f176cfe4f6c51fcc17dfc7a65ad30ecdbbad", func := "loop.example/g01223/laws.FnExactJumpCosts", spec := "fnExactJumpCosts", unfollowed := true, recurses := true, apart := false }
def FnExactJumpCostsSaid : Prop := fnExactJumpCostsRow.holds Try.pinned (OpenSpec.ofChange fnExactJumpCostsSpec)

/-- ITS FALSE NEIGHBOUR: 'it returns false'. Refute it at one input. -/
def fnExactJumpCostsWrong : ChangeSpec := { name := "fnExactJumpCosts", fn := fun _ => fun
  | [d1, d2] => { results := [.lit (.bool false)], args := [d1, d2] }
  | _ => none }
def FnExactJumpCostsWrongFalsely : Prop := fnExactJumpCostsRow.holds Try.pinned (OpenSpec.ofChange fnExactJumpCostsWrong)

/-- 'laws.FnExactRowCost': WHATEVER THE INPUT: true; the input reads as it did. -/
def fnExactRowCostSpec : ChangeSpec := { name := "fnExactRowCost", fn := fun _ => fun
  | [d1, d2, d3, d4] => { results := [.lit (.bool true)], args := [d1, d2, d3, d4] }
  | _ => none }
def fnExactRowCostRow : OpenClaim := { program := "ythkfbmboiabolaa", sum := "299638ecd8dcdfdec8d599e0fba9f176cfe4f6c51fcc17dfc7a65ad30ecdbbad", func := "loop.example/g01223/laws.FnExactRowCost", spec := "fnExactRowCost", unfollowed := true, recurses := true, apart := false }
def FnExactRowCostSaid : Prop := fnExactRowCostRow.holds Try.pinned (OpenSpec.ofChange fnExactRowCostSpec)

/-- ITS FALSE NEIGHBOUR: 'it returns false'. Refute it at one input. -/
def fnExactRowCostWrong : ChangeSpec := { name := "fnExactRowCost", fn := fun _ => fun
  | [d1, d2, d3, d4] => { results := [.lit (.bool false)], args := [d1, d2, d3, d4] }
  | _ => none }
def FnExactRowCostWrongFalsely : Prop := fnExactRowCostRow.holds Try.pinned (OpenSpec.ofChange fnExactRowCostWrong)

/-- 'laws.FnExactSolveRow': WHATEVER THE INPUT: true; the input reads as it did. -/
def fnExactSolveRowSpec : ChangeSpec := { name := "fnExactSolveRow", fn := fun _ => fun
  | [d1, d2, d3] => { results := [.lit (.bool true)], args := [d1, d2, d3] }
  | _ => none }
def fnExactSolveRowRow : OpenClaim := { program := "ythkfbmboiabolaa", sum := "299638ecd8dcdfdec8d599e0fba9f176cfe4f6c51fcc17dfc7a65ad30ecdbbad", func := "loop.example/g01223/laws.FnExactSolveRow", spec := "fnExactSolveRow", unfollowed := true, recurses := true, apart := false }
def FnExactSolveRowSaid : Prop := fnExactSolveRowRow.holds Try.pinned (OpenSpec.ofChange fnExactSolveRowSpec)

/-- ITS FALSE NEIGHBOUR: 'it returns false'. Refute it at one input. -/
def fnExactSolveRowWrong : ChangeSpec := { name := "fnExactSolveRow", fn := fun _ => fun
  | [d1, d2, d3] => { results := [.lit (.bool false)], args := [d1, d2, d3] }
  | _ => none }
def FnExactSolveRowWrongFalsely : Prop := fnExactSolveRowRow.holds Try.pinned (OpenSpec.ofChange fnExactSolveRowWrong)

/-- 'laws.FnExactSolveRows': WHATEVER THE INPUT: true; the input reads as it did. -/
def fnExactSolveRowsSpec : ChangeSpec := { name := "fnExactSolveRows", fn := fun _ => fun
  | [d1, d2] => { results := [.lit (.bool true)], args := [d1, d2] }
  | _ => none }
def fnExactSolveRowsRow : OpenClaim := { program := "ythkfbmboiabolaa", sum := "299638ecd8dcdfdec8d599e0fba9f176cfe4f6c51fcc17dfc7a65ad30ecdbbad", func := "loop.example/g01223/laws.FnExactSolveRows", spec := "fnExactSolveRows", unfollowed := true, recurses := true, apart := false }
def FnExactSolveRowsSaid : Prop := fnExactSolveRowsRow.holds Try.pinned (OpenSpec.ofChange fnExactSolveRowsSpec)

/-- ITS FALSE NEIGHBOUR: 'it returns false'. Refute it at one input. -/
def fnExactSolveRowsWrong : ChangeSpec := { name := "fnExactSolveRows", fn := fun _ => fun
  | [d1, d2] => { results := [.lit (.bool false)], args := [d1, d2] }
  | _ => none }
def FnExactSolveRowsWrongFalsely : Prop := fnExactSolveRowsRow.holds Try.pinned (OpenSpec.ofChange fnExactSolveRowsWrong)

/-- 'laws.FnExactSolveColumns': WHATEVER THE INPUT: true; the input reads as it did. -/
def fnExactSolveColumnsSpec : ChangeSpec := { name := "fnExactSolveColumns", fn := fun _ => fun
  | [d1, d2] => { results := [.lit (.bool true)], args := [d1, d2] }
  | _ => none }
def fnExactSolveColumnsRow : OpenClaim := { program := "ythkfbmboiabolaa", sum := "299638ecd8dcdfdec8d599e0fba9f176cfe4f6c51fcc17dfc7a65ad30ecdbbad", func := "loop.example/g01223/laws.FnExactSolveColumns", spec := "fnExactSolveColumns", unfollowed := true, recurses := true, apart := false }
def FnExactSolveColumnsSaid : Prop := fnExactSolveColumnsRow.holds Try.pinned (OpenSpec.ofChange fnExactSolveColumnsSpec)

/-- ITS FALSE NEIGHBOUR: 'it returns false'. Refute it at one input. -/
def fnExactSolveColumnsWrong : ChangeSpec := { name := "fnExactSolveColumns", fn := fun _ => fun
  | [d1, d2] => { results := [.lit (.bool false)], args := [d1, d2] }
  | _ => none }
def FnExactSolveColumnsWrongFalsely : Prop := fnExactSolveColumnsRow.holds Try.pinned (OpenSpec.ofChange fnExactSolveColumnsWrong)

/-- 'laws.FnExactBothWays': WHATEVER THE INPUT: true; the input reads as it did. -/
def fnExactBothWaysSpec : ChangeSpec := { name := "fnExactBothWays", fn := fun _ => fun
  | [d1, d2] => { results := [.lit (.bool true)], args := [d1, d2] }
  | _ => none }
def fnExactBothWaysRow : OpenClaim := { program := "ythkfbmboiabolaa", sum := "299638ecd8dcdfdec8d599e0fba9f176cfe4f6c51fcc17dfc7a65ad30ecdbbad", func := "loop.example/g01223/laws.FnExactBothWays", spec := "fnExactBothWays", unfollowed := true, recurses := true, apart := false }
def FnExactBothWaysSaid : Prop := fnExactBothWaysRow.holds Try.pinned (OpenSpec.ofChange fnExactBothWaysSpec)

/-- ITS FALSE NEIGHBOUR: 'it returns false'. Refute it at one input. -/
def fnExactBothWaysWrong : ChangeSpec := { name := "fnExactBothWays", fn := fun _ => fun
  | [d1, d2] => { results := [.lit (.bool false)], args := [d1, d2] }
  | _ => none }
def FnExactBothWaysWrongFalsely : Prop := fnExactBothWaysRow.holds Try.pinned (OpenSpec.ofChange fnExactBothWaysWrong)

/- THE SECOND FORM. 'bulk': how many values and letters a reading holds, each counted each time it is reached (what is shared counts as often as it is met; a slice's spare places count too). A statement '..UptoSaid' is the law's where the arguments, and the package variables that the reading takes, are together of bulk at most 1048576: NARROWER than '..Said'. Prove '..Said' where nothing that the law and all that it calls make is longer than what came in: it says more and counts as full. Else prove '..UptoSaid'. A law counts once. -/
mutual
def uptoBulk {H : Type} : DataW H → Nat
  | .lit (.string bytes) => bytes.length + 1
  | .lit _ => 1
  | .nil => 1
  | .ptr d => uptoBulk d + 1
  | .slice elems spare => uptoBulkAll elems + uptoBulkAll spare + 1
  | .agg parts => uptoBulkAll parts + 1
  | .iface _ d => uptoBulk d + 1
  | .map entries => uptoBulkEntries entries + 1
  | .held _ => 1
def uptoBulkAll {H : Type} : List (DataW H) → Nat
  | [] => 0
  | d :: r => uptoBulk d + uptoBulkAll r
def uptoBulkEntries {H : Type} : List (Lit × DataW H) → Nat
  | [] => 0
  | x :: r => uptoBulkEntry x + uptoBulkEntries r
def uptoBulkEntry {H : Type} : Lit × DataW H → Nat
  | (.string bytes, d) => bytes.length + uptoBulk d + 1
  | (_, d) => uptoBulk d + 1
 end
def uptoSmall : (H : Type) → List (DataW H) → Bool := fun _ ds => decide (uptoBulkAll ds ≤ 1048576)
def OpenSpec.upto (s : _root_.Go.ChangeSpec) : _root_.Go.OpenSpec := { _root_.Go.OpenSpec.ofChange s with cond := some uptoSmall }

/-- 'laws.FnExactJumpCosts', WHERE WHAT IT READS IS OF BULK AT MOST 1048576: true; the input reads as it did. -/
def fnExactJumpCostsUptoRow : OpenClaim := { program := "ythkfbmboiabolaa", sum := "299638ecd8dcdfdec8d599e0fba9f176cfe4f6c51fcc17dfc7a65ad30ecdbbad", func := "loop.example/g01223/laws.FnExactJumpCosts", spec := "fnExactJumpCosts", unfollowed := true, recurses := true, apart := false, narrowed := true }
def FnExactJumpCostsUptoSaid : Prop := fnExactJumpCostsUptoRow.holds Try.pinned (OpenSpec.upto fnExactJumpCostsSpec)

/-- 'laws.FnExactRowCost', WHERE WHAT IT READS IS OF BULK AT MOST 1048576: true; the input reads as it did. -/
def fnExactRowCostUptoRow : OpenClaim := { program := "ythkfbmboiabolaa", sum := "299638ecd8dcdfdec8d599e0fba9f176cfe4f6c51fcc17dfc7a65ad30ecdbbad", func := "loop.example/g01223/laws.FnExactRowCost", spec := "fnExactRowCost", unfollowed := true, recurses := true, apart := false, narrowed := true }
def FnExactRowCostUptoSaid : Prop := fnExactRowCostUptoRow.holds Try.pinned (OpenSpec.upto fnExactRowCostSpec)

/-- 'laws.FnExactSolveRow', WHERE WHAT IT READS IS OF BULK AT MOST 1048576: true; the input reads as it did. -/
def fnExactSolveRowUptoRow : OpenClaim := { program := "ythkfbmboiabolaa", sum := "299638ecd8dcdfdec8d599e0fba9f176cfe4f6c51fcc17dfc7a65ad30ecdbbad", func := "loop.example/g01223/laws.FnExactSolveRow", spec := "fnExactSolveRow", unfollowed := true, recurses := true, apart := false, narrowed := true }
def FnExactSolveRowUptoSaid : Prop := fnExactSolveRowUptoRow.holds Try.pinned (OpenSpec.upto fnExactSolveRowSpec)

/-- 'laws.FnExactSolveRows', WHERE WHAT IT READS IS OF BULK AT MOST 1048576: true; the input reads as it did. -/
def fnExactSolveRowsUptoRow : OpenClaim := { program := "ythkfbmboiabolaa", sum := "299638ecd8dcdfdec8d599e0fba9f176cfe4f6c51fcc17dfc7a65ad30ecdbbad", func := "loop.example/g01223/laws.FnExactSolveRows", spec := "fnExactSolveRows", unfollowed := true, recurses := true, apart := false, narrowed := true }
def FnExactSolveRowsUptoSaid : Prop := fnExactSolveRowsUptoRow.holds Try.pinned (OpenSpec.upto fnExactSolveRowsSpec)

/-- 'laws.FnExactSolveColumns', WHERE WHAT IT READS IS OF BULK AT MOST 1048576: true; the input reads as it did. -/
def fnExactSolveColumnsUptoRow : OpenClaim := { program := "ythkfbmboiabolaa", sum := "299638ecd8dcdfdec8d599e0fba9f176cfe4f6c51fcc17dfc7a65ad30ecdbbad", func := "loop.example/g01223/laws.FnExactSolveColumns", spec := "fnExactSolveColumns", unfollowed := true, recurses := true, apart := false, narrowed := true }
def FnExactSolveColumnsUptoSaid : Prop := fnExactSolveColumnsUptoRow.holds Try.pinned (OpenSpec.upto fnExactSolveColumnsSpec)

/-- 'laws.FnExactBothWays', WHERE WHAT IT READS IS OF BULK AT MOST 1048576: true; the input reads as it did. -/
def fnExactBothWaysUptoRow : OpenClaim := { program := "ythkfbmboiabolaa", sum := "299638ecd8dcdfdec8d599e0fba9f176cfe4f6c51fcc17dfc7a65ad30ecdbbad", func := "loop.example/g01223/laws.FnExactBothWays", spec := "fnExactBothWays", unfollowed := true, recurses := true, apart := false, narrowed := true }
def FnExactBothWaysUptoSaid : Prop := fnExactBothWaysUptoRow.holds Try.pinned (OpenSpec.upto fnExactBothWaysSpec)

end Rows
end Go.Proofs.Ythkfbmboiabolaa
