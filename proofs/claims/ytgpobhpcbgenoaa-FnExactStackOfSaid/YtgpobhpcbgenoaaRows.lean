/-
  No cell of these rows narrows 'for every input' (looked for: loops, veiled, ifaces, maps, wideKeys, modest, calm, conditions, laid).
  DERIVED. THE GIVEN ROWS OF THIS SEAT. 7 by the template 'for every input the law returns true; each argument reads behind the call as it read before'; 0 by the template 'total and deterministic' (their statements: YtgpobhpcbgenoaaTotals.lean).
  GIVEN WITH THE SEED: the statements are not yours to turn. If you find one false, say at which input.
  Laid BY PROGRAM, IN A SANDBOX (cutbox-rows.mjs): the forced cells as the released guide's own fill.sh prints them over the translation 0b9239201c57470d… (all of the seat's roots in one cut). By AI agents, Wed Nov 11 2026. No macro, syntax, notation, axiom, sorry.
-/
import Derived.Test.YtgpobhpcbgenoaaChecked
import GoSem.Claim
import GoSem.ClaimJoined
import GoSem.ClaimMapViews
import Derived.JoinedTies
import Derived.KernelRfl
namespace Go.Proofs.Ytgpobhpcbgenoaa
/- THE CELL 'sum', in the pinned program and in every row, IS THE sha256 OF THE DUMP (.gsa) THAT YtgpobhpcbgenoaaProg.lean LOADS. Nothing in Lean hashes anything: it is a label: what it is worth is what the hold of that sum in a sandbox is worth. -/
noncomputable def Try.pinned : Pinned := { name := "ytgpobhpcbgenoaa", sum := "0b9239201c57470dff7d894c73b2a3fb8bc08286e9dfface2a250d3c9f5b8968", checked := Try.checked }
namespace Rows
def none {H : Type} : Left H := { results := [], args := [] }

/-- 'laws.FnExactMapCost': WHATEVER THE INPUT: true; the input reads as it did. -/
def fnExactMapCostSpec : ChangeSpec := { name := "fnExactMapCost", fn := fun _ => fun
  | [d1, d2, d3] => { results := [.lit (.bool true)], args := [d1, d2, d3] }
  | _ => none }
def fnExactMapCostRow : OpenClaim := { program := "ytgpobhpcbgenoaa", sum := "0b9239201c57470dff7d894c73b2a3fb8bc08286e9dfface2a250d3c9f5b8968", func := "loop.example/g01223/laws.FnExactMapCost", spec := "fnExactMapCost", inPlace := ["math.RoundToEven"], unfollowed := true, recurses := true, apart := false }
def FnExactMapCostSaid : Prop := fnExactMapCostRow.holds Try.pinned (OpenSpec.ofChange fnExactMapCostSpec)

/-- ITS FALSE NEIGHBOUR: 'it returns false'. Refute it at one input. -/
def fnExactMapCostWrong : ChangeSpec := { name := "fnExactMapCost", fn := fun _ => fun
  | [d1, d2, d3] => { results := [.lit (.bool false)], args := [d1, d2, d3] }
  | _ => none }
def FnExactMapCostWrongFalsely : Prop := fnExactMapCostRow.holds Try.pinned (OpenSpec.ofChange fnExactMapCostWrong)

/-- 'laws.FnExactJumpsOf': WHATEVER THE INPUT: true; the input reads as it did. -/
def fnExactJumpsOfSpec : ChangeSpec := { name := "fnExactJumpsOf", fn := fun _ => fun
  | [d1, d2] => { results := [.lit (.bool true)], args := [d1, d2] }
  | _ => none }
def fnExactJumpsOfRow : OpenClaim := { program := "ytgpobhpcbgenoaa", sum := "0b9239201c57470dff7d894c73b2a3fb8bc08286e9dfface2a250d3c9f5b8968", func := "loop.example/g01223/laws.FnExactJumpsOf", spec := "fnExactJumpsOf", inPlace := ["math.RoundToEven"], unfollowed := true, recurses := true, apart := false }
def FnExactJumpsOfSaid : Prop := fnExactJumpsOfRow.holds Try.pinned (OpenSpec.ofChange fnExactJumpsOfSpec)

/-- ITS FALSE NEIGHBOUR: 'it returns false'. Refute it at one input. -/
def fnExactJumpsOfWrong : ChangeSpec := { name := "fnExactJumpsOf", fn := fun _ => fun
  | [d1, d2] => { results := [.lit (.bool false)], args := [d1, d2] }
  | _ => none }
def FnExactJumpsOfWrongFalsely : Prop := fnExactJumpsOfRow.holds Try.pinned (OpenSpec.ofChange fnExactJumpsOfWrong)

/-- 'laws.FnExactRankVolume': WHATEVER THE INPUT: true; the input reads as it did. -/
def fnExactRankVolumeSpec : ChangeSpec := { name := "fnExactRankVolume", fn := fun _ => fun
  | [d1, d2, d3, d4] => { results := [.lit (.bool true)], args := [d1, d2, d3, d4] }
  | _ => none }
def fnExactRankVolumeRow : OpenClaim := { program := "ytgpobhpcbgenoaa", sum := "0b9239201c57470dff7d894c73b2a3fb8bc08286e9dfface2a250d3c9f5b8968", func := "loop.example/g01223/laws.FnExactRankVolume", spec := "fnExactRankVolume", unfollowed := true, recurses := true, apart := false }
def FnExactRankVolumeSaid : Prop := fnExactRankVolumeRow.holds Try.pinned (OpenSpec.ofChange fnExactRankVolumeSpec)

/-- ITS FALSE NEIGHBOUR: 'it returns false'. Refute it at one input. -/
def fnExactRankVolumeWrong : ChangeSpec := { name := "fnExactRankVolume", fn := fun _ => fun
  | [d1, d2, d3, d4] => { results := [.lit (.bool false)], args := [d1, d2, d3, d4] }
  | _ => none }
def FnExactRankVolumeWrongFalsely : Prop := fnExactRankVolumeRow.holds Try.pinned (OpenSpec.ofChange fnExactRankVolumeWrong)

/-- 'laws.FnExactErrorOf': WHATEVER THE INPUT: true; the input reads as it did. -/
def fnExactErrorOfSpec : ChangeSpec := { name := "fnExactErrorOf", fn := fun _ => fun
  | [d1, d2, d3] => { results := [.lit (.bool true)], args := [d1, d2, d3] }
  | _ => none }
def fnExactErrorOfRow : OpenClaim := { program := "ytgpobhpcbgenoaa", sum := "0b9239201c57470dff7d894c73b2a3fb8bc08286e9dfface2a250d3c9f5b8968", func := "loop.example/g01223/laws.FnExactErrorOf", spec := "fnExactErrorOf", inPlace := ["math.RoundToEven", "math.Float32bits", "math.Float32frombits"], apart := false }
def FnExactErrorOfSaid : Prop := fnExactErrorOfRow.holds Try.pinned (OpenSpec.ofChange fnExactErrorOfSpec)

/-- ITS FALSE NEIGHBOUR: 'it returns false'. Refute it at one input. -/
def fnExactErrorOfWrong : ChangeSpec := { name := "fnExactErrorOf", fn := fun _ => fun
  | [d1, d2, d3] => { results := [.lit (.bool false)], args := [d1, d2, d3] }
  | _ => none }
def FnExactErrorOfWrongFalsely : Prop := fnExactErrorOfRow.holds Try.pinned (OpenSpec.ofChange fnExactErrorOfWrong)

/-- 'laws.FnExactStackOf': WHATEVER THE INPUT: true; the input reads as it did. -/
def fnExactStackOfSpec : ChangeSpec := { name := "fnExactStackOf", fn := fun _ => fun
  | [d] => { results := [.lit (.bool true)], args := [d] }
  | _ => none }
def fnExactStackOfRow : OpenClaim := { program := "ytgpobhpcbgenoaa", sum := "0b9239201c57470dff7d894c73b2a3fb8bc08286e9dfface2a250d3c9f5b8968", func := "loop.example/g01223/laws.FnExactStackOf", spec := "fnExactStackOf", unfollowed := true, recurses := true, apart := false }
def FnExactStackOfSaid : Prop := fnExactStackOfRow.holds Try.pinned (OpenSpec.ofChange fnExactStackOfSpec)

/-- ITS FALSE NEIGHBOUR: 'it returns false'. Refute it at one input. -/
def fnExactStackOfWrong : ChangeSpec := { name := "fnExactStackOf", fn := fun _ => fun
  | [d] => { results := [.lit (.bool false)], args := [d] }
  | _ => none }
def FnExactStackOfWrongFalsely : Prop := fnExactStackOfRow.holds Try.pinned (OpenSpec.ofChange fnExactStackOfWrong)

/-- 'laws.FnExactBoxVolume': WHATEVER THE INPUT: true; the input reads as it did. -/
def fnExactBoxVolumeSpec : ChangeSpec := { name := "fnExactBoxVolume", fn := fun _ => fun
  | [d1, d2] => { results := [.lit (.bool true)], args := [d1, d2] }
  | _ => none }
def fnExactBoxVolumeRow : OpenClaim := { program := "ytgpobhpcbgenoaa", sum := "0b9239201c57470dff7d894c73b2a3fb8bc08286e9dfface2a250d3c9f5b8968", func := "loop.example/g01223/laws.FnExactBoxVolume", spec := "fnExactBoxVolume", unfollowed := true, recurses := true, apart := false }
def FnExactBoxVolumeSaid : Prop := fnExactBoxVolumeRow.holds Try.pinned (OpenSpec.ofChange fnExactBoxVolumeSpec)

/-- ITS FALSE NEIGHBOUR: 'it returns false'. Refute it at one input. -/
def fnExactBoxVolumeWrong : ChangeSpec := { name := "fnExactBoxVolume", fn := fun _ => fun
  | [d1, d2] => { results := [.lit (.bool false)], args := [d1, d2] }
  | _ => none }
def FnExactBoxVolumeWrongFalsely : Prop := fnExactBoxVolumeRow.holds Try.pinned (OpenSpec.ofChange fnExactBoxVolumeWrong)

/-- 'laws.FnExactShallowVolume': WHATEVER THE INPUT: true; the input reads as it did. -/
def fnExactShallowVolumeSpec : ChangeSpec := { name := "fnExactShallowVolume", fn := fun _ => fun
  | [d1, d2] => { results := [.lit (.bool true)], args := [d1, d2] }
  | _ => none }
def fnExactShallowVolumeRow : OpenClaim := { program := "ytgpobhpcbgenoaa", sum := "0b9239201c57470dff7d894c73b2a3fb8bc08286e9dfface2a250d3c9f5b8968", func := "loop.example/g01223/laws.FnExactShallowVolume", spec := "fnExactShallowVolume", unfollowed := true, recurses := true, apart := false }
def FnExactShallowVolumeSaid : Prop := fnExactShallowVolumeRow.holds Try.pinned (OpenSpec.ofChange fnExactShallowVolumeSpec)

/-- ITS FALSE NEIGHBOUR: 'it returns false'. Refute it at one input. -/
def fnExactShallowVolumeWrong : ChangeSpec := { name := "fnExactShallowVolume", fn := fun _ => fun
  | [d1, d2] => { results := [.lit (.bool false)], args := [d1, d2] }
  | _ => none }
def FnExactShallowVolumeWrongFalsely : Prop := fnExactShallowVolumeRow.holds Try.pinned (OpenSpec.ofChange fnExactShallowVolumeWrong)

/- THE SECOND FORM. 'bulk': how many values and letters a reading holds, each counted each time it is reached (what is shared counts as often as it is met; a slice's spare places count too). A statement '..UptoSaid' is the law's where the arguments, and the package variables that the reading takes, are together of bulk at most 1048576: NARROWER than '..Said'. Prove '..Said' where nothing that the law and all that it calls make is longer than what came in: it says more and counts as full. Else prove '..UptoSaid'. A law counts once. -/
mutual
def uptoBulk {H : Type} : DataW H → Nat
  | .lit (.string bytes) => bytes.length + 1
  | .lit _ => 1
  | .nil => 1
  | .ptr d => uptoBulk d + 1
  | .slice elems spare => uptoBulkAll elems + uptoBulkAll spare + 1
  | .agg parts => uptoBulkAll parts + 1
  | .iface _ d => uptoBulk d + 1
  | .map entries => uptoBulkEntries entries + 1
  | .held _ => 1
def uptoBulkAll {H : Type} : List (DataW H) → Nat
  | [] => 0
  | d :: r => uptoBulk d + uptoBulkAll r
def uptoBulkEntries {H : Type} : List (Lit × DataW H) → Nat
  | [] => 0
  | x :: r => uptoBulkEntry x + uptoBulkEntries r
def uptoBulkEntry {H : Type} : Lit × DataW H → Nat
  | (.string bytes, d) => bytes.length + uptoBulk d + 1
  | (_, d) => uptoBulk d + 1
 end
def uptoSmall : (H : Type) → List (DataW H) → Bool := fun _ ds => decide (uptoBulkAll ds ≤ 1048576)
def OpenSpec.upto (s : _root_.Go.ChangeSpec) : _root_.Go.OpenSpec := { _root_.Go.OpenSpec.ofChange s with cond := some uptoSmall }

/-- 'laws.FnExactMapCost', WHERE WHAT IT READS IS OF BULK AT MOST 1048576: true; the input reads as it did. -/
def fnExactMapCostUptoRow : OpenClaim := { program := "ytgpobhpcbgenoaa", sum := "0b9239201c57470dff7d894c73b2a3fb8bc08286e9dfface2a250d3c9f5b8968", func := "loop.example/g01223/laws.FnExactMapCost", spec := "fnExactMapCost", inPlace := ["math.RoundToEven"], unfollowed := true, recurses := true, apart := false, narrowed := true }
def FnExactMapCostUptoSaid : Prop := fnExactMapCostUptoRow.holds Try.pinned (OpenSpec.upto fnExactMapCostSpec)

/-- 'laws.FnExactJumpsOf', WHERE WHAT IT READS IS OF BULK AT MOST 1048576: true; the input reads as it did. -/
def fnExactJumpsOfUptoRow : OpenClaim := { program := "ytgpobhpcbgenoaa", sum := "0b9239201c57470dff7d894c73b2a3fb8bc08286e9dfface2a250d3c9f5b8968", func := "loop.example/g01223/laws.FnExactJumpsOf", spec := "fnExactJumpsOf", inPlace := ["math.RoundToEven"], unfollowed := true, recurses := true, apart := false, narrowed := true }
def FnExactJumpsOfUptoSaid : Prop := fnExactJumpsOfUptoRow.holds Try.pinned (OpenSpec.upto fnExactJumpsOfSpec)

/-- 'laws.FnExactRankVolume', WHERE WHAT IT READS IS OF BULK AT MOST 1048576: true; the input reads as it did. -/
def fnExactRankVolumeUptoRow : OpenClaim := { program := "ytgpobhpcbgenoaa", sum := "0b9239201c57470dff7d894c73b2a3fb8bc08286e9dfface2a250d3c9f5b8968", func := "loop.example/g01223/laws.FnExactRankVolume", spec := "fnExactRankVolume", unfollowed := true, recurses := true, apart := false, narrowed := true }
def FnExactRankVolumeUptoSaid : Prop := fnExactRankVolumeUptoRow.holds Try.pinned (OpenSpec.upto fnExactRankVolumeSpec)

/-- 'laws.FnExactErrorOf', WHERE WHAT IT READS IS OF BULK AT MOST 1048576: true; the input reads as it did. -/
def fnExactErrorOfUptoRow : OpenClaim := { program := "ytgpobhpcbgenoaa", sum := "0b9239201c57470dff7d894c73b2a3fb8bc08286e9dfface2a250d3c9f5b8968", func := "loop.example/g01223/laws.FnExactErrorOf", spec := "fnExactErrorOf", inPlace := ["math.RoundToEven", "math.Float32bits", "math.Float32frombits"], apart := false, narrowed := true }
def FnExactErrorOfUptoSaid : Prop := fnExactErrorOfUptoRow.holds Try.pinned (OpenSpec.upto fnExactErrorOfSpec)

/-- 'laws.FnExactStackOf', WHERE WHAT IT READS IS OF BULK AT MOST 1048576: true; the input reads as it did. -/
def fnExactStackOfUptoRow : OpenClaim := { program := "ytgpobhpcbgenoaa", sum := "0b9239201c57470dff7d894c73b2a3fb8bc08286e9dfface2a250d3c9f5b8968", func := "loop.example/g01223/laws.FnExactStackOf", spec := "fnExactStackOf", unfollowed := true, recurses := true, apart := false, narrowed := true }
def FnExactStackOfUptoSaid : Prop := fnExactStackOfUptoRow.holds Try.pinned (OpenSpec.upto fnExactStackOfSpec)

/-- 'laws.FnExactBoxVolume', WHERE WHAT IT READS IS OF BULK AT MOST 1048576: true; the input reads as it did. -/
def fnExactBoxVolumeUptoRow : OpenClaim := { program := "ytgpobhpcbgenoaa", sum := "0b9239201c57470dff7d894c73b2a3fb8bc08286e9dfface2a250d3c9f5b8968", func := "loop.example/g01223/laws.FnExactBoxVolume", spec := "fnExactBoxVolume", unfollowed := true, recurses := true, apart := false, narrowed := true }
def FnExactBoxVolumeUptoSaid : Prop := fnExactBoxVolumeUptoRow.holds Try.pinned (OpenSpec.upto fnExactBoxVolumeSpec)

/-- 'laws.FnExactShallowVolume', WHERE WHAT IT READS IS OF BULK AT MOST 1048576: true; the input reads as it did. -/
def fnExactShallowVolumeUptoRow : OpenClaim := { program := "ytgpobhpcbgenoaa", sum := "0b9239201c57470dff7d894c73b2a3fb8bc08286e9dfface2a250d3c9f5b8968", func := "loop.example/g01223/laws.FnExactShallowVolume", spec := "fnExactShallowVolume", unfollowed := true, recurses := true, apart := false, narrowed := true }
def FnExactShallowVolumeUptoSaid : Prop := fnExactShallowVolumeUptoRow.holds Try.pinned (OpenSpec.upto fnExactShallowVolumeSpec)

end Rows
end Go.Proofs.Ytgpobhpcbgenoaa
