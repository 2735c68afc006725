/-
  No cell of these rows narrows 'for every input' (looked for: loops, veiled, ifaces, maps, wideKeys, modest, calm, conditions, laid).
  DERIVED. THE GIVEN ROWS OF THIS SEAT. 12 by the template 'for every input the law returns true; each argument reads behind the call as it read before'; 0 by the template 'total and deterministic' (their statements: YtppahlkmemngeaaTotals.lean).
  GIVEN WITH THE SEED: the statements are not yours to turn. If you find one false, say at which input.
  Laid BY PROGRAM, IN A SANDBOX (cutbox-rows.mjs): the forced cells as the released guide's own fill.sh prints them over the translation 0bc5ac698cdecdb6… (all of the seat's roots in one cut). By AI agents, Wed Nov 11 2026. No macro, syntax, notation, axiom, sorry.
-/
import Derived.Test.YtppahlkmemngeaaChecked
import GoSem.Claim
import GoSem.ClaimJoined
import GoSem.ClaimMapViews
import Derived.JoinedTies
import Derived.KernelRfl
namespace Go.Proofs.Ytppahlkmemngeaa
/- THE CELL 'sum', in the pinned program and in every row, IS THE sha256 OF THE DUMP (.gsa) THAT YtppahlkmemngeaaProg.lean LOADS. Nothing in Lean hashes anything: it is a label: what it is worth is what the hold of that sum in a sandbox is worth. -/
noncomputable def Try.pinned : Pinned := { name := "ytppahlkmemngeaa", sum := "0bc5ac698cdecdb6f5023512d0df586b2458685fcee6f0844738ed4b7e5689a9", checked := Try.checked }
namespace Rows
def none {H : Type} : Left H := { results := [], args := [] }

/-- 'laws.FnExactScaleVolume': WHATEVER THE INPUT: true; the input reads as it did. -/
def fnExactScaleVolumeSpec : ChangeSpec := { name := "fnExactScaleVolume", fn := fun _ => fun
  | [d1, d2] => { results := [.lit (.bool true)], args := [d1, d2] }
  | _ => none }
def fnExactScaleVolumeRow : OpenClaim := { program := "ytppahlkmemngeaa", sum := "0bc5ac698cdecdb6f5023512d0df586b2458685fcee6f0844738ed4b7e5689a9", func := "loop.example/g01223/laws.FnExactScaleVolume", spec := "fnExactScaleVolume", unfollowed := true, recurses := true, apart := false }
def FnExactScaleVolumeSaid : Prop := fnExactScaleVolumeRow.holds Try.pinned (OpenSpec.ofChange fnExactScaleVolumeSpec)

/-- ITS FALSE NEIGHBOUR: 'it returns false'. Refute it at one input. -/
def fnExactScaleVolumeWrong : ChangeSpec := { name := "fnExactScaleVolume", fn := fun _ => fun
  | [d1, d2] => { results := [.lit (.bool false)], args := [d1, d2] }
  | _ => none }
def FnExactScaleVolumeWrongFalsely : Prop := fnExactScaleVolumeRow.holds Try.pinned (OpenSpec.ofChange fnExactScaleVolumeWrong)

/-- 'laws.FnExactCapVolume': WHATEVER THE INPUT: true; the input reads as it did. -/
def fnExactCapVolumeSpec : ChangeSpec := { name := "fnExactCapVolume", fn := fun _ => fun
  | [d1, d2] => { results := [.lit (.bool true)], args := [d1, d2] }
  | _ => none }
def fnExactCapVolumeRow : OpenClaim := { program := "ytppahlkmemngeaa", sum := "0bc5ac698cdecdb6f5023512d0df586b2458685fcee6f0844738ed4b7e5689a9", func := "loop.example/g01223/laws.FnExactCapVolume", spec := "fnExactCapVolume", unfollowed := true, recurses := true, apart := false }
def FnExactCapVolumeSaid : Prop := fnExactCapVolumeRow.holds Try.pinned (OpenSpec.ofChange fnExactCapVolumeSpec)

/-- ITS FALSE NEIGHBOUR: 'it returns false'. Refute it at one input. -/
def fnExactCapVolumeWrong : ChangeSpec := { name := "fnExactCapVolume", fn := fun _ => fun
  | [d1, d2] => { results := [.lit (.bool false)], args := [d1, d2] }
  | _ => none }
def FnExactCapVolumeWrongFalsely : Prop := fnExactCapVolumeRow.holds Try.pinned (OpenSpec.ofChange fnExactCapVolumeWrong)

/-- 'laws.FnExactShallowVolume': WHATEVER THE INPUT: true; the input reads as it did. -/
def fnExactShallowVolumeSpec : ChangeSpec := { name := "fnExactShallowVolume", fn := fun _ => fun
  | [d1, d2] => { results := [.lit (.bool true)], args := [d1, d2] }
  | _ => none }
def fnExactShallowVolumeRow : OpenClaim := { program := "ytppahlkmemngeaa", sum := "0bc5ac698cdecdb6f5023512d0df586b2458685fcee6f0844738ed4b7e5689a9", func := "loop.example/g01223/laws.FnExactShallowVolume", spec := "fnExactShallowVolume", unfollowed := true, recurses := true, apart := false }
def FnExactShallowVolumeSaid : Prop := fnExactShallowVolumeRow.holds Try.pinned (OpenSpec.ofChange fnExactShallowVolumeSpec)

/-- ITS FALSE NEIGHBOUR: 'it returns false'. Refute it at one input. -/
def fnExactShallowVolumeWrong : ChangeSpec := { name := "fnExactShallowVolume", fn := fun _ => fun
  | [d1, d2] => { results := [.lit (.bool false)], args := [d1, d2] }
  | _ => none }
def FnExactShallowVolumeWrongFalsely : Prop := fnExactShallowVolumeRow.holds Try.pinned (OpenSpec.ofChange fnExactShallowVolumeWrong)

/-- 'laws.FnExactSliceOf': WHATEVER THE INPUT: true; the input reads as it did. -/
def fnExactSliceOfSpec : ChangeSpec := { name := "fnExactSliceOf", fn := fun _ => fun
  | [d1, d2] => { results := [.lit (.bool true)], args := [d1, d2] }
  | _ => none }
def fnExactSliceOfRow : OpenClaim := { program := "ytppahlkmemngeaa", sum := "0bc5ac698cdecdb6f5023512d0df586b2458685fcee6f0844738ed4b7e5689a9", func := "loop.example/g01223/laws.FnExactSliceOf", spec := "fnExactSliceOf", unfollowed := true, recurses := true, apart := false }
def FnExactSliceOfSaid : Prop := fnExactSliceOfRow.holds Try.pinned (OpenSpec.ofChange fnExactSliceOfSpec)

/-- ITS FALSE NEIGHBOUR: 'it returns false'. Refute it at one input. -/
def fnExactSliceOfWrong : ChangeSpec := { name := "fnExactSliceOf", fn := fun _ => fun
  | [d1, d2] => { results := [.lit (.bool false)], args := [d1, d2] }
  | _ => none }
def FnExactSliceOfWrongFalsely : Prop := fnExactSliceOfRow.holds Try.pinned (OpenSpec.ofChange fnExactSliceOfWrong)

/-- 'laws.FnExactMixVolumes': WHATEVER THE INPUT: true; the input reads as it did. -/
def fnExactMixVolumesSpec : ChangeSpec := { name := "fnExactMixVolumes", fn := fun _ => fun
  | [d1, d2, d3] => { results := [.lit (.bool true)], args := [d1, d2, d3] }
  | _ => none }
def fnExactMixVolumesRow : OpenClaim := { program := "ytppahlkmemngeaa", sum := "0bc5ac698cdecdb6f5023512d0df586b2458685fcee6f0844738ed4b7e5689a9", func := "loop.example/g01223/laws.FnExactMixVolumes", spec := "fnExactMixVolumes", unfollowed := true, recurses := true, apart := false }
def FnExactMixVolumesSaid : Prop := fnExactMixVolumesRow.holds Try.pinned (OpenSpec.ofChange fnExactMixVolumesSpec)

/-- ITS FALSE NEIGHBOUR: 'it returns false'. Refute it at one input. -/
def fnExactMixVolumesWrong : ChangeSpec := { name := "fnExactMixVolumes", fn := fun _ => fun
  | [d1, d2, d3] => { results := [.lit (.bool false)], args := [d1, d2, d3] }
  | _ => none }
def FnExactMixVolumesWrongFalsely : Prop := fnExactMixVolumesRow.holds Try.pinned (OpenSpec.ofChange fnExactMixVolumesWrong)

/-- 'laws.FnExactAddVolumes': WHATEVER THE INPUT: true; the input reads as it did. -/
def fnExactAddVolumesSpec : ChangeSpec := { name := "fnExactAddVolumes", fn := fun _ => fun
  | [d1, d2] => { results := [.lit (.bool true)], args := [d1, d2] }
  | _ => none }
def fnExactAddVolumesRow : OpenClaim := { program := "ytppahlkmemngeaa", sum := "0bc5ac698cdecdb6f5023512d0df586b2458685fcee6f0844738ed4b7e5689a9", func := "loop.example/g01223/laws.FnExactAddVolumes", spec := "fnExactAddVolumes", unfollowed := true, recurses := true, apart := false }
def FnExactAddVolumesSaid : Prop := fnExactAddVolumesRow.holds Try.pinned (OpenSpec.ofChange fnExactAddVolumesSpec)

/-- ITS FALSE NEIGHBOUR: 'it returns false'. Refute it at one input. -/
def fnExactAddVolumesWrong : ChangeSpec := { name := "fnExactAddVolumes", fn := fun _ => fun
  | [d1, d2] => { results := [.lit (.bool false)], args := [d1, d2] }
  | _ => none }
def FnExactAddVolumesWrongFalsely : Prop := fnExactAddVolumesRow.holds Try.pinned (OpenSpec.ofChange fnExactAddVolumesWrong)

/-- 'laws.FnExactOtherVolume': WHATEVER THE INPUT: true; the input reads as it did. -/
def fnExactOtherVolumeSpec : ChangeSpec := { name := "fnExactOtherVolume", fn := fun _ => fun
  | [d] => { results := [.lit (.bool true)], args := [d] }
  | _ => none }
def fnExactOtherVolumeRow : OpenClaim := { program := "ytppahlkmemngeaa", sum := "0bc5ac698cdecdb6f5023512d0df586b2458685fcee6f0844738ed4b7e5689a9", func := "loop.example/g01223/laws.FnExactOtherVolume", spec := "fnExactOtherVolume", unfollowed := true, recurses := true, apart := false }
def FnExactOtherVolumeSaid : Prop := fnExactOtherVolumeRow.holds Try.pinned (OpenSpec.ofChange fnExactOtherVolumeSpec)

/-- ITS FALSE NEIGHBOUR: 'it returns false'. Refute it at one input. -/
def fnExactOtherVolumeWrong : ChangeSpec := { name := "fnExactOtherVolume", fn := fun _ => fun
  | [d] => { results := [.lit (.bool false)], args := [d] }
  | _ => none }
def FnExactOtherVolumeWrongFalsely : Prop := fnExactOtherVolumeRow.holds Try.pinned (OpenSpec.ofChange fnExactOtherVolumeWrong)

/-- 'laws.FnExactSwapVolume': WHATEVER THE INPUT: true; the input reads as it did. -/
def fnExactSwapVolumeSpec : ChangeSpec := { name := "fnExactSwapVolume", fn := fun _ => fun
  | [d] => { results := [.lit (.bool true)], args := [d] }
  | _ => none }
def fnExactSwapVolumeRow : OpenClaim := { program := "ytppahlkmemngeaa", sum := "0bc5ac698cdecdb6f5023512d0df586b2458685fcee6f0844738ed4b7e5689a9", func := "loop.example/g01223/laws.FnExactSwapVolume", spec := "fnExactSwapVolume", unfollowed := true, recurses := true, apart := false }
def FnExactSwapVolumeSaid : Prop := fnExactSwapVolumeRow.holds Try.pinned (OpenSpec.ofChange fnExactSwapVolumeSpec)

/-- ITS FALSE NEIGHBOUR: 'it returns false'. Refute it at one input. -/
def fnExactSwapVolumeWrong : ChangeSpec := { name := "fnExactSwapVolume", fn := fun _ => fun
  | [d] => { results := [.lit (.bool false)], args := [d] }
  | _ => none }
def FnExactSwapVolumeWrongFalsely : Prop := fnExactSwapVolumeRow.holds Try.pinned (OpenSpec.ofChange fnExactSwapVolumeWrong)

/-- 'laws.FnExactFlipVolume': WHATEVER THE INPUT: true; the input reads as it did. -/
def fnExactFlipVolumeSpec : ChangeSpec := { name := "fnExactFlipVolume", fn := fun _ => fun
  | [d] => { results := [.lit (.bool true)], args := [d] }
  | _ => none }
def fnExactFlipVolumeRow : OpenClaim := { program := "ytppahlkmemngeaa", sum := "0bc5ac698cdecdb6f5023512d0df586b2458685fcee6f0844738ed4b7e5689a9", func := "loop.example/g01223/laws.FnExactFlipVolume", spec := "fnExactFlipVolume", unfollowed := true, recurses := true, apart := false }
def FnExactFlipVolumeSaid : Prop := fnExactFlipVolumeRow.holds Try.pinned (OpenSpec.ofChange fnExactFlipVolumeSpec)

/-- ITS FALSE NEIGHBOUR: 'it returns false'. Refute it at one input. -/
def fnExactFlipVolumeWrong : ChangeSpec := { name := "fnExactFlipVolume", fn := fun _ => fun
  | [d] => { results := [.lit (.bool false)], args := [d] }
  | _ => none }
def FnExactFlipVolumeWrongFalsely : Prop := fnExactFlipVolumeRow.holds Try.pinned (OpenSpec.ofChange fnExactFlipVolumeWrong)

/-- 'laws.FnExactMirrorVolume': WHATEVER THE INPUT: true; the input reads as it did. -/
def fnExactMirrorVolumeSpec : ChangeSpec := { name := "fnExactMirrorVolume", fn := fun _ => fun
  | [d] => { results := [.lit (.bool true)], args := [d] }
  | _ => none }
def fnExactMirrorVolumeRow : OpenClaim := { program := "ytppahlkmemngeaa", sum := "0bc5ac698cdecdb6f5023512d0df586b2458685fcee6f0844738ed4b7e5689a9", func := "loop.example/g01223/laws.FnExactMirrorVolume", spec := "fnExactMirrorVolume", unfollowed := true, recurses := true, apart := false }
def FnExactMirrorVolumeSaid : Prop := fnExactMirrorVolumeRow.holds Try.pinned (OpenSpec.ofChange fnExactMirrorVolumeSpec)

/-- ITS FALSE NEIGHBOUR: 'it returns false'. Refute it at one input. -/
def fnExactMirrorVolumeWrong : ChangeSpec := { name := "fnExactMirrorVolume", fn := fun _ => fun
  | [d] => { results := [.lit (.bool false)], args := [d] }
  | _ => none }
def FnExactMirrorVolumeWrongFalsely : Prop := fnExactMirrorVolumeRow.holds Try.pinned (OpenSpec.ofChange fnExactMirrorVolumeWrong)

/-- 'laws.FnExactWinnersOf': WHATEVER THE INPUT: true; the input reads as it did. -/
def fnExactWinnersOfSpec : ChangeSpec := { name := "fnExactWinnersOf", fn := fun _ => fun
  | [d] => { results := [.lit (.bool true)], args := [d] }
  | _ => none }
def fnExactWinnersOfRow : OpenClaim := { program := "ytppahlkmemngeaa", sum := "0bc5ac698cdecdb6f5023512d0df586b2458685fcee6f0844738ed4b7e5689a9", func := "loop.example/g01223/laws.FnExactWinnersOf", spec := "fnExactWinnersOf", unfollowed := true, recurses := true, apart := false }
def FnExactWinnersOfSaid : Prop := fnExactWinnersOfRow.holds Try.pinned (OpenSpec.ofChange fnExactWinnersOfSpec)

/-- ITS FALSE NEIGHBOUR: 'it returns false'. Refute it at one input. -/
def fnExactWinnersOfWrong : ChangeSpec := { name := "fnExactWinnersOf", fn := fun _ => fun
  | [d] => { results := [.lit (.bool false)], args := [d] }
  | _ => none }
def FnExactWinnersOfWrongFalsely : Prop := fnExactWinnersOfRow.holds Try.pinned (OpenSpec.ofChange fnExactWinnersOfWrong)

/-- 'laws.FnExactLeastCosts': WHATEVER THE INPUT: true; the input reads as it did. -/
def fnExactLeastCostsSpec : ChangeSpec := { name := "fnExactLeastCosts", fn := fun _ => fun
  | [d] => { results := [.lit (.bool true)], args := [d] }
  | _ => none }
def fnExactLeastCostsRow : OpenClaim := { program := "ytppahlkmemngeaa", sum := "0bc5ac698cdecdb6f5023512d0df586b2458685fcee6f0844738ed4b7e5689a9", func := "loop.example/g01223/laws.FnExactLeastCosts", spec := "fnExactLeastCosts", inPlace := ["math.Float64frombits"], unfollowed := true, recurses := true, apart := false }
def FnExactLeastCostsSaid : Prop := fnExactLeastCostsRow.holds Try.pinned (OpenSpec.ofChange fnExactLeastCostsSpec)

/-- ITS FALSE NEIGHBOUR: 'it returns false'. Refute it at one input. -/
def fnExactLeastCostsWrong : ChangeSpec := { name := "fnExactLeastCosts", fn := fun _ => fun
  | [d] => { results := [.lit (.bool false)], args := [d] }
  | _ => none }
def FnExactLeastCostsWrongFalsely : Prop := fnExactLeastCostsRow.holds Try.pinned (OpenSpec.ofChange fnExactLeastCostsWrong)

/- THE SECOND FORM. 'bulk': how many values and letters a reading holds, each counted each time it is reached (what is shared counts as often as it is met; a slice's spare places count too). A statement '..UptoSaid' is the law's where the arguments, and the package variables that the reading takes, are together of bulk at most 1048576: NARROWER than '..Said'. Prove '..Said' where nothing that the law and all that it calls make is longer than what came in: it says more and counts as full. Else prove '..UptoSaid'. A law counts once. -/
mutual
def uptoBulk {H : Type} : DataW H → Nat
  | .lit (.string bytes) => bytes.length + 1
  | .lit _ => 1
  | .nil => 1
  | .ptr d => uptoBulk d + 1
  | .slice elems spare => uptoBulkAll elems + uptoBulkAll spare + 1
  | .agg parts => uptoBulkAll parts + 1
  | .iface _ d => uptoBulk d + 1
  | .map entries => uptoBulkEntries entries + 1
  | .held _ => 1
def uptoBulkAll {H : Type} : List (DataW H) → Nat
  | [] => 0
  | d :: r => uptoBulk d + uptoBulkAll r
def uptoBulkEntries {H : Type} : List (Lit × DataW H) → Nat
  | [] => 0
  | x :: r => uptoBulkEntry x + uptoBulkEntries r
def uptoBulkEntry {H : Type} : Lit × DataW H → Nat
  | (.string bytes, d) => bytes.length + uptoBulk d + 1
  | (_, d) => uptoBulk d + 1
 end
def uptoSmall : (H : Type) → List (DataW H) → Bool := fun _ ds => decide (uptoBulkAll ds ≤ 1048576)
def OpenSpec.upto (s : _root_.Go.ChangeSpec) : _root_.Go.OpenSpec := { _root_.Go.OpenSpec.ofChange s with cond := some uptoSmall }

/-- 'laws.FnExactScaleVolume', WHERE WHAT IT READS IS OF BULK AT MOST 1048576: true; the input reads as it did. -/
def fnExactScaleVolumeUptoRow : OpenClaim := { program := "ytppahlkmemngeaa", sum := "0bc5ac698cdecdb6f5023512d0df586b2458685fcee6f0844738ed4b7e5689a9", func := "loop.example/g01223/laws.FnExactScaleVolume", spec := "fnExactScaleVolume", unfollowed := true, recurses := true, apart := false, narrowed := true }
def FnExactScaleVolumeUptoSaid : Prop := fnExactScaleVolumeUptoRow.holds Try.pinned (OpenSpec.upto fnExactScaleVolumeSpec)

/-- 'laws.FnExactCapVolume', WHERE WHAT IT READS IS OF BULK AT MOST 1048576: true; the input reads as it did. -/
def fnExactCapVolumeUptoRow : OpenClaim := { program := "ytppahlkmemngeaa", sum := "0bc5ac698cdecdb6f5023512d0df586b2458685fcee6f0844738ed4b7e5689a9", func := "loop.example/g01223/laws.FnExactCapVolume", spec := "fnExactCapVolume", unfollowed := true, recurses := true, apart := false, narrowed := true }
def FnExactCapVolumeUptoSaid : Prop := fnExactCapVolumeUptoRow.holds Try.pinned (OpenSpec.upto fnExactCapVolumeSpec)

/-- 'laws.FnExactShallowVolume', WHERE WHAT IT READS IS OF BULK AT MOST 1048576: true; the input reads as it did. -/
def fnExactShallowVolumeUptoRow : OpenClaim := { program := "ytppahlkmemngeaa", sum := "0bc5ac698cdecdb6f5023512d0df586b2458685fcee6f0844738ed4b7e5689a9", func := "loop.example/g01223/laws.FnExactShallowVolume", spec := "fnExactShallowVolume", unfollowed := true, recurses := true, apart := false, narrowed := true }
def FnExactShallowVolumeUptoSaid : Prop := fnExactShallowVolumeUptoRow.holds Try.pinned (OpenSpec.upto fnExactShallowVolumeSpec)

/-- 'laws.FnExactSliceOf', WHERE WHAT IT READS IS OF BULK AT MOST 1048576: true; the input reads as it did. -/
def fnExactSliceOfUptoRow : OpenClaim := { program := "ytppahlkmemngeaa", sum := "0bc5ac698cdecdb6f5023512d0df586b2458685fcee6f0844738ed4b7e5689a9", func := "loop.example/g01223/laws.FnExactSliceOf", spec := "fnExactSliceOf", unfollowed := true, recurses := true, apart := false, narrowed := true }
def FnExactSliceOfUptoSaid : Prop := fnExactSliceOfUptoRow.holds Try.pinned (OpenSpec.upto fnExactSliceOfSpec)

/-- 'laws.FnExactMixVolumes', WHERE WHAT IT READS IS OF BULK AT MOST 1048576: true; the input reads as it did. -/
def fnExactMixVolumesUptoRow : OpenClaim := { program := "ytppahlkmemngeaa", sum := "0bc5ac698cdecdb6f5023512d0df586b2458685fcee6f0844738ed4b7e5689a9", func := "loop.example/g01223/laws.FnExactMixVolumes", spec := "fnExactMixVolumes", unfollowed := true, recurses := true, apart := false, narrowed := true }
def FnExactMixVolumesUptoSaid : Prop := fnExactMixVolumesUptoRow.holds Try.pinned (OpenSpec.upto fnExactMixVolumesSpec)

/-- 'laws.FnExactAddVolumes', WHERE WHAT IT READS IS OF BULK AT MOST 1048576: true; the input reads as it did. -/
def fnExactAddVolumesUptoRow : OpenClaim := { program := "ytppahlkmemngeaa", sum := "0bc5ac698cdecdb6f5023512d0df586b2458685fcee6f0844738ed4b7e5689a9", func := "loop.example/g01223/laws.FnExactAddVolumes", spec := "fnExactAddVolumes", unfollowed := true, recurses := true, apart := false, narrowed := true }
def FnExactAddVolumesUptoSaid : Prop := fnExactAddVolumesUptoRow.holds Try.pinned (OpenSpec.upto fnExactAddVolumesSpec)

/-- 'laws.FnExactOtherVolume', WHERE WHAT IT READS IS OF BULK AT MOST 1048576: true; the input reads as it did. -/
def fnExactOtherVolumeUptoRow : OpenClaim := { program := "ytppahlkmemngeaa", sum := "0bc5ac698cdecdb6f5023512d0df586b2458685fcee6f0844738ed4b7e5689a9", func := "loop.example/g01223/laws.FnExactOtherVolume", spec := "fnExactOtherVolume", unfollowed := true, recurses := true, apart := false, narrowed := true }
def FnExactOtherVolumeUptoSaid : Prop := fnExactOtherVolumeUptoRow.holds Try.pinned (OpenSpec.upto fnExactOtherVolumeSpec)

/-- 'laws.FnExactSwapVolume', WHERE WHAT IT READS IS OF BULK AT MOST 1048576: true; the input reads as it did. -/
def fnExactSwapVolumeUptoRow : OpenClaim := { program := "ytppahlkmemngeaa", sum := "0bc5ac698cdecdb6f5023512d0df586b2458685fcee6f0844738ed4b7e5689a9", func := "loop.example/g01223/laws.FnExactSwapVolume", spec := "fnExactSwapVolume", unfollowed := true, recurses := true, apart := false, narrowed := true }
def FnExactSwapVolumeUptoSaid : Prop := fnExactSwapVolumeUptoRow.holds Try.pinned (OpenSpec.upto fnExactSwapVolumeSpec)

/-- 'laws.FnExactFlipVolume', WHERE WHAT IT READS IS OF BULK AT MOST 1048576: true; the input reads as it did. -/
def fnExactFlipVolumeUptoRow : OpenClaim := { program := "ytppahlkmemngeaa", sum := "0bc5ac698cdecdb6f5023512d0df586b2458685fcee6f0844738ed4b7e5689a9", func := "loop.example/g01223/laws.FnExactFlipVolume", spec := "fnExactFlipVolume", unfollowed := true, recurses := true, apart := false, narrowed := true }
def FnExactFlipVolumeUptoSaid : Prop := fnExactFlipVolumeUptoRow.holds Try.pinned (OpenSpec.upto fnExactFlipVolumeSpec)

/-- 'laws.FnExactMirrorVolume', WHERE WHAT IT READS IS OF BULK AT MOST 1048576: true; the input reads as it did. -/
def fnExactMirrorVolumeUptoRow : OpenClaim := { program := "ytppahlkmemngeaa", sum := "0bc5ac698cdecdb6f5023512d0df586b2458685fcee6f0844738ed4b7e5689a9", func := "loop.example/g01223/laws.FnExactMirrorVolume", spec := "fnExactMirrorVolume", unfollowed := true, recurses := true, apart := false, narrowed := true }
def FnExactMirrorVolumeUptoSaid : Prop := fnExactMirrorVolumeUptoRow.holds Try.pinned (OpenSpec.upto fnExactMirrorVolumeSpec)

/-- 'laws.FnExactWinnersOf', WHERE WHAT IT READS IS OF BULK AT MOST 1048576: true; the input reads as it did. -/
def fnExactWinnersOfUptoRow : OpenClaim := { program := "ytppahlkmemngeaa", sum := "0bc5ac698cdecdb6f5023512d0df586b2458685fcee6f0844738ed4b7e5689a9", func := "loop.example/g01223/laws.FnExactWinnersOf", spec := "fnExactWinnersOf", unfollowed := true, recurses := true, apart := false, narrowed := true }
def FnExactWinnersOfUptoSaid : Prop := fnExactWinnersOfUptoRow.holds Try.pinned (OpenSpec.upto fnExactWinnersOfSpec)

/-- 'laws.FnExactLeastCosts', WHERE WHAT IT READS IS OF BULK AT MOST 1048576: true; the input reads as it did. -/
def fnExactLeastCostsUptoRow : OpenClaim := { program := "ytppahlkmemngeaa", sum := "0bc5ac698cdecdb6f5023512d0df586b2458685fcee6f0844738ed4b7e5689a9", func := "loop.example/g01223/laws.FnExactLeastCosts", spec := "fnExactLeastCosts", inPlace := ["math.Float64frombits"], unfollowed := true, recurses := true, apart := false, narrowed := true }
def FnExactLeastCostsUptoSaid : Prop := fnExactLeastCostsUptoRow.holds Try.pinned (OpenSpec.upto fnExactLeastCostsSpec)

end Rows
end Go.Proofs.Ytppahlkmemngeaa
