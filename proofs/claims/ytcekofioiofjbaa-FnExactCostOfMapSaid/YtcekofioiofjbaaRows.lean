/-
  No cell of these rows narrows 'for every input' (looked for: loops, veiled, ifaces, maps, wideKeys, modest, calm, conditions, laid).
  DERIVED. THE GIVEN ROWS OF THIS SEAT. 11 by the template 'for every input the law returns true; each argument reads behind the call as it read before'; 0 by the template 'total and deterministic' (their statements: YtcekofioiofjbaaTotals.lean).
  GIVEN WITH THE SEED: the statements are not yours to turn. If you find one false, say at which input.
  Laid BY PROGRAM, IN A SANDBOX (cutbox-rows.mjs): the forced cells as the released guide's own fill.sh prints them over the translation 61e870abf3c1cd33… (all of the seat's roots in one cut). By AI agents, Wed Nov 11 2026. No macro, syntax, notation, axiom, sorry.
-/
import Derived.Test.YtcekofioiofjbaaChecked
import GoSem.Claim
import GoSem.ClaimJoined
import GoSem.ClaimMapViews
import Derived.JoinedTies
import Derived.KernelRfl
namespace Go.Proofs.Ytcekofioiofjbaa
/- THE CELL 'sum', in the pinned program and in every row, IS THE sha256 OF THE DUMP (.gsa) THAT YtcekofioiofjbaaProg.lean LOADS. Nothing in Lean hashes anything: it is a label: what it is worth is what the hold of that sum in a sandbox is worth. -/
noncomputable def Try.pinned : Pinned := { name := "ytcekofioiofjbaa", sum := "61e870abf3c1cd33d6f40f6951cf1390f7ae3426e80f72f7087b2a26e7d93106", checked := Try.checked }
namespace Rows
def none {H : Type} : Left H := { results := [], args := [] }

/-- 'laws.FnExactMarginsOf': WHATEVER THE INPUT: true; the input reads as it did. -/
def fnExactMarginsOfSpec : ChangeSpec := { name := "fnExactMarginsOf", fn := fun _ => fun
  | [d] => { results := [.lit (.bool true)], args := [d] }
  | _ => none }
def fnExactMarginsOfRow : OpenClaim := { program := "ytcekofioiofjbaa", sum := "61e870abf3c1cd33d6f40f6951cf1390f7ae3426e80f72f7087b2a26e7d93106", func := "loop.example/g01223/laws.FnExactMarginsOf", spec := "fnExactMarginsOf", inPlace := ["math.Float64frombits"], unfollowed := true, recurses := true, apart := false }
def FnExactMarginsOfSaid : Prop := fnExactMarginsOfRow.holds Try.pinned (OpenSpec.ofChange fnExactMarginsOfSpec)

/-- ITS FALSE NEIGHBOUR: 'it returns false'. Refute it at one input. -/
def fnExactMarginsOfWrong : ChangeSpec := { name := "fnExactMarginsOf", fn := fun _ => fun
  | [d] => { results := [.lit (.bool false)], args := [d] }
  | _ => none }
def FnExactMarginsOfWrongFalsely : Prop := fnExactMarginsOfRow.holds Try.pinned (OpenSpec.ofChange fnExactMarginsOfWrong)

/-- 'laws.FnExactSharpAt': WHATEVER THE INPUT: true; the input reads as it did. -/
def fnExactSharpAtSpec : ChangeSpec := { name := "fnExactSharpAt", fn := fun _ => fun
  | [d1, d2, d3] => { results := [.lit (.bool true)], args := [d1, d2, d3] }
  | _ => none }
def fnExactSharpAtRow : OpenClaim := { program := "ytcekofioiofjbaa", sum := "61e870abf3c1cd33d6f40f6951cf1390f7ae3426e80f72f7087b2a26e7d93106", func := "loop.example/g01223/laws.FnExactSharpAt", spec := "fnExactSharpAt", apart := false }
def FnExactSharpAtSaid : Prop := fnExactSharpAtRow.holds Try.pinned (OpenSpec.ofChange fnExactSharpAtSpec)

/-- ITS FALSE NEIGHBOUR: 'it returns false'. Refute it at one input. -/
def fnExactSharpAtWrong : ChangeSpec := { name := "fnExactSharpAt", fn := fun _ => fun
  | [d1, d2, d3] => { results := [.lit (.bool false)], args := [d1, d2, d3] }
  | _ => none }
def FnExactSharpAtWrongFalsely : Prop := fnExactSharpAtRow.holds Try.pinned (OpenSpec.ofChange fnExactSharpAtWrong)

/-- 'laws.FnExactCostOfMap': WHATEVER THE INPUT: true; the input reads as it did. -/
def fnExactCostOfMapSpec : ChangeSpec := { name := "fnExactCostOfMap", fn := fun _ => fun
  | [d1, d2] => { results := [.lit (.bool true)], args := [d1, d2] }
  | _ => none }
def fnExactCostOfMapRow : OpenClaim := { program := "ytcekofioiofjbaa", sum := "61e870abf3c1cd33d6f40f6951cf1390f7ae3426e80f72f7087b2a26e7d93106", func := "loop.example/g01223/laws.FnExactCostOfMap", spec := "fnExactCostOfMap", inPlace := ["math.RoundToEven"], apart := false }
def FnExactCostOfMapSaid : Prop := fnExactCostOfMapRow.holds Try.pinned (OpenSpec.ofChange fnExactCostOfMapSpec)

/-- ITS FALSE NEIGHBOUR: 'it returns false'. Refute it at one input. -/
def fnExactCostOfMapWrong : ChangeSpec := { name := "fnExactCostOfMap", fn := fun _ => fun
  | [d1, d2] => { results := [.lit (.bool false)], args := [d1, d2] }
  | _ => none }
def FnExactCostOfMapWrongFalsely : Prop := fnExactCostOfMapRow.holds Try.pinned (OpenSpec.ofChange fnExactCostOfMapWrong)

/-- 'laws.FnExactHalveMap': WHATEVER THE INPUT: true; the input reads as it did. -/
def fnExactHalveMapSpec : ChangeSpec := { name := "fnExactHalveMap", fn := fun _ => fun
  | [d] => { results := [.lit (.bool true)], args := [d] }
  | _ => none }
def fnExactHalveMapRow : OpenClaim := { program := "ytcekofioiofjbaa", sum := "61e870abf3c1cd33d6f40f6951cf1390f7ae3426e80f72f7087b2a26e7d93106", func := "loop.example/g01223/laws.FnExactHalveMap", spec := "fnExactHalveMap", unfollowed := true, recurses := true, apart := false }
def FnExactHalveMapSaid : Prop := fnExactHalveMapRow.holds Try.pinned (OpenSpec.ofChange fnExactHalveMapSpec)

/-- ITS FALSE NEIGHBOUR: 'it returns false'. Refute it at one input. -/
def fnExactHalveMapWrong : ChangeSpec := { name := "fnExactHalveMap", fn := fun _ => fun
  | [d] => { results := [.lit (.bool false)], args := [d] }
  | _ => none }
def FnExactHalveMapWrongFalsely : Prop := fnExactHalveMapRow.holds Try.pinned (OpenSpec.ofChange fnExactHalveMapWrong)

/-- 'laws.FnExactMirrorMap': WHATEVER THE INPUT: true; the input reads as it did. -/
def fnExactMirrorMapSpec : ChangeSpec := { name := "fnExactMirrorMap", fn := fun _ => fun
  | [d] => { results := [.lit (.bool true)], args := [d] }
  | _ => none }
def fnExactMirrorMapRow : OpenClaim := { program := "ytcekofioiofjbaa", sum := "61e870abf3c1cd33d6f40f6951cf1390f7ae3426e80f72f7087b2a26e7d93106", func := "loop.example/g01223/laws.FnExactMirrorMap", spec := "fnExactMirrorMap", unfollowed := true, recurses := true, apart := false }
def FnExactMirrorMapSaid : Prop := fnExactMirrorMapRow.holds Try.pinned (OpenSpec.ofChange fnExactMirrorMapSpec)

/-- ITS FALSE NEIGHBOUR: 'it returns false'. Refute it at one input. -/
def fnExactMirrorMapWrong : ChangeSpec := { name := "fnExactMirrorMap", fn := fun _ => fun
  | [d] => { results := [.lit (.bool false)], args := [d] }
  | _ => none }
def FnExactMirrorMapWrongFalsely : Prop := fnExactMirrorMapRow.holds Try.pinned (OpenSpec.ofChange fnExactMirrorMapWrong)

/-- 'laws.FnExactMeanOfMap': WHATEVER THE INPUT: true; the input reads as it did. -/
def fnExactMeanOfMapSpec : ChangeSpec := { name := "fnExactMeanOfMap", fn := fun _ => fun
  | [d] => { results := [.lit (.bool true)], args := [d] }
  | _ => none }
def fnExactMeanOfMapRow : OpenClaim := { program := "ytcekofioiofjbaa", sum := "61e870abf3c1cd33d6f40f6951cf1390f7ae3426e80f72f7087b2a26e7d93106", func := "loop.example/g01223/laws.FnExactMeanOfMap", spec := "fnExactMeanOfMap", apart := false }
def FnExactMeanOfMapSaid : Prop := fnExactMeanOfMapRow.holds Try.pinned (OpenSpec.ofChange fnExactMeanOfMapSpec)

/-- ITS FALSE NEIGHBOUR: 'it returns false'. Refute it at one input. -/
def fnExactMeanOfMapWrong : ChangeSpec := { name := "fnExactMeanOfMap", fn := fun _ => fun
  | [d] => { results := [.lit (.bool false)], args := [d] }
  | _ => none }
def FnExactMeanOfMapWrongFalsely : Prop := fnExactMeanOfMapRow.holds Try.pinned (OpenSpec.ofChange fnExactMeanOfMapWrong)

/-- 'laws.FnExactWrongShare': WHATEVER THE INPUT: true; the input reads as it did. -/
def fnExactWrongShareSpec : ChangeSpec := { name := "fnExactWrongShare", fn := fun _ => fun
  | [d1, d2, d3] => { results := [.lit (.bool true)], args := [d1, d2, d3] }
  | _ => none }
def fnExactWrongShareRow : OpenClaim := { program := "ytcekofioiofjbaa", sum := "61e870abf3c1cd33d6f40f6951cf1390f7ae3426e80f72f7087b2a26e7d93106", func := "loop.example/g01223/laws.FnExactWrongShare", spec := "fnExactWrongShare", inPlace := ["math.Float32bits", "math.Float32frombits"], apart := false }
def FnExactWrongShareSaid : Prop := fnExactWrongShareRow.holds Try.pinned (OpenSpec.ofChange fnExactWrongShareSpec)

/-- ITS FALSE NEIGHBOUR: 'it returns false'. Refute it at one input. -/
def fnExactWrongShareWrong : ChangeSpec := { name := "fnExactWrongShare", fn := fun _ => fun
  | [d1, d2, d3] => { results := [.lit (.bool false)], args := [d1, d2, d3] }
  | _ => none }
def FnExactWrongShareWrongFalsely : Prop := fnExactWrongShareRow.holds Try.pinned (OpenSpec.ofChange fnExactWrongShareWrong)

/-- 'laws.FnExactRangeOfMap': WHATEVER THE INPUT: true; the input reads as it did. -/
def fnExactRangeOfMapSpec : ChangeSpec := { name := "fnExactRangeOfMap", fn := fun _ => fun
  | [d] => { results := [.lit (.bool true)], args := [d] }
  | _ => none }
def fnExactRangeOfMapRow : OpenClaim := { program := "ytcekofioiofjbaa", sum := "61e870abf3c1cd33d6f40f6951cf1390f7ae3426e80f72f7087b2a26e7d93106", func := "loop.example/g01223/laws.FnExactRangeOfMap", spec := "fnExactRangeOfMap", unfollowed := true, recurses := true, apart := false }
def FnExactRangeOfMapSaid : Prop := fnExactRangeOfMapRow.holds Try.pinned (OpenSpec.ofChange fnExactRangeOfMapSpec)

/-- ITS FALSE NEIGHBOUR: 'it returns false'. Refute it at one input. -/
def fnExactRangeOfMapWrong : ChangeSpec := { name := "fnExactRangeOfMap", fn := fun _ => fun
  | [d] => { results := [.lit (.bool false)], args := [d] }
  | _ => none }
def FnExactRangeOfMapWrongFalsely : Prop := fnExactRangeOfMapRow.holds Try.pinned (OpenSpec.ofChange fnExactRangeOfMapWrong)

/-- 'laws.FnExactRankAt': WHATEVER THE INPUT: true; the input reads as it did. -/
def fnExactRankAtSpec : ChangeSpec := { name := "fnExactRankAt", fn := fun _ => fun
  | [d1, d2, d3, d4] => { results := [.lit (.bool true)], args := [d1, d2, d3, d4] }
  | _ => none }
def fnExactRankAtRow : OpenClaim := { program := "ytcekofioiofjbaa", sum := "61e870abf3c1cd33d6f40f6951cf1390f7ae3426e80f72f7087b2a26e7d93106", func := "loop.example/g01223/laws.FnExactRankAt", spec := "fnExactRankAt", apart := false }
def FnExactRankAtSaid : Prop := fnExactRankAtRow.holds Try.pinned (OpenSpec.ofChange fnExactRankAtSpec)

/-- ITS FALSE NEIGHBOUR: 'it returns false'. Refute it at one input. -/
def fnExactRankAtWrong : ChangeSpec := { name := "fnExactRankAt", fn := fun _ => fun
  | [d1, d2, d3, d4] => { results := [.lit (.bool false)], args := [d1, d2, d3, d4] }
  | _ => none }
def FnExactRankAtWrongFalsely : Prop := fnExactRankAtRow.holds Try.pinned (OpenSpec.ofChange fnExactRankAtWrong)

/-- 'laws.FnExactPutGrey': WHATEVER THE INPUT: true; the input reads as it did. -/
def fnExactPutGreySpec : ChangeSpec := { name := "fnExactPutGrey", fn := fun _ => fun
  | [d1, d2, d3, d4] => { results := [.lit (.bool true)], args := [d1, d2, d3, d4] }
  | _ => none }
def fnExactPutGreyRow : OpenClaim := { program := "ytcekofioiofjbaa", sum := "61e870abf3c1cd33d6f40f6951cf1390f7ae3426e80f72f7087b2a26e7d93106", func := "loop.example/g01223/laws.FnExactPutGrey", spec := "fnExactPutGrey", unfollowed := true, recurses := true, apart := false }
def FnExactPutGreySaid : Prop := fnExactPutGreyRow.holds Try.pinned (OpenSpec.ofChange fnExactPutGreySpec)

/-- ITS FALSE NEIGHBOUR: 'it returns false'. Refute it at one input. -/
def fnExactPutGreyWrong : ChangeSpec := { name := "fnExactPutGrey", fn := fun _ => fun
  | [d1, d2, d3, d4] => { results := [.lit (.bool false)], args := [d1, d2, d3, d4] }
  | _ => none }
def FnExactPutGreyWrongFalsely : Prop := fnExactPutGreyRow.holds Try.pinned (OpenSpec.ofChange fnExactPutGreyWrong)

/-- 'laws.FnExactCropPicture': WHATEVER THE INPUT: true; the input reads as it did. -/
def fnExactCropPictureSpec : ChangeSpec := { name := "fnExactCropPicture", fn := fun _ => fun
  | [d1, d2, d3, d4, d5] => { results := [.lit (.bool true)], args := [d1, d2, d3, d4, d5] }
  | _ => none }
def fnExactCropPictureRow : OpenClaim := { program := "ytcekofioiofjbaa", sum := "61e870abf3c1cd33d6f40f6951cf1390f7ae3426e80f72f7087b2a26e7d93106", func := "loop.example/g01223/laws.FnExactCropPicture", spec := "fnExactCropPicture", unfollowed := true, recurses := true, apart := false }
def FnExactCropPictureSaid : Prop := fnExactCropPictureRow.holds Try.pinned (OpenSpec.ofChange fnExactCropPictureSpec)

/-- ITS FALSE NEIGHBOUR: 'it returns false'. Refute it at one input. -/
def fnExactCropPictureWrong : ChangeSpec := { name := "fnExactCropPicture", fn := fun _ => fun
  | [d1, d2, d3, d4, d5] => { results := [.lit (.bool false)], args := [d1, d2, d3, d4, d5] }
  | _ => none }
def FnExactCropPictureWrongFalsely : Prop := fnExactCropPictureRow.holds Try.pinned (OpenSpec.ofChange fnExactCropPictureWrong)

/- THE SECOND FORM. 'bulk': how many values and letters a reading holds, each counted each time it is reached (what is shared counts as often as it is met; a slice's spare places count too). A statement '..UptoSaid' is the law's where the arguments, and the package variables that the reading takes, are together of bulk at most 1048576: NARROWER than '..Said'. Prove '..Said' where nothing that the law and all that it calls make is longer than what came in: it says more and counts as full. Else prove '..UptoSaid'. A law counts once. -/
mutual
def uptoBulk {H : Type} : DataW H → Nat
  | .lit (.string bytes) => bytes.length + 1
  | .lit _ => 1
  | .nil => 1
  | .ptr d => uptoBulk d + 1
  | .slice elems spare => uptoBulkAll elems + uptoBulkAll spare + 1
  | .agg parts => uptoBulkAll parts + 1
  | .iface _ d => uptoBulk d + 1
  | .map entries => uptoBulkEntries entries + 1
  | .held _ => 1
def uptoBulkAll {H : Type} : List (DataW H) → Nat
  | [] => 0
  | d :: r => uptoBulk d + uptoBulkAll r
def uptoBulkEntries {H : Type} : List (Lit × DataW H) → Nat
  | [] => 0
  | x :: r => uptoBulkEntry x + uptoBulkEntries r
def uptoBulkEntry {H : Type} : Lit × DataW H → Nat
  | (.string bytes, d) => bytes.length + uptoBulk d + 1
  | (_, d) => uptoBulk d + 1
 end
def uptoSmall : (H : Type) → List (DataW H) → Bool := fun _ ds => decide (uptoBulkAll ds ≤ 1048576)
def OpenSpec.upto (s : _root_.Go.ChangeSpec) : _root_.Go.OpenSpec := { _root_.Go.OpenSpec.ofChange s with cond := some uptoSmall }

/-- 'laws.FnExactMarginsOf', WHERE WHAT IT READS IS OF BULK AT MOST 1048576: true; the input reads as it did. -/
def fnExactMarginsOfUptoRow : OpenClaim := { program := "ytcekofioiofjbaa", sum := "61e870abf3c1cd33d6f40f6951cf1390f7ae3426e80f72f7087b2a26e7d93106", func := "loop.example/g01223/laws.FnExactMarginsOf", spec := "fnExactMarginsOf", inPlace := ["math.Float64frombits"], unfollowed := true, recurses := true, apart := false, narrowed := true }
def FnExactMarginsOfUptoSaid : Prop := fnExactMarginsOfUptoRow.holds Try.pinned (OpenSpec.upto fnExactMarginsOfSpec)

/-- 'laws.FnExactSharpAt', WHERE WHAT IT READS IS OF BULK AT MOST 1048576: true; the input reads as it did. -/
def fnExactSharpAtUptoRow : OpenClaim := { program := "ytcekofioiofjbaa", sum := "61e870abf3c1cd33d6f40f6951cf1390f7ae3426e80f72f7087b2a26e7d93106", func := "loop.example/g01223/laws.FnExactSharpAt", spec := "fnExactSharpAt", apart := false, narrowed := true }
def FnExactSharpAtUptoSaid : Prop := fnExactSharpAtUptoRow.holds Try.pinned (OpenSpec.upto fnExactSharpAtSpec)

/-- 'laws.FnExactCostOfMap', WHERE WHAT IT READS IS OF BULK AT MOST 1048576: true; the input reads as it did. -/
def fnExactCostOfMapUptoRow : OpenClaim := { program := "ytcekofioiofjbaa", sum := "61e870abf3c1cd33d6f40f6951cf1390f7ae3426e80f72f7087b2a26e7d93106", func := "loop.example/g01223/laws.FnExactCostOfMap", spec := "fnExactCostOfMap", inPlace := ["math.RoundToEven"], apart := false, narrowed := true }
def FnExactCostOfMapUptoSaid : Prop := fnExactCostOfMapUptoRow.holds Try.pinned (OpenSpec.upto fnExactCostOfMapSpec)

/-- 'laws.FnExactHalveMap', WHERE WHAT IT READS IS OF BULK AT MOST 1048576: true; the input reads as it did. -/
def fnExactHalveMapUptoRow : OpenClaim := { program := "ytcekofioiofjbaa", sum := "61e870abf3c1cd33d6f40f6951cf1390f7ae3426e80f72f7087b2a26e7d93106", func := "loop.example/g01223/laws.FnExactHalveMap", spec := "fnExactHalveMap", unfollowed := true, recurses := true, apart := false, narrowed := true }
def FnExactHalveMapUptoSaid : Prop := fnExactHalveMapUptoRow.holds Try.pinned (OpenSpec.upto fnExactHalveMapSpec)

/-- 'laws.FnExactMirrorMap', WHERE WHAT IT READS IS OF BULK AT MOST 1048576: true; the input reads as it did. -/
def fnExactMirrorMapUptoRow : OpenClaim := { program := "ytcekofioiofjbaa", sum := "61e870abf3c1cd33d6f40f6951cf1390f7ae3426e80f72f7087b2a26e7d93106", func := "loop.example/g01223/laws.FnExactMirrorMap", spec := "fnExactMirrorMap", unfollowed := true, recurses := true, apart := false, narrowed := true }
def FnExactMirrorMapUptoSaid : Prop := fnExactMirrorMapUptoRow.holds Try.pinned (OpenSpec.upto fnExactMirrorMapSpec)

/-- 'laws.FnExactMeanOfMap', WHERE WHAT IT READS IS OF BULK AT MOST 1048576: true; the input reads as it did. -/
def fnExactMeanOfMapUptoRow : OpenClaim := { program := "ytcekofioiofjbaa", sum := "61e870abf3c1cd33d6f40f6951cf1390f7ae3426e80f72f7087b2a26e7d93106", func := "loop.example/g01223/laws.FnExactMeanOfMap", spec := "fnExactMeanOfMap", apart := false, narrowed := true }
def FnExactMeanOfMapUptoSaid : Prop := fnExactMeanOfMapUptoRow.holds Try.pinned (OpenSpec.upto fnExactMeanOfMapSpec)

/-- 'laws.FnExactWrongShare', WHERE WHAT IT READS IS OF BULK AT MOST 1048576: true; the input reads as it did. -/
def fnExactWrongShareUptoRow : OpenClaim := { program := "ytcekofioiofjbaa", sum := "61e870abf3c1cd33d6f40f6951cf1390f7ae3426e80f72f7087b2a26e7d93106", func := "loop.example/g01223/laws.FnExactWrongShare", spec := "fnExactWrongShare", inPlace := ["math.Float32bits", "math.Float32frombits"], apart := false, narrowed := true }
def FnExactWrongShareUptoSaid : Prop := fnExactWrongShareUptoRow.holds Try.pinned (OpenSpec.upto fnExactWrongShareSpec)

/-- 'laws.FnExactRangeOfMap', WHERE WHAT IT READS IS OF BULK AT MOST 1048576: true; the input reads as it did. -/
def fnExactRangeOfMapUptoRow : OpenClaim := { program := "ytcekofioiofjbaa", sum := "61e870abf3c1cd33d6f40f6951cf1390f7ae3426e80f72f7087b2a26e7d93106", func := "loop.example/g01223/laws.FnExactRangeOfMap", spec := "fnExactRangeOfMap", unfollowed := true, recurses := true, apart := false, narrowed := true }
def FnExactRangeOfMapUptoSaid : Prop := fnExactRangeOfMapUptoRow.holds Try.pinned (OpenSpec.upto fnExactRangeOfMapSpec)

/-- 'laws.FnExactRankAt', WHERE WHAT IT READS IS OF BULK AT MOST 1048576: true; the input reads as it did. -/
def fnExactRankAtUptoRow : OpenClaim := { program := "ytcekofioiofjbaa", sum := "61e870abf3c1cd33d6f40f6951cf1390f7ae3426e80f72f7087b2a26e7d93106", func := "loop.example/g01223/laws.FnExactRankAt", spec := "fnExactRankAt", apart := false, narrowed := true }
def FnExactRankAtUptoSaid : Prop := fnExactRankAtUptoRow.holds Try.pinned (OpenSpec.upto fnExactRankAtSpec)

/-- 'laws.FnExactPutGrey', WHERE WHAT IT READS IS OF BULK AT MOST 1048576: true; the input reads as it did. -/
def fnExactPutGreyUptoRow : OpenClaim := { program := "ytcekofioiofjbaa", sum := "61e870abf3c1cd33d6f40f6951cf1390f7ae3426e80f72f7087b2a26e7d93106", func := "loop.example/g01223/laws.FnExactPutGrey", spec := "fnExactPutGrey", unfollowed := true, recurses := true, apart := false, narrowed := true }
def FnExactPutGreyUptoSaid : Prop := fnExactPutGreyUptoRow.holds Try.pinned (OpenSpec.upto fnExactPutGreySpec)

/-- 'laws.FnExactCropPicture', WHERE WHAT IT READS IS OF BULK AT MOST 1048576: true; the input reads as it did. -/
def fnExactCropPictureUptoRow : OpenClaim := { program := "ytcekofioiofjbaa", sum := "61e870abf3c1cd33d6f40f6951cf1390f7ae3426e80f72f7087b2a26e7d93106", func := "loop.example/g01223/laws.FnExactCropPicture", spec := "fnExactCropPicture", unfollowed := true, recurses := true, apart := false, narrowed := true }
def FnExactCropPictureUptoSaid : Prop := fnExactCropPictureUptoRow.holds Try.pinned (OpenSpec.upto fnExactCropPictureSpec)

end Rows
end Go.Proofs.Ytcekofioiofjbaa
