/-
  No cell of these rows narrows 'for every input' (looked for: loops, veiled, ifaces, maps, wideKeys, modest, calm, conditions, laid).
  DERIVED. THE GIVEN ROWS OF THIS SEAT. 12 by the template 'for every input the law returns true; each argument reads behind the call as it read before'; 0 by the template 'total and deterministic' (their statements: YthcpnbjlgbobaaaTotals.lean).
  GIVEN WITH THE SEED: the statements are not yours to turn. If you find one false, say at which input.
  Laid BY PROGRAM, IN A SANDBOX (cutbox-rows.mjs): the forced cells as the released guide's own fill.sh prints them over the translation 691c0df00543afb8… (all of the seat's roots in one cut). By AI agents, Wed Nov 11 2026. No macro, syntax, notation, axiom, sorry.
-/
import Derived.Test.YthcpnbjlgbobaaaChecked
import GoSem.Claim
import GoSem.ClaimJoined
import GoSem.ClaimMapViews
import Derived.JoinedTies
import Derived.KernelRfl
namespace Go.Proofs.Ythcpnbjlgbobaaa
/- THE CELL 'sum', in the pinned program and in every row, IS THE sha256 OF THE DUMP (.gsa) THAT YthcpnbjlgbobaaaProg.lean LOADS. Nothing in Lean hashes anything: it is a label: what it is worth is what the hold of that sum in a sandbox is worth. -/
noncomputable def Try.pinned : Pinned := { name := "ythcpnbjlgbobaaa", sum := "691c0df00543afb822ee2d16dbe87559e2db685d3fed3ba31214cdf3930bfaa7", checked := Try.checked }
namespace Rows
def none {H : Type} : Left H := { results := [], args := [] }

/-- 'laws.FnExactValidPrices': WHATEVER THE INPUT: true; the input reads as it did. -/
def fnExactValidPricesSpec : ChangeSpec := { name := "fnExactValidPrices", fn := fun _ => fun
  | [d] => { results := [.lit (.bool true)], args := [d] }
  | _ => none }
def fnExactValidPricesRow : OpenClaim := { program := "ythcpnbjlgbobaaa", sum := "691c0df00543afb822ee2d16dbe87559e2db685d3fed3ba31214cdf3930bfaa7", func := "loop.example/g01223/laws.FnExactValidPrices", spec := "fnExactValidPrices", unfollowed := true, recurses := true, apart := false }
def FnExactValidPricesSaid : Prop := fnExactValidPricesRow.holds Try.pinned (OpenSpec.ofChange fnExactValidPricesSpec)

/-- ITS FALSE NEIGHBOUR: 'it returns false'. Refute it at one input. -/
def fnExactValidPricesWrong : ChangeSpec := { name := "fnExactValidPrices", fn := fun _ => fun
  | [d] => { results := [.lit (.bool false)], args := [d] }
  | _ => none }
def FnExactValidPricesWrongFalsely : Prop := fnExactValidPricesRow.holds Try.pinned (OpenSpec.ofChange fnExactValidPricesWrong)

/-- 'laws.FnExactWayOf': WHATEVER THE INPUT: true; the input reads as it did. -/
def fnExactWayOfSpec : ChangeSpec := { name := "fnExactWayOf", fn := fun _ => fun
  | [d] => { results := [.lit (.bool true)], args := [d] }
  | _ => none }
def fnExactWayOfRow : OpenClaim := { program := "ythcpnbjlgbobaaa", sum := "691c0df00543afb822ee2d16dbe87559e2db685d3fed3ba31214cdf3930bfaa7", func := "loop.example/g01223/laws.FnExactWayOf", spec := "fnExactWayOf", apart := false }
def FnExactWayOfSaid : Prop := fnExactWayOfRow.holds Try.pinned (OpenSpec.ofChange fnExactWayOfSpec)

/-- ITS FALSE NEIGHBOUR: 'it returns false'. Refute it at one input. -/
def fnExactWayOfWrong : ChangeSpec := { name := "fnExactWayOf", fn := fun _ => fun
  | [d] => { results := [.lit (.bool false)], args := [d] }
  | _ => none }
def FnExactWayOfWrongFalsely : Prop := fnExactWayOfRow.holds Try.pinned (OpenSpec.ofChange fnExactWayOfWrong)

/-- 'laws.FnExactPriceOf': WHATEVER THE INPUT: true; the input reads as it did. -/
def fnExactPriceOfSpec : ChangeSpec := { name := "fnExactPriceOf", fn := fun _ => fun
  | [d1, d2, d3] => { results := [.lit (.bool true)], args := [d1, d2, d3] }
  | _ => none }
def fnExactPriceOfRow : OpenClaim := { program := "ythcpnbjlgbobaaa", sum := "691c0df00543afb822ee2d16dbe87559e2db685d3fed3ba31214cdf3930bfaa7", func := "loop.example/g01223/laws.FnExactPriceOf", spec := "fnExactPriceOf", unfollowed := true, recurses := true, apart := false }
def FnExactPriceOfSaid : Prop := fnExactPriceOfRow.holds Try.pinned (OpenSpec.ofChange fnExactPriceOfSpec)

/-- ITS FALSE NEIGHBOUR: 'it returns false'. Refute it at one input. -/
def fnExactPriceOfWrong : ChangeSpec := { name := "fnExactPriceOf", fn := fun _ => fun
  | [d1, d2, d3] => { results := [.lit (.bool false)], args := [d1, d2, d3] }
  | _ => none }
def FnExactPriceOfWrongFalsely : Prop := fnExactPriceOfRow.holds Try.pinned (OpenSpec.ofChange fnExactPriceOfWrong)

/-- 'laws.FnExactValidMap': WHATEVER THE INPUT: true; the input reads as it did. -/
def fnExactValidMapSpec : ChangeSpec := { name := "fnExactValidMap", fn := fun _ => fun
  | [d] => { results := [.lit (.bool true)], args := [d] }
  | _ => none }
def fnExactValidMapRow : OpenClaim := { program := "ythcpnbjlgbobaaa", sum := "691c0df00543afb822ee2d16dbe87559e2db685d3fed3ba31214cdf3930bfaa7", func := "loop.example/g01223/laws.FnExactValidMap", spec := "fnExactValidMap", apart := false }
def FnExactValidMapSaid : Prop := fnExactValidMapRow.holds Try.pinned (OpenSpec.ofChange fnExactValidMapSpec)

/-- ITS FALSE NEIGHBOUR: 'it returns false'. Refute it at one input. -/
def fnExactValidMapWrong : ChangeSpec := { name := "fnExactValidMap", fn := fun _ => fun
  | [d] => { results := [.lit (.bool false)], args := [d] }
  | _ => none }
def FnExactValidMapWrongFalsely : Prop := fnExactValidMapRow.holds Try.pinned (OpenSpec.ofChange fnExactValidMapWrong)

/-- 'laws.FnExactValidVolume': WHATEVER THE INPUT: true; the input reads as it did. -/
def fnExactValidVolumeSpec : ChangeSpec := { name := "fnExactValidVolume", fn := fun _ => fun
  | [d] => { results := [.lit (.bool true)], args := [d] }
  | _ => none }
def fnExactValidVolumeRow : OpenClaim := { program := "ythcpnbjlgbobaaa", sum := "691c0df00543afb822ee2d16dbe87559e2db685d3fed3ba31214cdf3930bfaa7", func := "loop.example/g01223/laws.FnExactValidVolume", spec := "fnExactValidVolume", apart := false }
def FnExactValidVolumeSaid : Prop := fnExactValidVolumeRow.holds Try.pinned (OpenSpec.ofChange fnExactValidVolumeSpec)

/-- ITS FALSE NEIGHBOUR: 'it returns false'. Refute it at one input. -/
def fnExactValidVolumeWrong : ChangeSpec := { name := "fnExactValidVolume", fn := fun _ => fun
  | [d] => { results := [.lit (.bool false)], args := [d] }
  | _ => none }
def FnExactValidVolumeWrongFalsely : Prop := fnExactValidVolumeRow.holds Try.pinned (OpenSpec.ofChange fnExactValidVolumeWrong)

/-- 'laws.FnExactValueAt': WHATEVER THE INPUT: true; the input reads as it did. -/
def fnExactValueAtSpec : ChangeSpec := { name := "fnExactValueAt", fn := fun _ => fun
  | [d1, d2, d3] => { results := [.lit (.bool true)], args := [d1, d2, d3] }
  | _ => none }
def fnExactValueAtRow : OpenClaim := { program := "ythcpnbjlgbobaaa", sum := "691c0df00543afb822ee2d16dbe87559e2db685d3fed3ba31214cdf3930bfaa7", func := "loop.example/g01223/laws.FnExactValueAt", spec := "fnExactValueAt", apart := false }
def FnExactValueAtSaid : Prop := fnExactValueAtRow.holds Try.pinned (OpenSpec.ofChange fnExactValueAtSpec)

/-- ITS FALSE NEIGHBOUR: 'it returns false'. Refute it at one input. -/
def fnExactValueAtWrong : ChangeSpec := { name := "fnExactValueAt", fn := fun _ => fun
  | [d1, d2, d3] => { results := [.lit (.bool false)], args := [d1, d2, d3] }
  | _ => none }
def FnExactValueAtWrongFalsely : Prop := fnExactValueAtRow.holds Try.pinned (OpenSpec.ofChange fnExactValueAtWrong)

/-- 'laws.FnExactCostAt': WHATEVER THE INPUT: true; the input reads as it did. -/
def fnExactCostAtSpec : ChangeSpec := { name := "fnExactCostAt", fn := fun _ => fun
  | [d1, d2, d3, d4] => { results := [.lit (.bool true)], args := [d1, d2, d3, d4] }
  | _ => none }
def fnExactCostAtRow : OpenClaim := { program := "ythcpnbjlgbobaaa", sum := "691c0df00543afb822ee2d16dbe87559e2db685d3fed3ba31214cdf3930bfaa7", func := "loop.example/g01223/laws.FnExactCostAt", spec := "fnExactCostAt", apart := false }
def FnExactCostAtSaid : Prop := fnExactCostAtRow.holds Try.pinned (OpenSpec.ofChange fnExactCostAtSpec)

/-- ITS FALSE NEIGHBOUR: 'it returns false'. Refute it at one input. -/
def fnExactCostAtWrong : ChangeSpec := { name := "fnExactCostAt", fn := fun _ => fun
  | [d1, d2, d3, d4] => { results := [.lit (.bool false)], args := [d1, d2, d3, d4] }
  | _ => none }
def FnExactCostAtWrongFalsely : Prop := fnExactCostAtRow.holds Try.pinned (OpenSpec.ofChange fnExactCostAtWrong)

/-- 'laws.FnExactFlatMap': WHATEVER THE INPUT: true; the input reads as it did. -/
def fnExactFlatMapSpec : ChangeSpec := { name := "fnExactFlatMap", fn := fun _ => fun
  | [d1, d2, d3] => { results := [.lit (.bool true)], args := [d1, d2, d3] }
  | _ => none }
def fnExactFlatMapRow : OpenClaim := { program := "ythcpnbjlgbobaaa", sum := "691c0df00543afb822ee2d16dbe87559e2db685d3fed3ba31214cdf3930bfaa7", func := "loop.example/g01223/laws.FnExactFlatMap", spec := "fnExactFlatMap", unfollowed := true, recurses := true, apart := false }
def FnExactFlatMapSaid : Prop := fnExactFlatMapRow.holds Try.pinned (OpenSpec.ofChange fnExactFlatMapSpec)

/-- ITS FALSE NEIGHBOUR: 'it returns false'. Refute it at one input. -/
def fnExactFlatMapWrong : ChangeSpec := { name := "fnExactFlatMap", fn := fun _ => fun
  | [d1, d2, d3] => { results := [.lit (.bool false)], args := [d1, d2, d3] }
  | _ => none }
def FnExactFlatMapWrongFalsely : Prop := fnExactFlatMapRow.holds Try.pinned (OpenSpec.ofChange fnExactFlatMapWrong)

/-- 'laws.FnExactHolesOf': WHATEVER THE INPUT: true; the input reads as it did. -/
def fnExactHolesOfSpec : ChangeSpec := { name := "fnExactHolesOf", fn := fun _ => fun
  | [d] => { results := [.lit (.bool true)], args := [d] }
  | _ => none }
def fnExactHolesOfRow : OpenClaim := { program := "ythcpnbjlgbobaaa", sum := "691c0df00543afb822ee2d16dbe87559e2db685d3fed3ba31214cdf3930bfaa7", func := "loop.example/g01223/laws.FnExactHolesOf", spec := "fnExactHolesOf", apart := false }
def FnExactHolesOfSaid : Prop := fnExactHolesOfRow.holds Try.pinned (OpenSpec.ofChange fnExactHolesOfSpec)

/-- ITS FALSE NEIGHBOUR: 'it returns false'. Refute it at one input. -/
def fnExactHolesOfWrong : ChangeSpec := { name := "fnExactHolesOf", fn := fun _ => fun
  | [d] => { results := [.lit (.bool false)], args := [d] }
  | _ => none }
def FnExactHolesOfWrongFalsely : Prop := fnExactHolesOfRow.holds Try.pinned (OpenSpec.ofChange fnExactHolesOfWrong)

/-- 'laws.FnExactSameMap': WHATEVER THE INPUT: true; the input reads as it did. -/
def fnExactSameMapSpec : ChangeSpec := { name := "fnExactSameMap", fn := fun _ => fun
  | [d1, d2] => { results := [.lit (.bool true)], args := [d1, d2] }
  | _ => none }
def fnExactSameMapRow : OpenClaim := { program := "ythcpnbjlgbobaaa", sum := "691c0df00543afb822ee2d16dbe87559e2db685d3fed3ba31214cdf3930bfaa7", func := "loop.example/g01223/laws.FnExactSameMap", spec := "fnExactSameMap", inPlace := ["math.Float32bits"], unfollowed := true, recurses := true, apart := false }
def FnExactSameMapSaid : Prop := fnExactSameMapRow.holds Try.pinned (OpenSpec.ofChange fnExactSameMapSpec)

/-- ITS FALSE NEIGHBOUR: 'it returns false'. Refute it at one input. -/
def fnExactSameMapWrong : ChangeSpec := { name := "fnExactSameMap", fn := fun _ => fun
  | [d1, d2] => { results := [.lit (.bool false)], args := [d1, d2] }
  | _ => none }
def FnExactSameMapWrongFalsely : Prop := fnExactSameMapRow.holds Try.pinned (OpenSpec.ofChange fnExactSameMapWrong)

/-- 'laws.FnExactGreyAt': WHATEVER THE INPUT: true; the input reads as it did. -/
def fnExactGreyAtSpec : ChangeSpec := { name := "fnExactGreyAt", fn := fun _ => fun
  | [d1, d2, d3] => { results := [.lit (.bool true)], args := [d1, d2, d3] }
  | _ => none }
def fnExactGreyAtRow : OpenClaim := { program := "ythcpnbjlgbobaaa", sum := "691c0df00543afb822ee2d16dbe87559e2db685d3fed3ba31214cdf3930bfaa7", func := "loop.example/g01223/laws.FnExactGreyAt", spec := "fnExactGreyAt", apart := false }
def FnExactGreyAtSaid : Prop := fnExactGreyAtRow.holds Try.pinned (OpenSpec.ofChange fnExactGreyAtSpec)

/-- ITS FALSE NEIGHBOUR: 'it returns false'. Refute it at one input. -/
def fnExactGreyAtWrong : ChangeSpec := { name := "fnExactGreyAt", fn := fun _ => fun
  | [d1, d2, d3] => { results := [.lit (.bool false)], args := [d1, d2, d3] }
  | _ => none }
def FnExactGreyAtWrongFalsely : Prop := fnExactGreyAtRow.holds Try.pinned (OpenSpec.ofChange fnExactGreyAtWrong)

/-- 'laws.FnExactSameVolume': WHATEVER THE INPUT: true; the input reads as it did. -/
def fnExactSameVolumeSpec : ChangeSpec := { name := "fnExactSameVolume", fn := fun _ => fun
  | [d1, d2] => { results := [.lit (.bool true)], args := [d1, d2] }
  | _ => none }
def fnExactSameVolumeRow : OpenClaim := { program := "ythcpnbjlgbobaaa", sum := "691c0df00543afb822ee2d16dbe87559e2db685d3fed3ba31214cdf3930bfaa7", func := "loop.example/g01223/laws.FnExactSameVolume", spec := "fnExactSameVolume", inPlace := ["math.Float32bits"], unfollowed := true, recurses := true, apart := false }
def FnExactSameVolumeSaid : Prop := fnExactSameVolumeRow.holds Try.pinned (OpenSpec.ofChange fnExactSameVolumeSpec)

/-- ITS FALSE NEIGHBOUR: 'it returns false'. Refute it at one input. -/
def fnExactSameVolumeWrong : ChangeSpec := { name := "fnExactSameVolume", fn := fun _ => fun
  | [d1, d2] => { results := [.lit (.bool false)], args := [d1, d2] }
  | _ => none }
def FnExactSameVolumeWrongFalsely : Prop := fnExactSameVolumeRow.holds Try.pinned (OpenSpec.ofChange fnExactSameVolumeWrong)

/- THE SECOND FORM. 'bulk': how many values and letters a reading holds, each counted each time it is reached (what is shared counts as often as it is met; a slice's spare places count too). A statement '..UptoSaid' is the law's where the arguments, and the package variables that the reading takes, are together of bulk at most 1048576: NARROWER than '..Said'. Prove '..Said' where nothing that the law and all that it calls make is longer than what came in: it says more and counts as full. Else prove '..UptoSaid'. A law counts once. -/
mutual
def uptoBulk {H : Type} : DataW H → Nat
  | .lit (.string bytes) => bytes.length + 1
  | .lit _ => 1
  | .nil => 1
  | .ptr d => uptoBulk d + 1
  | .slice elems spare => uptoBulkAll elems + uptoBulkAll spare + 1
  | .agg parts => uptoBulkAll parts + 1
  | .iface _ d => uptoBulk d + 1
  | .map entries => uptoBulkEntries entries + 1
  | .held _ => 1
def uptoBulkAll {H : Type} : List (DataW H) → Nat
  | [] => 0
  | d :: r => uptoBulk d + uptoBulkAll r
def uptoBulkEntries {H : Type} : List (Lit × DataW H) → Nat
  | [] => 0
  | x :: r => uptoBulkEntry x + uptoBulkEntries r
def uptoBulkEntry {H : Type} : Lit × DataW H → Nat
  | (.string bytes, d) => bytes.length + uptoBulk d + 1
  | (_, d) => uptoBulk d + 1
 end
def uptoSmall : (H : Type) → List (DataW H) → Bool := fun _ ds => decide (uptoBulkAll ds ≤ 1048576)
def OpenSpec.upto (s : _root_.Go.ChangeSpec) : _root_.Go.OpenSpec := { _root_.Go.OpenSpec.ofChange s with cond := some uptoSmall }

/-- 'laws.FnExactValidPrices', WHERE WHAT IT READS IS OF BULK AT MOST 1048576: true; the input reads as it did. -/
def fnExactValidPricesUptoRow : OpenClaim := { program := "ythcpnbjlgbobaaa", sum := "691c0df00543afb822ee2d16dbe87559e2db685d3fed3ba31214cdf3930bfaa7", func := "loop.example/g01223/laws.FnExactValidPrices", spec := "fnExactValidPrices", unfollowed := true, recurses := true, apart := false, narrowed := true }
def FnExactValidPricesUptoSaid : Prop := fnExactValidPricesUptoRow.holds Try.pinned (OpenSpec.upto fnExactValidPricesSpec)

/-- 'laws.FnExactWayOf', WHERE WHAT IT READS IS OF BULK AT MOST 1048576: true; the input reads as it did. -/
def fnExactWayOfUptoRow : OpenClaim := { program := "ythcpnbjlgbobaaa", sum := "691c0df00543afb822ee2d16dbe87559e2db685d3fed3ba31214cdf3930bfaa7", func := "loop.example/g01223/laws.FnExactWayOf", spec := "fnExactWayOf", apart := false, narrowed := true }
def FnExactWayOfUptoSaid : Prop := fnExactWayOfUptoRow.holds Try.pinned (OpenSpec.upto fnExactWayOfSpec)

/-- 'laws.FnExactPriceOf', WHERE WHAT IT READS IS OF BULK AT MOST 1048576: true; the input reads as it did. -/
def fnExactPriceOfUptoRow : OpenClaim := { program := "ythcpnbjlgbobaaa", sum := "691c0df00543afb822ee2d16dbe87559e2db685d3fed3ba31214cdf3930bfaa7", func := "loop.example/g01223/laws.FnExactPriceOf", spec := "fnExactPriceOf", unfollowed := true, recurses := true, apart := false, narrowed := true }
def FnExactPriceOfUptoSaid : Prop := fnExactPriceOfUptoRow.holds Try.pinned (OpenSpec.upto fnExactPriceOfSpec)

/-- 'laws.FnExactValidMap', WHERE WHAT IT READS IS OF BULK AT MOST 1048576: true; the input reads as it did. -/
def fnExactValidMapUptoRow : OpenClaim := { program := "ythcpnbjlgbobaaa", sum := "691c0df00543afb822ee2d16dbe87559e2db685d3fed3ba31214cdf3930bfaa7", func := "loop.example/g01223/laws.FnExactValidMap", spec := "fnExactValidMap", apart := false, narrowed := true }
def FnExactValidMapUptoSaid : Prop := fnExactValidMapUptoRow.holds Try.pinned (OpenSpec.upto fnExactValidMapSpec)

/-- 'laws.FnExactValidVolume', WHERE WHAT IT READS IS OF BULK AT MOST 1048576: true; the input reads as it did. -/
def fnExactValidVolumeUptoRow : OpenClaim := { program := "ythcpnbjlgbobaaa", sum := "691c0df00543afb822ee2d16dbe87559e2db685d3fed3ba31214cdf3930bfaa7", func := "loop.example/g01223/laws.FnExactValidVolume", spec := "fnExactValidVolume", apart := false, narrowed := true }
def FnExactValidVolumeUptoSaid : Prop := fnExactValidVolumeUptoRow.holds Try.pinned (OpenSpec.upto fnExactValidVolumeSpec)

/-- 'laws.FnExactValueAt', WHERE WHAT IT READS IS OF BULK AT MOST 1048576: true; the input reads as it did. -/
def fnExactValueAtUptoRow : OpenClaim := { program := "ythcpnbjlgbobaaa", sum := "691c0df00543afb822ee2d16dbe87559e2db685d3fed3ba31214cdf3930bfaa7", func := "loop.example/g01223/laws.FnExactValueAt", spec := "fnExactValueAt", apart := false, narrowed := true }
def FnExactValueAtUptoSaid : Prop := fnExactValueAtUptoRow.holds Try.pinned (OpenSpec.upto fnExactValueAtSpec)

/-- 'laws.FnExactCostAt', WHERE WHAT IT READS IS OF BULK AT MOST 1048576: true; the input reads as it did. -/
def fnExactCostAtUptoRow : OpenClaim := { program := "ythcpnbjlgbobaaa", sum := "691c0df00543afb822ee2d16dbe87559e2db685d3fed3ba31214cdf3930bfaa7", func := "loop.example/g01223/laws.FnExactCostAt", spec := "fnExactCostAt", apart := false, narrowed := true }
def FnExactCostAtUptoSaid : Prop := fnExactCostAtUptoRow.holds Try.pinned (OpenSpec.upto fnExactCostAtSpec)

/-- 'laws.FnExactFlatMap', WHERE WHAT IT READS IS OF BULK AT MOST 1048576: true; the input reads as it did. -/
def fnExactFlatMapUptoRow : OpenClaim := { program := "ythcpnbjlgbobaaa", sum := "691c0df00543afb822ee2d16dbe87559e2db685d3fed3ba31214cdf3930bfaa7", func := "loop.example/g01223/laws.FnExactFlatMap", spec := "fnExactFlatMap", unfollowed := true, recurses := true, apart := false, narrowed := true }
def FnExactFlatMapUptoSaid : Prop := fnExactFlatMapUptoRow.holds Try.pinned (OpenSpec.upto fnExactFlatMapSpec)

/-- 'laws.FnExactHolesOf', WHERE WHAT IT READS IS OF BULK AT MOST 1048576: true; the input reads as it did. -/
def fnExactHolesOfUptoRow : OpenClaim := { program := "ythcpnbjlgbobaaa", sum := "691c0df00543afb822ee2d16dbe87559e2db685d3fed3ba31214cdf3930bfaa7", func := "loop.example/g01223/laws.FnExactHolesOf", spec := "fnExactHolesOf", apart := false, narrowed := true }
def FnExactHolesOfUptoSaid : Prop := fnExactHolesOfUptoRow.holds Try.pinned (OpenSpec.upto fnExactHolesOfSpec)

/-- 'laws.FnExactSameMap', WHERE WHAT IT READS IS OF BULK AT MOST 1048576: true; the input reads as it did. -/
def fnExactSameMapUptoRow : OpenClaim := { program := "ythcpnbjlgbobaaa", sum := "691c0df00543afb822ee2d16dbe87559e2db685d3fed3ba31214cdf3930bfaa7", func := "loop.example/g01223/laws.FnExactSameMap", spec := "fnExactSameMap", inPlace := ["math.Float32bits"], unfollowed := true, recurses := true, apart := false, narrowed := true }
def FnExactSameMapUptoSaid : Prop := fnExactSameMapUptoRow.holds Try.pinned (OpenSpec.upto fnExactSameMapSpec)

/-- 'laws.FnExactGreyAt', WHERE WHAT IT READS IS OF BULK AT MOST 1048576: true; the input reads as it did. -/
def fnExactGreyAtUptoRow : OpenClaim := { program := "ythcpnbjlgbobaaa", sum := "691c0df00543afb822ee2d16dbe87559e2db685d3fed3ba31214cdf3930bfaa7", func := "loop.example/g01223/laws.FnExactGreyAt", spec := "fnExactGreyAt", apart := false, narrowed := true }
def FnExactGreyAtUptoSaid : Prop := fnExactGreyAtUptoRow.holds Try.pinned (OpenSpec.upto fnExactGreyAtSpec)

/-- 'laws.FnExactSameVolume', WHERE WHAT IT READS IS OF BULK AT MOST 1048576: true; the input reads as it did. -/
def fnExactSameVolumeUptoRow : OpenClaim := { program := "ythcpnbjlgbobaaa", sum := "691c0df00543afb822ee2d16dbe87559e2db685d3fed3ba31214cdf3930bfaa7", func := "loop.example/g01223/laws.FnExactSameVolume", spec := "fnExactSameVolume", inPlace := ["math.Float32bits"], unfollowed := true, recurses := true, apart := false, narrowed := true }
def FnExactSameVolumeUptoSaid : Prop := fnExactSameVolumeUptoRow.holds Try.pinned (OpenSpec.upto fnExactSameVolumeSpec)

end Rows
end Go.Proofs.Ythcpnbjlgbobaaa
