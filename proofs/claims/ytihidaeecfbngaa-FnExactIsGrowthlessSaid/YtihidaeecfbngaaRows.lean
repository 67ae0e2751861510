/-
  No cell of these rows narrows 'for every input' (looked for: loops, veiled, ifaces, maps, wideKeys, modest, calm, conditions, laid).
  DERIVED. THE GIVEN ROWS OF THIS SEAT. 17 by the template 'for every input the law returns true; each argument reads behind the call as it read before'; 0 by the template 'total and deterministic' (their statements: YtihidaeecfbngaaTotals.lean).
  GIVEN WITH THE SEED: the statements are not yours to turn. If you find one false, say at which input.
  Laid BY PROGRAM, IN A SANDBOX (cutbox-rows.mjs): the forced cells as the released guide's own fill.sh prints them over the translation f7b20bee1a532720… (all of the seat's roots in one cut). By AI agents, Wed Nov 11 2026. No macro, syntax, notation, axiom, sorry.
-/
import Derived.Test.YtihidaeecfbngaaChecked
import GoSem.Claim
import GoSem.ClaimJoined
import GoSem.ClaimMapViews
import Derived.JoinedTies
import Derived.KernelRfl
namespace Go.Proofs.Ytihidaeecfbngaa
/- THE CELL 'sum', in the pinned program and in every row, IS THE sha256 OF THE DUMP (.gsa) THAT YtihidaeecfbngaaProg.lean LOADS. Nothing in Lean hashes anything: it is a label: what it is worth is what the hold of that sum in a sandbox is worth. -/
noncomputable def Try.pinned : Pinned := { name := "ytihidaeecfbngaa", sum := "f7b20bee1a53272098951c5039b2d888f311ddb1eba8745b1263b328e581e48c", checked := Try.checked }
namespace Rows
def none {H : Type} : Left H := { results := [], args := [] }

/-- 'laws.FnExactPolyAt': WHATEVER THE INPUT: true; the input reads as it did. -/
def fnExactPolyAtSpec : ChangeSpec := { name := "fnExactPolyAt", fn := fun _ => fun
  | [d1, d2] => { results := [.lit (.bool true)], args := [d1, d2] }
  | _ => none }
def fnExactPolyAtRow : OpenClaim := { program := "ytihidaeecfbngaa", sum := "f7b20bee1a53272098951c5039b2d888f311ddb1eba8745b1263b328e581e48c", func := "loop.example/g03103/laws.FnExactPolyAt", spec := "fnExactPolyAt", apart := false }
def FnExactPolyAtSaid : Prop := fnExactPolyAtRow.holds Try.pinned (OpenSpec.ofChange fnExactPolyAtSpec)

/-- ITS FALSE NEIGHBOUR: 'it returns false'. Refute it at one input. -/
def fnExactPolyAtWrong : ChangeSpec := { name := "fnExactPolyAt", fn := fun _ => fun
  | [d1, d2] => { results := [.lit (.bool false)], args := [d1, d2] }
  | _ => none }
def FnExactPolyAtWrongFalsely : Prop := fnExactPolyAtRow.holds Try.pinned (OpenSpec.ofChange fnExactPolyAtWrong)

/-- 'laws.FnExactMultiplyPolys': WHATEVER THE INPUT: true; the input reads as it did. -/
def fnExactMultiplyPolysSpec : ChangeSpec := { name := "fnExactMultiplyPolys", fn := fun _ => fun
  | [d1, d2] => { results := [.lit (.bool true)], args := [d1, d2] }
  | _ => none }
def fnExactMultiplyPolysRow : OpenClaim := { program := "ytihidaeecfbngaa", sum := "f7b20bee1a53272098951c5039b2d888f311ddb1eba8745b1263b328e581e48c", func := "loop.example/g03103/laws.FnExactMultiplyPolys", spec := "fnExactMultiplyPolys", apart := false }
def FnExactMultiplyPolysSaid : Prop := fnExactMultiplyPolysRow.holds Try.pinned (OpenSpec.ofChange fnExactMultiplyPolysSpec)

/-- ITS FALSE NEIGHBOUR: 'it returns false'. Refute it at one input. -/
def fnExactMultiplyPolysWrong : ChangeSpec := { name := "fnExactMultiplyPolys", fn := fun _ => fun
  | [d1, d2] => { results := [.lit (.bool false)], args := [d1, d2] }
  | _ => none }
def FnExactMultiplyPolysWrongFalsely : Prop := fnExactMultiplyPolysRow.holds Try.pinned (OpenSpec.ofChange fnExactMultiplyPolysWrong)

/-- 'laws.FnExactIsSmall': WHATEVER THE INPUT: true; the input reads as it did. -/
def fnExactIsSmallSpec : ChangeSpec := { name := "fnExactIsSmall", fn := fun _ => fun
  | [d] => { results := [.lit (.bool true)], args := [d] }
  | _ => none }
def fnExactIsSmallRow : OpenClaim := { program := "ytihidaeecfbngaa", sum := "f7b20bee1a53272098951c5039b2d888f311ddb1eba8745b1263b328e581e48c", func := "loop.example/g03103/laws.FnExactIsSmall", spec := "fnExactIsSmall", apart := false }
def FnExactIsSmallSaid : Prop := fnExactIsSmallRow.holds Try.pinned (OpenSpec.ofChange fnExactIsSmallSpec)

/-- ITS FALSE NEIGHBOUR: 'it returns false'. Refute it at one input. -/
def fnExactIsSmallWrong : ChangeSpec := { name := "fnExactIsSmall", fn := fun _ => fun
  | [d] => { results := [.lit (.bool false)], args := [d] }
  | _ => none }
def FnExactIsSmallWrongFalsely : Prop := fnExactIsSmallRow.holds Try.pinned (OpenSpec.ofChange fnExactIsSmallWrong)

/-- 'laws.FnExactRowBounds': WHATEVER THE INPUT: true; the input reads as it did. -/
def fnExactRowBoundsSpec : ChangeSpec := { name := "fnExactRowBounds", fn := fun _ => fun
  | [d] => { results := [.lit (.bool true)], args := [d] }
  | _ => none }
def fnExactRowBoundsRow : OpenClaim := { program := "ytihidaeecfbngaa", sum := "f7b20bee1a53272098951c5039b2d888f311ddb1eba8745b1263b328e581e48c", func := "loop.example/g03103/laws.FnExactRowBounds", spec := "fnExactRowBounds", apart := false }
def FnExactRowBoundsSaid : Prop := fnExactRowBoundsRow.holds Try.pinned (OpenSpec.ofChange fnExactRowBoundsSpec)

/-- ITS FALSE NEIGHBOUR: 'it returns false'. Refute it at one input. -/
def fnExactRowBoundsWrong : ChangeSpec := { name := "fnExactRowBounds", fn := fun _ => fun
  | [d] => { results := [.lit (.bool false)], args := [d] }
  | _ => none }
def FnExactRowBoundsWrongFalsely : Prop := fnExactRowBoundsRow.holds Try.pinned (OpenSpec.ofChange fnExactRowBoundsWrong)

/-- 'laws.FnExactDeterminantOf': WHATEVER THE INPUT: true; the input reads as it did. -/
def fnExactDeterminantOfSpec : ChangeSpec := { name := "fnExactDeterminantOf", fn := fun _ => fun
  | [d] => { results := [.lit (.bool true)], args := [d] }
  | _ => none }
def fnExactDeterminantOfRow : OpenClaim := { program := "ytihidaeecfbngaa", sum := "f7b20bee1a53272098951c5039b2d888f311ddb1eba8745b1263b328e581e48c", func := "loop.example/g03103/laws.FnExactDeterminantOf", spec := "fnExactDeterminantOf", recurses := true, apart := false }
def FnExactDeterminantOfSaid : Prop := fnExactDeterminantOfRow.holds Try.pinned (OpenSpec.ofChange fnExactDeterminantOfSpec)

/-- ITS FALSE NEIGHBOUR: 'it returns false'. Refute it at one input. -/
def fnExactDeterminantOfWrong : ChangeSpec := { name := "fnExactDeterminantOf", fn := fun _ => fun
  | [d] => { results := [.lit (.bool false)], args := [d] }
  | _ => none }
def FnExactDeterminantOfWrongFalsely : Prop := fnExactDeterminantOfRow.holds Try.pinned (OpenSpec.ofChange fnExactDeterminantOfWrong)

/-- 'laws.FnExactIsRootless': WHATEVER THE INPUT: true; the input reads as it did. -/
def fnExactIsRootlessSpec : ChangeSpec := { name := "fnExactIsRootless", fn := fun _ => fun
  | [d] => { results := [.lit (.bool true)], args := [d] }
  | _ => none }
def fnExactIsRootlessRow : OpenClaim := { program := "ytihidaeecfbngaa", sum := "f7b20bee1a53272098951c5039b2d888f311ddb1eba8745b1263b328e581e48c", func := "loop.example/g03103/laws.FnExactIsRootless", spec := "fnExactIsRootless", recurses := true, apart := false }
def FnExactIsRootlessSaid : Prop := fnExactIsRootlessRow.holds Try.pinned (OpenSpec.ofChange fnExactIsRootlessSpec)

/-- ITS FALSE NEIGHBOUR: 'it returns false'. Refute it at one input. -/
def fnExactIsRootlessWrong : ChangeSpec := { name := "fnExactIsRootless", fn := fun _ => fun
  | [d] => { results := [.lit (.bool false)], args := [d] }
  | _ => none }
def FnExactIsRootlessWrongFalsely : Prop := fnExactIsRootlessRow.holds Try.pinned (OpenSpec.ofChange fnExactIsRootlessWrong)

/-- 'laws.FnExactJoinGraphs': WHATEVER THE INPUT: true; the input reads as it did. -/
def fnExactJoinGraphsSpec : ChangeSpec := { name := "fnExactJoinGraphs", fn := fun _ => fun
  | [d1, d2] => { results := [.lit (.bool true)], args := [d1, d2] }
  | _ => none }
def fnExactJoinGraphsRow : OpenClaim := { program := "ytihidaeecfbngaa", sum := "f7b20bee1a53272098951c5039b2d888f311ddb1eba8745b1263b328e581e48c", func := "loop.example/g03103/laws.FnExactJoinGraphs", spec := "fnExactJoinGraphs", apart := false }
def FnExactJoinGraphsSaid : Prop := fnExactJoinGraphsRow.holds Try.pinned (OpenSpec.ofChange fnExactJoinGraphsSpec)

/-- ITS FALSE NEIGHBOUR: 'it returns false'. Refute it at one input. -/
def fnExactJoinGraphsWrong : ChangeSpec := { name := "fnExactJoinGraphs", fn := fun _ => fun
  | [d1, d2] => { results := [.lit (.bool false)], args := [d1, d2] }
  | _ => none }
def FnExactJoinGraphsWrongFalsely : Prop := fnExactJoinGraphsRow.holds Try.pinned (OpenSpec.ofChange fnExactJoinGraphsWrong)

/-- 'laws.FnExactPairGraph': WHATEVER THE INPUT: true; the input reads as it did. -/
def fnExactPairGraphSpec : ChangeSpec := { name := "fnExactPairGraph", fn := fun _ => fun
  | [d1, d2] => { results := [.lit (.bool true)], args := [d1, d2] }
  | _ => none }
def fnExactPairGraphRow : OpenClaim := { program := "ytihidaeecfbngaa", sum := "f7b20bee1a53272098951c5039b2d888f311ddb1eba8745b1263b328e581e48c", func := "loop.example/g03103/laws.FnExactPairGraph", spec := "fnExactPairGraph", apart := false }
def FnExactPairGraphSaid : Prop := fnExactPairGraphRow.holds Try.pinned (OpenSpec.ofChange fnExactPairGraphSpec)

/-- ITS FALSE NEIGHBOUR: 'it returns false'. Refute it at one input. -/
def fnExactPairGraphWrong : ChangeSpec := { name := "fnExactPairGraph", fn := fun _ => fun
  | [d1, d2] => { results := [.lit (.bool false)], args := [d1, d2] }
  | _ => none }
def FnExactPairGraphWrongFalsely : Prop := fnExactPairGraphRow.holds Try.pinned (OpenSpec.ofChange fnExactPairGraphWrong)

/-- 'laws.FnExactPowerGraph': WHATEVER THE INPUT: true; the input reads as it did. -/
def fnExactPowerGraphSpec : ChangeSpec := { name := "fnExactPowerGraph", fn := fun _ => fun
  | [d1, d2] => { results := [.lit (.bool true)], args := [d1, d2] }
  | _ => none }
def fnExactPowerGraphRow : OpenClaim := { program := "ytihidaeecfbngaa", sum := "f7b20bee1a53272098951c5039b2d888f311ddb1eba8745b1263b328e581e48c", func := "loop.example/g03103/laws.FnExactPowerGraph", spec := "fnExactPowerGraph", apart := false }
def FnExactPowerGraphSaid : Prop := fnExactPowerGraphRow.holds Try.pinned (OpenSpec.ofChange fnExactPowerGraphSpec)

/-- ITS FALSE NEIGHBOUR: 'it returns false'. Refute it at one input. -/
def fnExactPowerGraphWrong : ChangeSpec := { name := "fnExactPowerGraph", fn := fun _ => fun
  | [d1, d2] => { results := [.lit (.bool false)], args := [d1, d2] }
  | _ => none }
def FnExactPowerGraphWrongFalsely : Prop := fnExactPowerGraphRow.holds Try.pinned (OpenSpec.ofChange fnExactPowerGraphWrong)

/-- 'laws.FnExactBlockGraph': WHATEVER THE INPUT: true; the input reads as it did. -/
def fnExactBlockGraphSpec : ChangeSpec := { name := "fnExactBlockGraph", fn := fun _ => fun
  | [d] => { results := [.lit (.bool true)], args := [d] }
  | _ => none }
def fnExactBlockGraphRow : OpenClaim := { program := "ytihidaeecfbngaa", sum := "f7b20bee1a53272098951c5039b2d888f311ddb1eba8745b1263b328e581e48c", func := "loop.example/g03103/laws.FnExactBlockGraph", spec := "fnExactBlockGraph", apart := false }
def FnExactBlockGraphSaid : Prop := fnExactBlockGraphRow.holds Try.pinned (OpenSpec.ofChange fnExactBlockGraphSpec)

/-- ITS FALSE NEIGHBOUR: 'it returns false'. Refute it at one input. -/
def fnExactBlockGraphWrong : ChangeSpec := { name := "fnExactBlockGraph", fn := fun _ => fun
  | [d] => { results := [.lit (.bool false)], args := [d] }
  | _ => none }
def FnExactBlockGraphWrongFalsely : Prop := fnExactBlockGraphRow.holds Try.pinned (OpenSpec.ofChange fnExactBlockGraphWrong)

/-- 'laws.FnExactIsBelow': WHATEVER THE INPUT: true; the input reads as it did. -/
def fnExactIsBelowSpec : ChangeSpec := { name := "fnExactIsBelow", fn := fun _ => fun
  | [d1, d2, d3] => { results := [.lit (.bool true)], args := [d1, d2, d3] }
  | _ => none }
def fnExactIsBelowRow : OpenClaim := { program := "ytihidaeecfbngaa", sum := "f7b20bee1a53272098951c5039b2d888f311ddb1eba8745b1263b328e581e48c", func := "loop.example/g03103/laws.FnExactIsBelow", spec := "fnExactIsBelow", recurses := true, apart := false }
def FnExactIsBelowSaid : Prop := fnExactIsBelowRow.holds Try.pinned (OpenSpec.ofChange fnExactIsBelowSpec)

/-- ITS FALSE NEIGHBOUR: 'it returns false'. Refute it at one input. -/
def fnExactIsBelowWrong : ChangeSpec := { name := "fnExactIsBelow", fn := fun _ => fun
  | [d1, d2, d3] => { results := [.lit (.bool false)], args := [d1, d2, d3] }
  | _ => none }
def FnExactIsBelowWrongFalsely : Prop := fnExactIsBelowRow.holds Try.pinned (OpenSpec.ofChange fnExactIsBelowWrong)

/-- 'laws.FnExactIsBlockOf': WHATEVER THE INPUT: true; the input reads as it did. -/
def fnExactIsBlockOfSpec : ChangeSpec := { name := "fnExactIsBlockOf", fn := fun _ => fun
  | [d1, d2] => { results := [.lit (.bool true)], args := [d1, d2] }
  | _ => none }
def fnExactIsBlockOfRow : OpenClaim := { program := "ytihidaeecfbngaa", sum := "f7b20bee1a53272098951c5039b2d888f311ddb1eba8745b1263b328e581e48c", func := "loop.example/g03103/laws.FnExactIsBlockOf", spec := "fnExactIsBlockOf", unfollowed := true, recurses := true, apart := false }
def FnExactIsBlockOfSaid : Prop := fnExactIsBlockOfRow.holds Try.pinned (OpenSpec.ofChange fnExactIsBlockOfSpec)

/-- ITS FALSE NEIGHBOUR: 'it returns false'. Refute it at one input. -/
def fnExactIsBlockOfWrong : ChangeSpec := { name := "fnExactIsBlockOf", fn := fun _ => fun
  | [d1, d2] => { results := [.lit (.bool false)], args := [d1, d2] }
  | _ => none }
def FnExactIsBlockOfWrongFalsely : Prop := fnExactIsBlockOfRow.holds Try.pinned (OpenSpec.ofChange fnExactIsBlockOfWrong)

/-- 'laws.FnExactCharPoly': WHATEVER THE INPUT: true; the input reads as it did. -/
def fnExactCharPolySpec : ChangeSpec := { name := "fnExactCharPoly", fn := fun _ => fun
  | [d] => { results := [.lit (.bool true)], args := [d] }
  | _ => none }
def fnExactCharPolyRow : OpenClaim := { program := "ytihidaeecfbngaa", sum := "f7b20bee1a53272098951c5039b2d888f311ddb1eba8745b1263b328e581e48c", func := "loop.example/g03103/laws.FnExactCharPoly", spec := "fnExactCharPoly", recurses := true, apart := false }
def FnExactCharPolySaid : Prop := fnExactCharPolyRow.holds Try.pinned (OpenSpec.ofChange fnExactCharPolySpec)

/-- ITS FALSE NEIGHBOUR: 'it returns false'. Refute it at one input. -/
def fnExactCharPolyWrong : ChangeSpec := { name := "fnExactCharPoly", fn := fun _ => fun
  | [d] => { results := [.lit (.bool false)], args := [d] }
  | _ => none }
def FnExactCharPolyWrongFalsely : Prop := fnExactCharPolyRow.holds Try.pinned (OpenSpec.ofChange fnExactCharPolyWrong)

/-- 'laws.FnExactFloorOfGrowth': WHATEVER THE INPUT: true; the input reads as it did. -/
def fnExactFloorOfGrowthSpec : ChangeSpec := { name := "fnExactFloorOfGrowth", fn := fun _ => fun
  | [d1, d2] => { results := [.lit (.bool true)], args := [d1, d2] }
  | _ => none }
def fnExactFloorOfGrowthRow : OpenClaim := { program := "ytihidaeecfbngaa", sum := "f7b20bee1a53272098951c5039b2d888f311ddb1eba8745b1263b328e581e48c", func := "loop.example/g03103/laws.FnExactFloorOfGrowth", spec := "fnExactFloorOfGrowth", recurses := true, apart := false }
def FnExactFloorOfGrowthSaid : Prop := fnExactFloorOfGrowthRow.holds Try.pinned (OpenSpec.ofChange fnExactFloorOfGrowthSpec)

/-- ITS FALSE NEIGHBOUR: 'it returns false'. Refute it at one input. -/
def fnExactFloorOfGrowthWrong : ChangeSpec := { name := "fnExactFloorOfGrowth", fn := fun _ => fun
  | [d1, d2] => { results := [.lit (.bool false)], args := [d1, d2] }
  | _ => none }
def FnExactFloorOfGrowthWrongFalsely : Prop := fnExactFloorOfGrowthRow.holds Try.pinned (OpenSpec.ofChange fnExactFloorOfGrowthWrong)

/-- 'laws.FnExactIsGrowthless': WHATEVER THE INPUT: true; the input reads as it did. -/
def fnExactIsGrowthlessSpec : ChangeSpec := { name := "fnExactIsGrowthless", fn := fun _ => fun
  | [d] => { results := [.lit (.bool true)], args := [d] }
  | _ => none }
def fnExactIsGrowthlessRow : OpenClaim := { program := "ytihidaeecfbngaa", sum := "f7b20bee1a53272098951c5039b2d888f311ddb1eba8745b1263b328e581e48c", func := "loop.example/g03103/laws.FnExactIsGrowthless", spec := "fnExactIsGrowthless", apart := false }
def FnExactIsGrowthlessSaid : Prop := fnExactIsGrowthlessRow.holds Try.pinned (OpenSpec.ofChange fnExactIsGrowthlessSpec)

/-- ITS FALSE NEIGHBOUR: 'it returns false'. Refute it at one input. -/
def fnExactIsGrowthlessWrong : ChangeSpec := { name := "fnExactIsGrowthless", fn := fun _ => fun
  | [d] => { results := [.lit (.bool false)], args := [d] }
  | _ => none }
def FnExactIsGrowthlessWrongFalsely : Prop := fnExactIsGrowthlessRow.holds Try.pinned (OpenSpec.ofChange fnExactIsGrowthlessWrong)

/-- 'laws.FnExactTurnedPoly': WHATEVER THE INPUT: true; the input reads as it did. -/
def fnExactTurnedPolySpec : ChangeSpec := { name := "fnExactTurnedPoly", fn := fun _ => fun
  | [d] => { results := [.lit (.bool true)], args := [d] }
  | _ => none }
def fnExactTurnedPolyRow : OpenClaim := { program := "ytihidaeecfbngaa", sum := "f7b20bee1a53272098951c5039b2d888f311ddb1eba8745b1263b328e581e48c", func := "loop.example/g03103/laws.FnExactTurnedPoly", spec := "fnExactTurnedPoly", recurses := true, apart := false }
def FnExactTurnedPolySaid : Prop := fnExactTurnedPolyRow.holds Try.pinned (OpenSpec.ofChange fnExactTurnedPolySpec)

/-- ITS FALSE NEIGHBOUR: 'it returns false'. Refute it at one input. -/
def fnExactTurnedPolyWrong : ChangeSpec := { name := "fnExactTurnedPoly", fn := fun _ => fun
  | [d] => { results := [.lit (.bool false)], args := [d] }
  | _ => none }
def FnExactTurnedPolyWrongFalsely : Prop := fnExactTurnedPolyRow.holds Try.pinned (OpenSpec.ofChange fnExactTurnedPolyWrong)

/-- 'laws.FnExactCompareGrowth': WHATEVER THE INPUT: true; the input reads as it did. -/
def fnExactCompareGrowthSpec : ChangeSpec := { name := "fnExactCompareGrowth", fn := fun _ => fun
  | [d1, d2, d3] => { results := [.lit (.bool true)], args := [d1, d2, d3] }
  | _ => none }
def fnExactCompareGrowthRow : OpenClaim := { program := "ytihidaeecfbngaa", sum := "f7b20bee1a53272098951c5039b2d888f311ddb1eba8745b1263b328e581e48c", func := "loop.example/g03103/laws.FnExactCompareGrowth", spec := "fnExactCompareGrowth", recurses := true, apart := false }
def FnExactCompareGrowthSaid : Prop := fnExactCompareGrowthRow.holds Try.pinned (OpenSpec.ofChange fnExactCompareGrowthSpec)

/-- ITS FALSE NEIGHBOUR: 'it returns false'. Refute it at one input. -/
def fnExactCompareGrowthWrong : ChangeSpec := { name := "fnExactCompareGrowth", fn := fun _ => fun
  | [d1, d2, d3] => { results := [.lit (.bool false)], args := [d1, d2, d3] }
  | _ => none }
def FnExactCompareGrowthWrongFalsely : Prop := fnExactCompareGrowthRow.holds Try.pinned (OpenSpec.ofChange fnExactCompareGrowthWrong)

/- THE SECOND FORM. 'bulk': how many values and letters a reading holds, each counted each time it is reached (what is shared counts as often as it is met; a slice's spare places count too). A statement '..UptoSaid' is the law's where the arguments, and the package variables that the reading takes, are together of bulk at most 1048576: NARROWER than '..Said'. Prove '..Said' where nothing that the law and all that it calls make is longer than what came in: it says more and counts as full. Else prove '..UptoSaid'. A law counts once. -/
mutual
def uptoBulk {H : Type} : DataW H → Nat
  | .lit (.string bytes) => bytes.length + 1
  | .lit _ => 1
  | .nil => 1
  | .ptr d => uptoBulk d + 1
  | .slice elems spare => uptoBulkAll elems + uptoBulkAll spare + 1
  | .agg parts => uptoBulkAll parts + 1
  | .iface _ d => uptoBulk d + 1
  | .map entries => uptoBulkEntries entries + 1
  | .held _ => 1
def uptoBulkAll {H : Type} : List (DataW H) → Nat
  | [] => 0
  | d :: r => uptoBulk d + uptoBulkAll r
def uptoBulkEntries {H : Type} : List (Lit × DataW H) → Nat
  | [] => 0
  | x :: r => uptoBulkEntry x + uptoBulkEntries r
def uptoBulkEntry {H : Type} : Lit × DataW H → Nat
  | (.string bytes, d) => bytes.length + uptoBulk d + 1
  | (_, d) => uptoBulk d + 1
 end
def uptoSmall : (H : Type) → List (DataW H) → Bool := fun _ ds => decide (uptoBulkAll ds ≤ 1048576)
def OpenSpec.upto (s : _root_.Go.ChangeSpec) : _root_.Go.OpenSpec := { _root_.Go.OpenSpec.ofChange s with cond := some uptoSmall }

/-- 'laws.FnExactPolyAt', WHERE WHAT IT READS IS OF BULK AT MOST 1048576: true; the input reads as it did. -/
def fnExactPolyAtUptoRow : OpenClaim := { program := "ytihidaeecfbngaa", sum := "f7b20bee1a53272098951c5039b2d888f311ddb1eba8745b1263b328e581e48c", func := "loop.example/g03103/laws.FnExactPolyAt", spec := "fnExactPolyAt", apart := false, narrowed := true }
def FnExactPolyAtUptoSaid : Prop := fnExactPolyAtUptoRow.holds Try.pinned (OpenSpec.upto fnExactPolyAtSpec)

/-- 'laws.FnExactMultiplyPolys', WHERE WHAT IT READS IS OF BULK AT MOST 1048576: true; the input reads as it did. -/
def fnExactMultiplyPolysUptoRow : OpenClaim := { program := "ytihidaeecfbngaa", sum := "f7b20bee1a53272098951c5039b2d888f311ddb1eba8745b1263b328e581e48c", func := "loop.example/g03103/laws.FnExactMultiplyPolys", spec := "fnExactMultiplyPolys", apart := false, narrowed := true }
def FnExactMultiplyPolysUptoSaid : Prop := fnExactMultiplyPolysUptoRow.holds Try.pinned (OpenSpec.upto fnExactMultiplyPolysSpec)

/-- 'laws.FnExactIsSmall', WHERE WHAT IT READS IS OF BULK AT MOST 1048576: true; the input reads as it did. -/
def fnExactIsSmallUptoRow : OpenClaim := { program := "ytihidaeecfbngaa", sum := "f7b20bee1a53272098951c5039b2d888f311ddb1eba8745b1263b328e581e48c", func := "loop.example/g03103/laws.FnExactIsSmall", spec := "fnExactIsSmall", apart := false, narrowed := true }
def FnExactIsSmallUptoSaid : Prop := fnExactIsSmallUptoRow.holds Try.pinned (OpenSpec.upto fnExactIsSmallSpec)

/-- 'laws.FnExactRowBounds', WHERE WHAT IT READS IS OF BULK AT MOST 1048576: true; the input reads as it did. -/
def fnExactRowBoundsUptoRow : OpenClaim := { program := "ytihidaeecfbngaa", sum := "f7b20bee1a53272098951c5039b2d888f311ddb1eba8745b1263b328e581e48c", func := "loop.example/g03103/laws.FnExactRowBounds", spec := "fnExactRowBounds", apart := false, narrowed := true }
def FnExactRowBoundsUptoSaid : Prop := fnExactRowBoundsUptoRow.holds Try.pinned (OpenSpec.upto fnExactRowBoundsSpec)

/-- 'laws.FnExactDeterminantOf', WHERE WHAT IT READS IS OF BULK AT MOST 1048576: true; the input reads as it did. -/
def fnExactDeterminantOfUptoRow : OpenClaim := { program := "ytihidaeecfbngaa", sum := "f7b20bee1a53272098951c5039b2d888f311ddb1eba8745b1263b328e581e48c", func := "loop.example/g03103/laws.FnExactDeterminantOf", spec := "fnExactDeterminantOf", recurses := true, apart := false, narrowed := true }
def FnExactDeterminantOfUptoSaid : Prop := fnExactDeterminantOfUptoRow.holds Try.pinned (OpenSpec.upto fnExactDeterminantOfSpec)

/-- 'laws.FnExactIsRootless', WHERE WHAT IT READS IS OF BULK AT MOST 1048576: true; the input reads as it did. -/
def fnExactIsRootlessUptoRow : OpenClaim := { program := "ytihidaeecfbngaa", sum := "f7b20bee1a53272098951c5039b2d888f311ddb1eba8745b1263b328e581e48c", func := "loop.example/g03103/laws.FnExactIsRootless", spec := "fnExactIsRootless", recurses := true, apart := false, narrowed := true }
def FnExactIsRootlessUptoSaid : Prop := fnExactIsRootlessUptoRow.holds Try.pinned (OpenSpec.upto fnExactIsRootlessSpec)

/-- 'laws.FnExactJoinGraphs', WHERE WHAT IT READS IS OF BULK AT MOST 1048576: true; the input reads as it did. -/
def fnExactJoinGraphsUptoRow : OpenClaim := { program := "ytihidaeecfbngaa", sum := "f7b20bee1a53272098951c5039b2d888f311ddb1eba8745b1263b328e581e48c", func := "loop.example/g03103/laws.FnExactJoinGraphs", spec := "fnExactJoinGraphs", apart := false, narrowed := true }
def FnExactJoinGraphsUptoSaid : Prop := fnExactJoinGraphsUptoRow.holds Try.pinned (OpenSpec.upto fnExactJoinGraphsSpec)

/-- 'laws.FnExactPairGraph', WHERE WHAT IT READS IS OF BULK AT MOST 1048576: true; the input reads as it did. -/
def fnExactPairGraphUptoRow : OpenClaim := { program := "ytihidaeecfbngaa", sum := "f7b20bee1a53272098951c5039b2d888f311ddb1eba8745b1263b328e581e48c", func := "loop.example/g03103/laws.FnExactPairGraph", spec := "fnExactPairGraph", apart := false, narrowed := true }
def FnExactPairGraphUptoSaid : Prop := fnExactPairGraphUptoRow.holds Try.pinned (OpenSpec.upto fnExactPairGraphSpec)

/-- 'laws.FnExactPowerGraph', WHERE WHAT IT READS IS OF BULK AT MOST 1048576: true; the input reads as it did. -/
def fnExactPowerGraphUptoRow : OpenClaim := { program := "ytihidaeecfbngaa", sum := "f7b20bee1a53272098951c5039b2d888f311ddb1eba8745b1263b328e581e48c", func := "loop.example/g03103/laws.FnExactPowerGraph", spec := "fnExactPowerGraph", apart := false, narrowed := true }
def FnExactPowerGraphUptoSaid : Prop := fnExactPowerGraphUptoRow.holds Try.pinned (OpenSpec.upto fnExactPowerGraphSpec)

/-- 'laws.FnExactBlockGraph', WHERE WHAT IT READS IS OF BULK AT MOST 1048576: true; the input reads as it did. -/
def fnExactBlockGraphUptoRow : OpenClaim := { program := "ytihidaeecfbngaa", sum := "f7b20bee1a53272098951c5039b2d888f311ddb1eba8745b1263b328e581e48c", func := "loop.example/g03103/laws.FnExactBlockGraph", spec := "fnExactBlockGraph", apart := false, narrowed := true }
def FnExactBlockGraphUptoSaid : Prop := fnExactBlockGraphUptoRow.holds Try.pinned (OpenSpec.upto fnExactBlockGraphSpec)

/-- 'laws.FnExactIsBelow', WHERE WHAT IT READS IS OF BULK AT MOST 1048576: true; the input reads as it did. -/
def fnExactIsBelowUptoRow : OpenClaim := { program := "ytihidaeecfbngaa", sum := "f7b20bee1a53272098951c5039b2d888f311ddb1eba8745b1263b328e581e48c", func := "loop.example/g03103/laws.FnExactIsBelow", spec := "fnExactIsBelow", recurses := true, apart := false, narrowed := true }
def FnExactIsBelowUptoSaid : Prop := fnExactIsBelowUptoRow.holds Try.pinned (OpenSpec.upto fnExactIsBelowSpec)

/-- 'laws.FnExactIsBlockOf', WHERE WHAT IT READS IS OF BULK AT MOST 1048576: true; the input reads as it did. -/
def fnExactIsBlockOfUptoRow : OpenClaim := { program := "ytihidaeecfbngaa", sum := "f7b20bee1a53272098951c5039b2d888f311ddb1eba8745b1263b328e581e48c", func := "loop.example/g03103/laws.FnExactIsBlockOf", spec := "fnExactIsBlockOf", unfollowed := true, recurses := true, apart := false, narrowed := true }
def FnExactIsBlockOfUptoSaid : Prop := fnExactIsBlockOfUptoRow.holds Try.pinned (OpenSpec.upto fnExactIsBlockOfSpec)

/-- 'laws.FnExactCharPoly', WHERE WHAT IT READS IS OF BULK AT MOST 1048576: true; the input reads as it did. -/
def fnExactCharPolyUptoRow : OpenClaim := { program := "ytihidaeecfbngaa", sum := "f7b20bee1a53272098951c5039b2d888f311ddb1eba8745b1263b328e581e48c", func := "loop.example/g03103/laws.FnExactCharPoly", spec := "fnExactCharPoly", recurses := true, apart := false, narrowed := true }
def FnExactCharPolyUptoSaid : Prop := fnExactCharPolyUptoRow.holds Try.pinned (OpenSpec.upto fnExactCharPolySpec)

/-- 'laws.FnExactFloorOfGrowth', WHERE WHAT IT READS IS OF BULK AT MOST 1048576: true; the input reads as it did. -/
def fnExactFloorOfGrowthUptoRow : OpenClaim := { program := "ytihidaeecfbngaa", sum := "f7b20bee1a53272098951c5039b2d888f311ddb1eba8745b1263b328e581e48c", func := "loop.example/g03103/laws.FnExactFloorOfGrowth", spec := "fnExactFloorOfGrowth", recurses := true, apart := false, narrowed := true }
def FnExactFloorOfGrowthUptoSaid : Prop := fnExactFloorOfGrowthUptoRow.holds Try.pinned (OpenSpec.upto fnExactFloorOfGrowthSpec)

/-- 'laws.FnExactIsGrowthless', WHERE WHAT IT READS IS OF BULK AT MOST 1048576: true; the input reads as it did. -/
def fnExactIsGrowthlessUptoRow : OpenClaim := { program := "ytihidaeecfbngaa", sum := "f7b20bee1a53272098951c5039b2d888f311ddb1eba8745b1263b328e581e48c", func := "loop.example/g03103/laws.FnExactIsGrowthless", spec := "fnExactIsGrowthless", apart := false, narrowed := true }
def FnExactIsGrowthlessUptoSaid : Prop := fnExactIsGrowthlessUptoRow.holds Try.pinned (OpenSpec.upto fnExactIsGrowthlessSpec)

/-- 'laws.FnExactTurnedPoly', WHERE WHAT IT READS IS OF BULK AT MOST 1048576: true; the input reads as it did. -/
def fnExactTurnedPolyUptoRow : OpenClaim := { program := "ytihidaeecfbngaa", sum := "f7b20bee1a53272098951c5039b2d888f311ddb1eba8745b1263b328e581e48c", func := "loop.example/g03103/laws.FnExactTurnedPoly", spec := "fnExactTurnedPoly", recurses := true, apart := false, narrowed := true }
def FnExactTurnedPolyUptoSaid : Prop := fnExactTurnedPolyUptoRow.holds Try.pinned (OpenSpec.upto fnExactTurnedPolySpec)

/-- 'laws.FnExactCompareGrowth', WHERE WHAT IT READS IS OF BULK AT MOST 1048576: true; the input reads as it did. -/
def fnExactCompareGrowthUptoRow : OpenClaim := { program := "ytihidaeecfbngaa", sum := "f7b20bee1a53272098951c5039b2d888f311ddb1eba8745b1263b328e581e48c", func := "loop.example/g03103/laws.FnExactCompareGrowth", spec := "fnExactCompareGrowth", recurses := true, apart := false, narrowed := true }
def FnExactCompareGrowthUptoSaid : Prop := fnExactCompareGrowthUptoRow.holds Try.pinned (OpenSpec.upto fnExactCompareGrowthSpec)

end Rows
end Go.Proofs.Ytihidaeecfbngaa
