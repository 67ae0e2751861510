/-
  No cell of these rows narrows 'for every input' (looked for: loops, veiled, ifaces, maps, wideKeys, modest, calm, conditions, laid).
  DERIVED. THE GIVEN ROWS OF THIS SEAT. 19 by the template 'for every input the law returns true; each argument reads behind the call as it read before'; 0 by the template 'total and deterministic' (their statements: YtdempmpljekehaaTotals.lean).
  GIVEN WITH THE SEED: the statements are not yours to turn. If you find one false, say at which input.
  Laid BY PROGRAM, IN A SANDBOX (cutbox-rows.mjs): the forced cells as the released guide's own fill.sh prints them over the translation 52d2e34f42b123a8… (all of the seat's roots in one cut). By AI agents, Wed Nov 11 2026. No macro, syntax, notation, axiom, sorry.
-/
import Derived.Test.YtdempmpljekehaaChecked
import GoSem.Claim
import GoSem.ClaimJoined
import GoSem.ClaimMapViews
import Derived.JoinedTies
import Derived.KernelRfl
namespace Go.Proofs.Ytdempmpljekehaa
/- THE CELL 'sum', in the pinned program and in every row, IS THE sha256 OF THE DUMP (.gsa) THAT YtdempmpljekehaaProg.lean LOADS. Nothing in Lean hashes anything: it is a label: what it is worth is what the hold of that sum in a sandbox is worth. -/
noncomputable def Try.pinned : Pinned := { name := "ytdempmpljekehaa", sum := "52d2e34f42b123a885517470eb7d61beaf24de069f8e335f86edd2a349b8d8c4", checked := Try.checked }
namespace Rows
def none {H : Type} : Left H := { results := [], args := [] }

/-- 'laws.FnExactEqualCode': WHATEVER THE INPUT: true; the input reads as it did. -/
def fnExactEqualCodeSpec : ChangeSpec := { name := "fnExactEqualCode", fn := fun _ => fun
  | [d1, d2] => { results := [.lit (.bool true)], args := [d1, d2] }
  | _ => none }
def fnExactEqualCodeRow : OpenClaim := { program := "ytdempmpljekehaa", sum := "52d2e34f42b123a885517470eb7d61beaf24de069f8e335f86edd2a349b8d8c4", func := "loop.example/g03103/laws.FnExactEqualCode", spec := "fnExactEqualCode", apart := false }
def FnExactEqualCodeSaid : Prop := fnExactEqualCodeRow.holds Try.pinned (OpenSpec.ofChange fnExactEqualCodeSpec)

/-- ITS FALSE NEIGHBOUR: 'it returns false'. Refute it at one input. -/
def fnExactEqualCodeWrong : ChangeSpec := { name := "fnExactEqualCode", fn := fun _ => fun
  | [d1, d2] => { results := [.lit (.bool false)], args := [d1, d2] }
  | _ => none }
def FnExactEqualCodeWrongFalsely : Prop := fnExactEqualCodeRow.holds Try.pinned (OpenSpec.ofChange fnExactEqualCodeWrong)

/-- 'laws.FnExactIsCode': WHATEVER THE INPUT: true; the input reads as it did. -/
def fnExactIsCodeSpec : ChangeSpec := { name := "fnExactIsCode", fn := fun _ => fun
  | [d] => { results := [.lit (.bool true)], args := [d] }
  | _ => none }
def fnExactIsCodeRow : OpenClaim := { program := "ytdempmpljekehaa", sum := "52d2e34f42b123a885517470eb7d61beaf24de069f8e335f86edd2a349b8d8c4", func := "loop.example/g03103/laws.FnExactIsCode", spec := "fnExactIsCode", apart := false }
def FnExactIsCodeSaid : Prop := fnExactIsCodeRow.holds Try.pinned (OpenSpec.ofChange fnExactIsCodeSpec)

/-- ITS FALSE NEIGHBOUR: 'it returns false'. Refute it at one input. -/
def fnExactIsCodeWrong : ChangeSpec := { name := "fnExactIsCode", fn := fun _ => fun
  | [d] => { results := [.lit (.bool false)], args := [d] }
  | _ => none }
def FnExactIsCodeWrongFalsely : Prop := fnExactIsCodeRow.holds Try.pinned (OpenSpec.ofChange fnExactIsCodeWrong)

/-- 'laws.FnExactCopyCode': WHATEVER THE INPUT: true; the input reads as it did. -/
def fnExactCopyCodeSpec : ChangeSpec := { name := "fnExactCopyCode", fn := fun _ => fun
  | [d1, d2, d3] => { results := [.lit (.bool true)], args := [d1, d2, d3] }
  | _ => none }
def fnExactCopyCodeRow : OpenClaim := { program := "ytdempmpljekehaa", sum := "52d2e34f42b123a885517470eb7d61beaf24de069f8e335f86edd2a349b8d8c4", func := "loop.example/g03103/laws.FnExactCopyCode", spec := "fnExactCopyCode", unfollowed := true, recurses := true, apart := false }
def FnExactCopyCodeSaid : Prop := fnExactCopyCodeRow.holds Try.pinned (OpenSpec.ofChange fnExactCopyCodeSpec)

/-- ITS FALSE NEIGHBOUR: 'it returns false'. Refute it at one input. -/
def fnExactCopyCodeWrong : ChangeSpec := { name := "fnExactCopyCode", fn := fun _ => fun
  | [d1, d2, d3] => { results := [.lit (.bool false)], args := [d1, d2, d3] }
  | _ => none }
def FnExactCopyCodeWrongFalsely : Prop := fnExactCopyCodeRow.holds Try.pinned (OpenSpec.ofChange fnExactCopyCodeWrong)

/-- 'laws.FnUndone': WHATEVER THE INPUT: true; the input reads as it did. -/
def fnUndoneSpec : ChangeSpec := { name := "fnUndone", fn := fun _ => fun
  | [d] => { results := [.lit (.bool true)], args := [d] }
  | _ => none }
def fnUndoneRow : OpenClaim := { program := "ytdempmpljekehaa", sum := "52d2e34f42b123a885517470eb7d61beaf24de069f8e335f86edd2a349b8d8c4", func := "loop.example/g03103/laws.FnUndone", spec := "fnUndone", inPlace := ["internal/abi.NoEscape", "internal/bytealg.MakeNoZero"], apart := false }
def FnUndoneSaid : Prop := fnUndoneRow.holds Try.pinned (OpenSpec.ofChange fnUndoneSpec)

/-- ITS FALSE NEIGHBOUR: 'it returns false'. Refute it at one input. -/
def fnUndoneWrong : ChangeSpec := { name := "fnUndone", fn := fun _ => fun
  | [d] => { results := [.lit (.bool false)], args := [d] }
  | _ => none }
def FnUndoneWrongFalsely : Prop := fnUndoneRow.holds Try.pinned (OpenSpec.ofChange fnUndoneWrong)

/-- 'laws.FnExactApplyCode': WHATEVER THE INPUT: true; the input reads as it did. -/
def fnExactApplyCodeSpec : ChangeSpec := { name := "fnExactApplyCode", fn := fun _ => fun
  | [d1, d2] => { results := [.lit (.bool true)], args := [d1, d2] }
  | _ => none }
def fnExactApplyCodeRow : OpenClaim := { program := "ytdempmpljekehaa", sum := "52d2e34f42b123a885517470eb7d61beaf24de069f8e335f86edd2a349b8d8c4", func := "loop.example/g03103/laws.FnExactApplyCode", spec := "fnExactApplyCode", apart := false }
def FnExactApplyCodeSaid : Prop := fnExactApplyCodeRow.holds Try.pinned (OpenSpec.ofChange fnExactApplyCodeSpec)

/-- ITS FALSE NEIGHBOUR: 'it returns false'. Refute it at one input. -/
def fnExactApplyCodeWrong : ChangeSpec := { name := "fnExactApplyCode", fn := fun _ => fun
  | [d1, d2] => { results := [.lit (.bool false)], args := [d1, d2] }
  | _ => none }
def FnExactApplyCodeWrongFalsely : Prop := fnExactApplyCodeRow.holds Try.pinned (OpenSpec.ofChange fnExactApplyCodeWrong)

/-- 'laws.FnExactIsPermutive': WHATEVER THE INPUT: true; the input reads as it did. -/
def fnExactIsPermutiveSpec : ChangeSpec := { name := "fnExactIsPermutive", fn := fun _ => fun
  | [d1, d2] => { results := [.lit (.bool true)], args := [d1, d2] }
  | _ => none }
def fnExactIsPermutiveRow : OpenClaim := { program := "ytdempmpljekehaa", sum := "52d2e34f42b123a885517470eb7d61beaf24de069f8e335f86edd2a349b8d8c4", func := "loop.example/g03103/laws.FnExactIsPermutive", spec := "fnExactIsPermutive", apart := false }
def FnExactIsPermutiveSaid : Prop := fnExactIsPermutiveRow.holds Try.pinned (OpenSpec.ofChange fnExactIsPermutiveSpec)

/-- ITS FALSE NEIGHBOUR: 'it returns false'. Refute it at one input. -/
def fnExactIsPermutiveWrong : ChangeSpec := { name := "fnExactIsPermutive", fn := fun _ => fun
  | [d1, d2] => { results := [.lit (.bool false)], args := [d1, d2] }
  | _ => none }
def FnExactIsPermutiveWrongFalsely : Prop := fnExactIsPermutiveRow.holds Try.pinned (OpenSpec.ofChange fnExactIsPermutiveWrong)

/-- 'laws.FnExactIsOnto': WHATEVER THE INPUT: true; the input reads as it did. -/
def fnExactIsOntoSpec : ChangeSpec := { name := "fnExactIsOnto", fn := fun _ => fun
  | [d] => { results := [.lit (.bool true)], args := [d] }
  | _ => none }
def fnExactIsOntoRow : OpenClaim := { program := "ytdempmpljekehaa", sum := "52d2e34f42b123a885517470eb7d61beaf24de069f8e335f86edd2a349b8d8c4", func := "loop.example/g03103/laws.FnExactIsOnto", spec := "fnExactIsOnto", apart := false }
def FnExactIsOntoSaid : Prop := fnExactIsOntoRow.holds Try.pinned (OpenSpec.ofChange fnExactIsOntoSpec)

/-- ITS FALSE NEIGHBOUR: 'it returns false'. Refute it at one input. -/
def fnExactIsOntoWrong : ChangeSpec := { name := "fnExactIsOnto", fn := fun _ => fun
  | [d] => { results := [.lit (.bool false)], args := [d] }
  | _ => none }
def FnExactIsOntoWrongFalsely : Prop := fnExactIsOntoRow.holds Try.pinned (OpenSpec.ofChange fnExactIsOntoWrong)

/-- 'laws.FnExactFirstSource': WHATEVER THE INPUT: true; the input reads as it did. -/
def fnExactFirstSourceSpec : ChangeSpec := { name := "fnExactFirstSource", fn := fun _ => fun
  | [d1, d2] => { results := [.lit (.bool true)], args := [d1, d2] }
  | _ => none }
def fnExactFirstSourceRow : OpenClaim := { program := "ytdempmpljekehaa", sum := "52d2e34f42b123a885517470eb7d61beaf24de069f8e335f86edd2a349b8d8c4", func := "loop.example/g03103/laws.FnExactFirstSource", spec := "fnExactFirstSource", recurses := true, apart := false }
def FnExactFirstSourceSaid : Prop := fnExactFirstSourceRow.holds Try.pinned (OpenSpec.ofChange fnExactFirstSourceSpec)

/-- ITS FALSE NEIGHBOUR: 'it returns false'. Refute it at one input. -/
def fnExactFirstSourceWrong : ChangeSpec := { name := "fnExactFirstSource", fn := fun _ => fun
  | [d1, d2] => { results := [.lit (.bool false)], args := [d1, d2] }
  | _ => none }
def FnExactFirstSourceWrongFalsely : Prop := fnExactFirstSourceRow.holds Try.pinned (OpenSpec.ofChange fnExactFirstSourceWrong)

/-- 'laws.FnExactCountSources': WHATEVER THE INPUT: true; the input reads as it did. -/
def fnExactCountSourcesSpec : ChangeSpec := { name := "fnExactCountSources", fn := fun _ => fun
  | [d1, d2] => { results := [.lit (.bool true)], args := [d1, d2] }
  | _ => none }
def fnExactCountSourcesRow : OpenClaim := { program := "ytdempmpljekehaa", sum := "52d2e34f42b123a885517470eb7d61beaf24de069f8e335f86edd2a349b8d8c4", func := "loop.example/g03103/laws.FnExactCountSources", spec := "fnExactCountSources", apart := false }
def FnExactCountSourcesSaid : Prop := fnExactCountSourcesRow.holds Try.pinned (OpenSpec.ofChange fnExactCountSourcesSpec)

/-- ITS FALSE NEIGHBOUR: 'it returns false'. Refute it at one input. -/
def fnExactCountSourcesWrong : ChangeSpec := { name := "fnExactCountSources", fn := fun _ => fun
  | [d1, d2] => { results := [.lit (.bool false)], args := [d1, d2] }
  | _ => none }
def FnExactCountSourcesWrongFalsely : Prop := fnExactCountSourcesRow.holds Try.pinned (OpenSpec.ofChange fnExactCountSourcesWrong)

/-- 'laws.FnExactFirstOrphan': WHATEVER THE INPUT: true; the input reads as it did. -/
def fnExactFirstOrphanSpec : ChangeSpec := { name := "fnExactFirstOrphan", fn := fun _ => fun
  | [d] => { results := [.lit (.bool true)], args := [d] }
  | _ => none }
def fnExactFirstOrphanRow : OpenClaim := { program := "ytdempmpljekehaa", sum := "52d2e34f42b123a885517470eb7d61beaf24de069f8e335f86edd2a349b8d8c4", func := "loop.example/g03103/laws.FnExactFirstOrphan", spec := "fnExactFirstOrphan", apart := false }
def FnExactFirstOrphanSaid : Prop := fnExactFirstOrphanRow.holds Try.pinned (OpenSpec.ofChange fnExactFirstOrphanSpec)

/-- ITS FALSE NEIGHBOUR: 'it returns false'. Refute it at one input. -/
def fnExactFirstOrphanWrong : ChangeSpec := { name := "fnExactFirstOrphan", fn := fun _ => fun
  | [d] => { results := [.lit (.bool false)], args := [d] }
  | _ => none }
def FnExactFirstOrphanWrongFalsely : Prop := fnExactFirstOrphanRow.holds Try.pinned (OpenSpec.ofChange fnExactFirstOrphanWrong)

/-- 'laws.FnExactComposeCodes': WHATEVER THE INPUT: true; the input reads as it did. -/
def fnExactComposeCodesSpec : ChangeSpec := { name := "fnExactComposeCodes", fn := fun _ => fun
  | [d1, d2] => { results := [.lit (.bool true)], args := [d1, d2] }
  | _ => none }
def fnExactComposeCodesRow : OpenClaim := { program := "ytdempmpljekehaa", sum := "52d2e34f42b123a885517470eb7d61beaf24de069f8e335f86edd2a349b8d8c4", func := "loop.example/g03103/laws.FnExactComposeCodes", spec := "fnExactComposeCodes", unfollowed := true, recurses := true, apart := false }
def FnExactComposeCodesSaid : Prop := fnExactComposeCodesRow.holds Try.pinned (OpenSpec.ofChange fnExactComposeCodesSpec)

/-- ITS FALSE NEIGHBOUR: 'it returns false'. Refute it at one input. -/
def fnExactComposeCodesWrong : ChangeSpec := { name := "fnExactComposeCodes", fn := fun _ => fun
  | [d1, d2] => { results := [.lit (.bool false)], args := [d1, d2] }
  | _ => none }
def FnExactComposeCodesWrongFalsely : Prop := fnExactComposeCodesRow.holds Try.pinned (OpenSpec.ofChange fnExactComposeCodesWrong)

/-- 'laws.FnExactTwinsOf': WHATEVER THE INPUT: true; the input reads as it did. -/
def fnExactTwinsOfSpec : ChangeSpec := { name := "fnExactTwinsOf", fn := fun _ => fun
  | [d] => { results := [.lit (.bool true)], args := [d] }
  | _ => none }
def fnExactTwinsOfRow : OpenClaim := { program := "ytdempmpljekehaa", sum := "52d2e34f42b123a885517470eb7d61beaf24de069f8e335f86edd2a349b8d8c4", func := "loop.example/g03103/laws.FnExactTwinsOf", spec := "fnExactTwinsOf", apart := false }
def FnExactTwinsOfSaid : Prop := fnExactTwinsOfRow.holds Try.pinned (OpenSpec.ofChange fnExactTwinsOfSpec)

/-- ITS FALSE NEIGHBOUR: 'it returns false'. Refute it at one input. -/
def fnExactTwinsOfWrong : ChangeSpec := { name := "fnExactTwinsOf", fn := fun _ => fun
  | [d] => { results := [.lit (.bool false)], args := [d] }
  | _ => none }
def FnExactTwinsOfWrongFalsely : Prop := fnExactTwinsOfRow.holds Try.pinned (OpenSpec.ofChange fnExactTwinsOfWrong)

/-- 'laws.FnExactIsBalanced': WHATEVER THE INPUT: true; the input reads as it did. -/
def fnExactIsBalancedSpec : ChangeSpec := { name := "fnExactIsBalanced", fn := fun _ => fun
  | [d1, d2] => { results := [.lit (.bool true)], args := [d1, d2] }
  | _ => none }
def fnExactIsBalancedRow : OpenClaim := { program := "ytdempmpljekehaa", sum := "52d2e34f42b123a885517470eb7d61beaf24de069f8e335f86edd2a349b8d8c4", func := "loop.example/g03103/laws.FnExactIsBalanced", spec := "fnExactIsBalanced", apart := false }
def FnExactIsBalancedSaid : Prop := fnExactIsBalancedRow.holds Try.pinned (OpenSpec.ofChange fnExactIsBalancedSpec)

/-- ITS FALSE NEIGHBOUR: 'it returns false'. Refute it at one input. -/
def fnExactIsBalancedWrong : ChangeSpec := { name := "fnExactIsBalanced", fn := fun _ => fun
  | [d1, d2] => { results := [.lit (.bool false)], args := [d1, d2] }
  | _ => none }
def FnExactIsBalancedWrongFalsely : Prop := fnExactIsBalancedRow.holds Try.pinned (OpenSpec.ofChange fnExactIsBalancedWrong)

/-- 'laws.FnExactIsOneToOne': WHATEVER THE INPUT: true; the input reads as it did. -/
def fnExactIsOneToOneSpec : ChangeSpec := { name := "fnExactIsOneToOne", fn := fun _ => fun
  | [d] => { results := [.lit (.bool true)], args := [d] }
  | _ => none }
def fnExactIsOneToOneRow : OpenClaim := { program := "ytdempmpljekehaa", sum := "52d2e34f42b123a885517470eb7d61beaf24de069f8e335f86edd2a349b8d8c4", func := "loop.example/g03103/laws.FnExactIsOneToOne", spec := "fnExactIsOneToOne", apart := false }
def FnExactIsOneToOneSaid : Prop := fnExactIsOneToOneRow.holds Try.pinned (OpenSpec.ofChange fnExactIsOneToOneSpec)

/-- ITS FALSE NEIGHBOUR: 'it returns false'. Refute it at one input. -/
def fnExactIsOneToOneWrong : ChangeSpec := { name := "fnExactIsOneToOne", fn := fun _ => fun
  | [d] => { results := [.lit (.bool false)], args := [d] }
  | _ => none }
def FnExactIsOneToOneWrongFalsely : Prop := fnExactIsOneToOneRow.holds Try.pinned (OpenSpec.ofChange fnExactIsOneToOneWrong)

/-- 'laws.FnExactUndoingCode': WHATEVER THE INPUT: true; the input reads as it did. -/
def fnExactUndoingCodeSpec : ChangeSpec := { name := "fnExactUndoingCode", fn := fun _ => fun
  | [d1, d2] => { results := [.lit (.bool true)], args := [d1, d2] }
  | _ => none }
def fnExactUndoingCodeRow : OpenClaim := { program := "ytdempmpljekehaa", sum := "52d2e34f42b123a885517470eb7d61beaf24de069f8e335f86edd2a349b8d8c4", func := "loop.example/g03103/laws.FnExactUndoingCode", spec := "fnExactUndoingCode", apart := false }
def FnExactUndoingCodeSaid : Prop := fnExactUndoingCodeRow.holds Try.pinned (OpenSpec.ofChange fnExactUndoingCodeSpec)

/-- ITS FALSE NEIGHBOUR: 'it returns false'. Refute it at one input. -/
def fnExactUndoingCodeWrong : ChangeSpec := { name := "fnExactUndoingCode", fn := fun _ => fun
  | [d1, d2] => { results := [.lit (.bool false)], args := [d1, d2] }
  | _ => none }
def FnExactUndoingCodeWrongFalsely : Prop := fnExactUndoingCodeRow.holds Try.pinned (OpenSpec.ofChange fnExactUndoingCodeWrong)

/-- 'laws.FnExactLeastUndoing': WHATEVER THE INPUT: true; the input reads as it did. -/
def fnExactLeastUndoingSpec : ChangeSpec := { name := "fnExactLeastUndoing", fn := fun _ => fun
  | [d] => { results := [.lit (.bool true)], args := [d] }
  | _ => none }
def fnExactLeastUndoingRow : OpenClaim := { program := "ytdempmpljekehaa", sum := "52d2e34f42b123a885517470eb7d61beaf24de069f8e335f86edd2a349b8d8c4", func := "loop.example/g03103/laws.FnExactLeastUndoing", spec := "fnExactLeastUndoing", apart := false }
def FnExactLeastUndoingSaid : Prop := fnExactLeastUndoingRow.holds Try.pinned (OpenSpec.ofChange fnExactLeastUndoingSpec)

/-- ITS FALSE NEIGHBOUR: 'it returns false'. Refute it at one input. -/
def fnExactLeastUndoingWrong : ChangeSpec := { name := "fnExactLeastUndoing", fn := fun _ => fun
  | [d] => { results := [.lit (.bool false)], args := [d] }
  | _ => none }
def FnExactLeastUndoingWrongFalsely : Prop := fnExactLeastUndoingRow.holds Try.pinned (OpenSpec.ofChange fnExactLeastUndoingWrong)

/-- 'laws.FnExactApplyRing': WHATEVER THE INPUT: true; the input reads as it did. -/
def fnExactApplyRingSpec : ChangeSpec := { name := "fnExactApplyRing", fn := fun _ => fun
  | [d1, d2] => { results := [.lit (.bool true)], args := [d1, d2] }
  | _ => none }
def fnExactApplyRingRow : OpenClaim := { program := "ytdempmpljekehaa", sum := "52d2e34f42b123a885517470eb7d61beaf24de069f8e335f86edd2a349b8d8c4", func := "loop.example/g03103/laws.FnExactApplyRing", spec := "fnExactApplyRing", inPlace := ["internal/abi.NoEscape", "internal/bytealg.MakeNoZero"], apart := false }
def FnExactApplyRingSaid : Prop := fnExactApplyRingRow.holds Try.pinned (OpenSpec.ofChange fnExactApplyRingSpec)

/-- ITS FALSE NEIGHBOUR: 'it returns false'. Refute it at one input. -/
def fnExactApplyRingWrong : ChangeSpec := { name := "fnExactApplyRing", fn := fun _ => fun
  | [d1, d2] => { results := [.lit (.bool false)], args := [d1, d2] }
  | _ => none }
def FnExactApplyRingWrongFalsely : Prop := fnExactApplyRingRow.holds Try.pinned (OpenSpec.ofChange fnExactApplyRingWrong)

/-- 'laws.FnExactSameOnRings': WHATEVER THE INPUT: true; the input reads as it did. -/
def fnExactSameOnRingsSpec : ChangeSpec := { name := "fnExactSameOnRings", fn := fun _ => fun
  | [d1, d2, d3] => { results := [.lit (.bool true)], args := [d1, d2, d3] }
  | _ => none }
def fnExactSameOnRingsRow : OpenClaim := { program := "ytdempmpljekehaa", sum := "52d2e34f42b123a885517470eb7d61beaf24de069f8e335f86edd2a349b8d8c4", func := "loop.example/g03103/laws.FnExactSameOnRings", spec := "fnExactSameOnRings", inPlace := ["internal/abi.NoEscape", "internal/bytealg.MakeNoZero"], apart := false }
def FnExactSameOnRingsSaid : Prop := fnExactSameOnRingsRow.holds Try.pinned (OpenSpec.ofChange fnExactSameOnRingsSpec)

/-- ITS FALSE NEIGHBOUR: 'it returns false'. Refute it at one input. -/
def fnExactSameOnRingsWrong : ChangeSpec := { name := "fnExactSameOnRings", fn := fun _ => fun
  | [d1, d2, d3] => { results := [.lit (.bool false)], args := [d1, d2, d3] }
  | _ => none }
def FnExactSameOnRingsWrongFalsely : Prop := fnExactSameOnRingsRow.holds Try.pinned (OpenSpec.ofChange fnExactSameOnRingsWrong)

/-- 'laws.FnOnto': WHATEVER THE INPUT: true; the input reads as it did. -/
def fnOntoSpec : ChangeSpec := { name := "fnOnto", fn := fun _ => fun
  | [d] => { results := [.lit (.bool true)], args := [d] }
  | _ => none }
def fnOntoRow : OpenClaim := { program := "ytdempmpljekehaa", sum := "52d2e34f42b123a885517470eb7d61beaf24de069f8e335f86edd2a349b8d8c4", func := "loop.example/g03103/laws.FnOnto", spec := "fnOnto", recurses := true, apart := false }
def FnOntoSaid : Prop := fnOntoRow.holds Try.pinned (OpenSpec.ofChange fnOntoSpec)

/-- ITS FALSE NEIGHBOUR: 'it returns false'. Refute it at one input. -/
def fnOntoWrong : ChangeSpec := { name := "fnOnto", fn := fun _ => fun
  | [d] => { results := [.lit (.bool false)], args := [d] }
  | _ => none }
def FnOntoWrongFalsely : Prop := fnOntoRow.holds Try.pinned (OpenSpec.ofChange fnOntoWrong)

/- THE SECOND FORM. 'bulk': how many values and letters a reading holds, each counted each time it is reached (what is shared counts as often as it is met; a slice's spare places count too). A statement '..UptoSaid' is the law's where the arguments, and the package variables that the reading takes, are together of bulk at most 1048576: NARROWER than '..Said'. Prove '..Said' where nothing that the law and all that it calls make is longer than what came in: it says more and counts as full. Else prove '..UptoSaid'. A law counts once. -/
mutual
def uptoBulk {H : Type} : DataW H → Nat
  | .lit (.string bytes) => bytes.length + 1
  | .lit _ => 1
  | .nil => 1
  | .ptr d => uptoBulk d + 1
  | .slice elems spare => uptoBulkAll elems + uptoBulkAll spare + 1
  | .agg parts => uptoBulkAll parts + 1
  | .iface _ d => uptoBulk d + 1
  | .map entries => uptoBulkEntries entries + 1
  | .held _ => 1
def uptoBulkAll {H : Type} : List (DataW H) → Nat
  | [] => 0
  | d :: r => uptoBulk d + uptoBulkAll r
def uptoBulkEntries {H : Type} : List (Lit × DataW H) → Nat
  | [] => 0
  | x :: r => uptoBulkEntry x + uptoBulkEntries r
def uptoBulkEntry {H : Type} : Lit × DataW H → Nat
  | (.string bytes, d) => bytes.length + uptoBulk d + 1
  | (_, d) => uptoBulk d + 1
 end
def uptoSmall : (H : Type) → List (DataW H) → Bool := fun _ ds => decide (uptoBulkAll ds ≤ 1048576)
def OpenSpec.upto (s : _root_.Go.ChangeSpec) : _root_.Go.OpenSpec := { _root_.Go.OpenSpec.ofChange s with cond := some uptoSmall }

/-- 'laws.FnExactEqualCode', WHERE WHAT IT READS IS OF BULK AT MOST 1048576: true; the input reads as it did. -/
def fnExactEqualCodeUptoRow : OpenClaim := { program := "ytdempmpljekehaa", sum := "52d2e34f42b123a885517470eb7d61beaf24de069f8e335f86edd2a349b8d8c4", func := "loop.example/g03103/laws.FnExactEqualCode", spec := "fnExactEqualCode", apart := false, narrowed := true }
def FnExactEqualCodeUptoSaid : Prop := fnExactEqualCodeUptoRow.holds Try.pinned (OpenSpec.upto fnExactEqualCodeSpec)

/-- 'laws.FnExactIsCode', WHERE WHAT IT READS IS OF BULK AT MOST 1048576: true; the input reads as it did. -/
def fnExactIsCodeUptoRow : OpenClaim := { program := "ytdempmpljekehaa", sum := "52d2e34f42b123a885517470eb7d61beaf24de069f8e335f86edd2a349b8d8c4", func := "loop.example/g03103/laws.FnExactIsCode", spec := "fnExactIsCode", apart := false, narrowed := true }
def FnExactIsCodeUptoSaid : Prop := fnExactIsCodeUptoRow.holds Try.pinned (OpenSpec.upto fnExactIsCodeSpec)

/-- 'laws.FnExactCopyCode', WHERE WHAT IT READS IS OF BULK AT MOST 1048576: true; the input reads as it did. -/
def fnExactCopyCodeUptoRow : OpenClaim := { program := "ytdempmpljekehaa", sum := "52d2e34f42b123a885517470eb7d61beaf24de069f8e335f86edd2a349b8d8c4", func := "loop.example/g03103/laws.FnExactCopyCode", spec := "fnExactCopyCode", unfollowed := true, recurses := true, apart := false, narrowed := true }
def FnExactCopyCodeUptoSaid : Prop := fnExactCopyCodeUptoRow.holds Try.pinned (OpenSpec.upto fnExactCopyCodeSpec)

/-- 'laws.FnUndone', WHERE WHAT IT READS IS OF BULK AT MOST 1048576: true; the input reads as it did. -/
def fnUndoneUptoRow : OpenClaim := { program := "ytdempmpljekehaa", sum := "52d2e34f42b123a885517470eb7d61beaf24de069f8e335f86edd2a349b8d8c4", func := "loop.example/g03103/laws.FnUndone", spec := "fnUndone", inPlace := ["internal/abi.NoEscape", "internal/bytealg.MakeNoZero"], apart := false, narrowed := true }
def FnUndoneUptoSaid : Prop := fnUndoneUptoRow.holds Try.pinned (OpenSpec.upto fnUndoneSpec)

/-- 'laws.FnExactApplyCode', WHERE WHAT IT READS IS OF BULK AT MOST 1048576: true; the input reads as it did. -/
def fnExactApplyCodeUptoRow : OpenClaim := { program := "ytdempmpljekehaa", sum := "52d2e34f42b123a885517470eb7d61beaf24de069f8e335f86edd2a349b8d8c4", func := "loop.example/g03103/laws.FnExactApplyCode", spec := "fnExactApplyCode", apart := false, narrowed := true }
def FnExactApplyCodeUptoSaid : Prop := fnExactApplyCodeUptoRow.holds Try.pinned (OpenSpec.upto fnExactApplyCodeSpec)

/-- 'laws.FnExactIsPermutive', WHERE WHAT IT READS IS OF BULK AT MOST 1048576: true; the input reads as it did. -/
def fnExactIsPermutiveUptoRow : OpenClaim := { program := "ytdempmpljekehaa", sum := "52d2e34f42b123a885517470eb7d61beaf24de069f8e335f86edd2a349b8d8c4", func := "loop.example/g03103/laws.FnExactIsPermutive", spec := "fnExactIsPermutive", apart := false, narrowed := true }
def FnExactIsPermutiveUptoSaid : Prop := fnExactIsPermutiveUptoRow.holds Try.pinned (OpenSpec.upto fnExactIsPermutiveSpec)

/-- 'laws.FnExactIsOnto', WHERE WHAT IT READS IS OF BULK AT MOST 1048576: true; the input reads as it did. -/
def fnExactIsOntoUptoRow : OpenClaim := { program := "ytdempmpljekehaa", sum := "52d2e34f42b123a885517470eb7d61beaf24de069f8e335f86edd2a349b8d8c4", func := "loop.example/g03103/laws.FnExactIsOnto", spec := "fnExactIsOnto", apart := false, narrowed := true }
def FnExactIsOntoUptoSaid : Prop := fnExactIsOntoUptoRow.holds Try.pinned (OpenSpec.upto fnExactIsOntoSpec)

/-- 'laws.FnExactFirstSource', WHERE WHAT IT READS IS OF BULK AT MOST 1048576: true; the input reads as it did. -/
def fnExactFirstSourceUptoRow : OpenClaim := { program := "ytdempmpljekehaa", sum := "52d2e34f42b123a885517470eb7d61beaf24de069f8e335f86edd2a349b8d8c4", func := "loop.example/g03103/laws.FnExactFirstSource", spec := "fnExactFirstSource", recurses := true, apart := false, narrowed := true }
def FnExactFirstSourceUptoSaid : Prop := fnExactFirstSourceUptoRow.holds Try.pinned (OpenSpec.upto fnExactFirstSourceSpec)

/-- 'laws.FnExactCountSources', WHERE WHAT IT READS IS OF BULK AT MOST 1048576: true; the input reads as it did. -/
def fnExactCountSourcesUptoRow : OpenClaim := { program := "ytdempmpljekehaa", sum := "52d2e34f42b123a885517470eb7d61beaf24de069f8e335f86edd2a349b8d8c4", func := "loop.example/g03103/laws.FnExactCountSources", spec := "fnExactCountSources", apart := false, narrowed := true }
def FnExactCountSourcesUptoSaid : Prop := fnExactCountSourcesUptoRow.holds Try.pinned (OpenSpec.upto fnExactCountSourcesSpec)

/-- 'laws.FnExactFirstOrphan', WHERE WHAT IT READS IS OF BULK AT MOST 1048576: true; the input reads as it did. -/
def fnExactFirstOrphanUptoRow : OpenClaim := { program := "ytdempmpljekehaa", sum := "52d2e34f42b123a885517470eb7d61beaf24de069f8e335f86edd2a349b8d8c4", func := "loop.example/g03103/laws.FnExactFirstOrphan", spec := "fnExactFirstOrphan", apart := false, narrowed := true }
def FnExactFirstOrphanUptoSaid : Prop := fnExactFirstOrphanUptoRow.holds Try.pinned (OpenSpec.upto fnExactFirstOrphanSpec)

/-- 'laws.FnExactComposeCodes', WHERE WHAT IT READS IS OF BULK AT MOST 1048576: true; the input reads as it did. -/
def fnExactComposeCodesUptoRow : OpenClaim := { program := "ytdempmpljekehaa", sum := "52d2e34f42b123a885517470eb7d61beaf24de069f8e335f86edd2a349b8d8c4", func := "loop.example/g03103/laws.FnExactComposeCodes", spec := "fnExactComposeCodes", unfollowed := true, recurses := true, apart := false, narrowed := true }
def FnExactComposeCodesUptoSaid : Prop := fnExactComposeCodesUptoRow.holds Try.pinned (OpenSpec.upto fnExactComposeCodesSpec)

/-- 'laws.FnExactTwinsOf', WHERE WHAT IT READS IS OF BULK AT MOST 1048576: true; the input reads as it did. -/
def fnExactTwinsOfUptoRow : OpenClaim := { program := "ytdempmpljekehaa", sum := "52d2e34f42b123a885517470eb7d61beaf24de069f8e335f86edd2a349b8d8c4", func := "loop.example/g03103/laws.FnExactTwinsOf", spec := "fnExactTwinsOf", apart := false, narrowed := true }
def FnExactTwinsOfUptoSaid : Prop := fnExactTwinsOfUptoRow.holds Try.pinned (OpenSpec.upto fnExactTwinsOfSpec)

/-- 'laws.FnExactIsBalanced', WHERE WHAT IT READS IS OF BULK AT MOST 1048576: true; the input reads as it did. -/
def fnExactIsBalancedUptoRow : OpenClaim := { program := "ytdempmpljekehaa", sum := "52d2e34f42b123a885517470eb7d61beaf24de069f8e335f86edd2a349b8d8c4", func := "loop.example/g03103/laws.FnExactIsBalanced", spec := "fnExactIsBalanced", apart := false, narrowed := true }
def FnExactIsBalancedUptoSaid : Prop := fnExactIsBalancedUptoRow.holds Try.pinned (OpenSpec.upto fnExactIsBalancedSpec)

/-- 'laws.FnExactIsOneToOne', WHERE WHAT IT READS IS OF BULK AT MOST 1048576: true; the input reads as it did. -/
def fnExactIsOneToOneUptoRow : OpenClaim := { program := "ytdempmpljekehaa", sum := "52d2e34f42b123a885517470eb7d61beaf24de069f8e335f86edd2a349b8d8c4", func := "loop.example/g03103/laws.FnExactIsOneToOne", spec := "fnExactIsOneToOne", apart := false, narrowed := true }
def FnExactIsOneToOneUptoSaid : Prop := fnExactIsOneToOneUptoRow.holds Try.pinned (OpenSpec.upto fnExactIsOneToOneSpec)

/-- 'laws.FnExactUndoingCode', WHERE WHAT IT READS IS OF BULK AT MOST 1048576: true; the input reads as it did. -/
def fnExactUndoingCodeUptoRow : OpenClaim := { program := "ytdempmpljekehaa", sum := "52d2e34f42b123a885517470eb7d61beaf24de069f8e335f86edd2a349b8d8c4", func := "loop.example/g03103/laws.FnExactUndoingCode", spec := "fnExactUndoingCode", apart := false, narrowed := true }
def FnExactUndoingCodeUptoSaid : Prop := fnExactUndoingCodeUptoRow.holds Try.pinned (OpenSpec.upto fnExactUndoingCodeSpec)

/-- 'laws.FnExactLeastUndoing', WHERE WHAT IT READS IS OF BULK AT MOST 1048576: true; the input reads as it did. -/
def fnExactLeastUndoingUptoRow : OpenClaim := { program := "ytdempmpljekehaa", sum := "52d2e34f42b123a885517470eb7d61beaf24de069f8e335f86edd2a349b8d8c4", func := "loop.example/g03103/laws.FnExactLeastUndoing", spec := "fnExactLeastUndoing", apart := false, narrowed := true }
def FnExactLeastUndoingUptoSaid : Prop := fnExactLeastUndoingUptoRow.holds Try.pinned (OpenSpec.upto fnExactLeastUndoingSpec)

/-- 'laws.FnExactApplyRing', WHERE WHAT IT READS IS OF BULK AT MOST 1048576: true; the input reads as it did. -/
def fnExactApplyRingUptoRow : OpenClaim := { program := "ytdempmpljekehaa", sum := "52d2e34f42b123a885517470eb7d61beaf24de069f8e335f86edd2a349b8d8c4", func := "loop.example/g03103/laws.FnExactApplyRing", spec := "fnExactApplyRing", inPlace := ["internal/abi.NoEscape", "internal/bytealg.MakeNoZero"], apart := false, narrowed := true }
def FnExactApplyRingUptoSaid : Prop := fnExactApplyRingUptoRow.holds Try.pinned (OpenSpec.upto fnExactApplyRingSpec)

/-- 'laws.FnExactSameOnRings', WHERE WHAT IT READS IS OF BULK AT MOST 1048576: true; the input reads as it did. -/
def fnExactSameOnRingsUptoRow : OpenClaim := { program := "ytdempmpljekehaa", sum := "52d2e34f42b123a885517470eb7d61beaf24de069f8e335f86edd2a349b8d8c4", func := "loop.example/g03103/laws.FnExactSameOnRings", spec := "fnExactSameOnRings", inPlace := ["internal/abi.NoEscape", "internal/bytealg.MakeNoZero"], apart := false, narrowed := true }
def FnExactSameOnRingsUptoSaid : Prop := fnExactSameOnRingsUptoRow.holds Try.pinned (OpenSpec.upto fnExactSameOnRingsSpec)

/-- 'laws.FnOnto', WHERE WHAT IT READS IS OF BULK AT MOST 1048576: true; the input reads as it did. -/
def fnOntoUptoRow : OpenClaim := { program := "ytdempmpljekehaa", sum := "52d2e34f42b123a885517470eb7d61beaf24de069f8e335f86edd2a349b8d8c4", func := "loop.example/g03103/laws.FnOnto", spec := "fnOnto", recurses := true, apart := false, narrowed := true }
def FnOntoUptoSaid : Prop := fnOntoUptoRow.holds Try.pinned (OpenSpec.upto fnOntoSpec)

end Rows
end Go.Proofs.Ytdempmpljekehaa
