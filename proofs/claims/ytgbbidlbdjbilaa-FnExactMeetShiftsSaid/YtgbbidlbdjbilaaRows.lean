/-
  No cell of these rows narrows 'for every input' (looked for: loops, veiled, ifaces, maps, wideKeys, modest, calm, conditions, laid).
  DERIVED. THE GIVEN ROWS OF THIS SEAT. 7 by the template 'for every input the law returns true; each argument reads behind the call as it read before'; 0 by the template 'total and deterministic' (their statements: YtgbbidlbdjbilaaTotals.lean).
  GIVEN WITH THE SEED: the statements are not yours to turn. If you find one false, say at which input.
  Laid BY PROGRAM, IN A SANDBOX (cutbox-rows.mjs): the forced cells as the released guide's own fill.sh prints them over the translation aedc618679d5db27… (all of the seat's roots in one cut). By AI agents, Wed Nov 11 2026. No macro, syntax, notation, axiom, sorry.
-/
import Derived.Test.YtgbbidlbdjbilaaChecked
import GoSem.Claim
import GoSem.ClaimJoined
import GoSem.ClaimMapViews
import Derived.JoinedTies
import Derived.KernelRfl
namespace Go.Proofs.Ytgbbidlbdjbilaa
/- THE CELL 'sum', in the pinned program and in every row, IS THE sha256 OF THE DUMP (.gsa) THAT YtgbbidlbdjbilaaProg.lean LOADS. Nothing in Lean hashes anything: it is a label: what it is worth is what the hold of that sum in a sandbox is worth. -/
noncomputable def Try.pinned : Pinned := { name := "ytgbbidlbdjbilaa", sum := "aedc618679d5db27fa42631cb93b269ac66703e81a98375f1d2f1a9891678221", checked := Try.checked }
namespace Rows
def none {H : Type} : Left H := { results := [], args := [] }

/-- 'laws.FnExactAreSameShift': WHATEVER THE INPUT: true; the input reads as it did. -/
def fnExactAreSameShiftSpec : ChangeSpec := { name := "fnExactAreSameShift", fn := fun _ => fun
  | [d1, d2] => { results := [.lit (.bool true)], args := [d1, d2] }
  | _ => none }
def fnExactAreSameShiftRow : OpenClaim := { program := "ytgbbidlbdjbilaa", sum := "aedc618679d5db27fa42631cb93b269ac66703e81a98375f1d2f1a9891678221", func := "loop.example/g03103/laws.FnExactAreSameShift", spec := "fnExactAreSameShift", inPlace := ["internal/bytealg.IndexByteString", "internal/bytealg.IndexString"], unfollowed := true, recurses := true, named := ["internal/bytealg.MaxLen"], apart := false }
def FnExactAreSameShiftSaid : Prop := fnExactAreSameShiftRow.holds Try.pinned (OpenSpec.ofChange fnExactAreSameShiftSpec)

/-- ITS FALSE NEIGHBOUR: 'it returns false'. Refute it at one input. -/
def fnExactAreSameShiftWrong : ChangeSpec := { name := "fnExactAreSameShift", fn := fun _ => fun
  | [d1, d2] => { results := [.lit (.bool false)], args := [d1, d2] }
  | _ => none }
def FnExactAreSameShiftWrongFalsely : Prop := fnExactAreSameShiftRow.holds Try.pinned (OpenSpec.ofChange fnExactAreSameShiftWrong)

/-- 'laws.FnExactStatesOf': WHATEVER THE INPUT: true; the input reads as it did. -/
def fnExactStatesOfSpec : ChangeSpec := { name := "fnExactStatesOf", fn := fun _ => fun
  | [d] => { results := [.lit (.bool true)], args := [d] }
  | _ => none }
def fnExactStatesOfRow : OpenClaim := { program := "ytgbbidlbdjbilaa", sum := "aedc618679d5db27fa42631cb93b269ac66703e81a98375f1d2f1a9891678221", func := "loop.example/g03103/laws.FnExactStatesOf", spec := "fnExactStatesOf", inPlace := ["internal/bytealg.IndexByteString", "internal/bytealg.IndexString"], unfollowed := true, recurses := true, named := ["internal/bytealg.MaxLen"], apart := false }
def FnExactStatesOfSaid : Prop := fnExactStatesOfRow.holds Try.pinned (OpenSpec.ofChange fnExactStatesOfSpec)

/-- ITS FALSE NEIGHBOUR: 'it returns false'. Refute it at one input. -/
def fnExactStatesOfWrong : ChangeSpec := { name := "fnExactStatesOf", fn := fun _ => fun
  | [d] => { results := [.lit (.bool false)], args := [d] }
  | _ => none }
def FnExactStatesOfWrongFalsely : Prop := fnExactStatesOfRow.holds Try.pinned (OpenSpec.ofChange fnExactStatesOfWrong)

/-- 'laws.FnExactCountWords': WHATEVER THE INPUT: true; the input reads as it did. -/
def fnExactCountWordsSpec : ChangeSpec := { name := "fnExactCountWords", fn := fun _ => fun
  | [d1, d2] => { results := [.lit (.bool true)], args := [d1, d2] }
  | _ => none }
def fnExactCountWordsRow : OpenClaim := { program := "ytgbbidlbdjbilaa", sum := "aedc618679d5db27fa42631cb93b269ac66703e81a98375f1d2f1a9891678221", func := "loop.example/g03103/laws.FnExactCountWords", spec := "fnExactCountWords", inPlace := ["internal/bytealg.IndexByteString", "internal/bytealg.IndexString"], unfollowed := true, recurses := true, named := ["internal/bytealg.MaxLen"], apart := false }
def FnExactCountWordsSaid : Prop := fnExactCountWordsRow.holds Try.pinned (OpenSpec.ofChange fnExactCountWordsSpec)

/-- ITS FALSE NEIGHBOUR: 'it returns false'. Refute it at one input. -/
def fnExactCountWordsWrong : ChangeSpec := { name := "fnExactCountWords", fn := fun _ => fun
  | [d1, d2] => { results := [.lit (.bool false)], args := [d1, d2] }
  | _ => none }
def FnExactCountWordsWrongFalsely : Prop := fnExactCountWordsRow.holds Try.pinned (OpenSpec.ofChange fnExactCountWordsWrong)

/-- 'laws.FnExactGraphOf': WHATEVER THE INPUT: true; the input reads as it did. -/
def fnExactGraphOfSpec : ChangeSpec := { name := "fnExactGraphOf", fn := fun _ => fun
  | [d] => { results := [.lit (.bool true)], args := [d] }
  | _ => none }
def fnExactGraphOfRow : OpenClaim := { program := "ytgbbidlbdjbilaa", sum := "aedc618679d5db27fa42631cb93b269ac66703e81a98375f1d2f1a9891678221", func := "loop.example/g03103/laws.FnExactGraphOf", spec := "fnExactGraphOf", inPlace := ["internal/bytealg.IndexByteString", "internal/bytealg.IndexString"], unfollowed := true, recurses := true, named := ["internal/bytealg.MaxLen"], apart := false }
def FnExactGraphOfSaid : Prop := fnExactGraphOfRow.holds Try.pinned (OpenSpec.ofChange fnExactGraphOfSpec)

/-- ITS FALSE NEIGHBOUR: 'it returns false'. Refute it at one input. -/
def fnExactGraphOfWrong : ChangeSpec := { name := "fnExactGraphOf", fn := fun _ => fun
  | [d] => { results := [.lit (.bool false)], args := [d] }
  | _ => none }
def FnExactGraphOfWrongFalsely : Prop := fnExactGraphOfRow.holds Try.pinned (OpenSpec.ofChange fnExactGraphOfWrong)

/-- 'laws.FnExactIsConnected': WHATEVER THE INPUT: true; the input reads as it did. -/
def fnExactIsConnectedSpec : ChangeSpec := { name := "fnExactIsConnected", fn := fun _ => fun
  | [d] => { results := [.lit (.bool true)], args := [d] }
  | _ => none }
def fnExactIsConnectedRow : OpenClaim := { program := "ytgbbidlbdjbilaa", sum := "aedc618679d5db27fa42631cb93b269ac66703e81a98375f1d2f1a9891678221", func := "loop.example/g03103/laws.FnExactIsConnected", spec := "fnExactIsConnected", inPlace := ["internal/bytealg.IndexByteString", "internal/bytealg.IndexString"], unfollowed := true, recurses := true, named := ["internal/bytealg.MaxLen"], apart := false }
def FnExactIsConnectedSaid : Prop := fnExactIsConnectedRow.holds Try.pinned (OpenSpec.ofChange fnExactIsConnectedSpec)

/-- ITS FALSE NEIGHBOUR: 'it returns false'. Refute it at one input. -/
def fnExactIsConnectedWrong : ChangeSpec := { name := "fnExactIsConnected", fn := fun _ => fun
  | [d] => { results := [.lit (.bool false)], args := [d] }
  | _ => none }
def FnExactIsConnectedWrongFalsely : Prop := fnExactIsConnectedRow.holds Try.pinned (OpenSpec.ofChange fnExactIsConnectedWrong)

/-- 'laws.FnExactMeetShifts': WHATEVER THE INPUT: true; the input reads as it did. -/
def fnExactMeetShiftsSpec : ChangeSpec := { name := "fnExactMeetShifts", fn := fun _ => fun
  | [d1, d2] => { results := [.lit (.bool true)], args := [d1, d2] }
  | _ => none }
def fnExactMeetShiftsRow : OpenClaim := { program := "ytgbbidlbdjbilaa", sum := "aedc618679d5db27fa42631cb93b269ac66703e81a98375f1d2f1a9891678221", func := "loop.example/g03103/laws.FnExactMeetShifts", spec := "fnExactMeetShifts", recurses := true, apart := false }
def FnExactMeetShiftsSaid : Prop := fnExactMeetShiftsRow.holds Try.pinned (OpenSpec.ofChange fnExactMeetShiftsSpec)

/-- ITS FALSE NEIGHBOUR: 'it returns false'. Refute it at one input. -/
def fnExactMeetShiftsWrong : ChangeSpec := { name := "fnExactMeetShifts", fn := fun _ => fun
  | [d1, d2] => { results := [.lit (.bool false)], args := [d1, d2] }
  | _ => none }
def FnExactMeetShiftsWrongFalsely : Prop := fnExactMeetShiftsRow.holds Try.pinned (OpenSpec.ofChange fnExactMeetShiftsWrong)

/-- 'laws.FnExactForbiddenOf': WHATEVER THE INPUT: true; the input reads as it did. -/
def fnExactForbiddenOfSpec : ChangeSpec := { name := "fnExactForbiddenOf", fn := fun _ => fun
  | [d] => { results := [.lit (.bool true)], args := [d] }
  | _ => none }
def fnExactForbiddenOfRow : OpenClaim := { program := "ytgbbidlbdjbilaa", sum := "aedc618679d5db27fa42631cb93b269ac66703e81a98375f1d2f1a9891678221", func := "loop.example/g03103/laws.FnExactForbiddenOf", spec := "fnExactForbiddenOf", inPlace := ["internal/bytealg.IndexByteString", "internal/bytealg.IndexString"], unfollowed := true, recurses := true, named := ["internal/bytealg.MaxLen"], apart := false }
def FnExactForbiddenOfSaid : Prop := fnExactForbiddenOfRow.holds Try.pinned (OpenSpec.ofChange fnExactForbiddenOfSpec)

/-- ITS FALSE NEIGHBOUR: 'it returns false'. Refute it at one input. -/
def fnExactForbiddenOfWrong : ChangeSpec := { name := "fnExactForbiddenOf", fn := fun _ => fun
  | [d] => { results := [.lit (.bool false)], args := [d] }
  | _ => none }
def FnExactForbiddenOfWrongFalsely : Prop := fnExactForbiddenOfRow.holds Try.pinned (OpenSpec.ofChange fnExactForbiddenOfWrong)

/- THE SECOND FORM. 'bulk': how many values and letters a reading holds, each counted each time it is reached (what is shared counts as often as it is met; a slice's spare places count too). A statement '..UptoSaid' is the law's where the arguments, and the package variables that the reading takes, are together of bulk at most 1048576: NARROWER than '..Said'. Prove '..Said' where nothing that the law and all that it calls make is longer than what came in: it says more and counts as full. Else prove '..UptoSaid'. A law counts once. -/
mutual
def uptoBulk {H : Type} : DataW H → Nat
  | .lit (.string bytes) => bytes.length + 1
  | .lit _ => 1
  | .nil => 1
  | .ptr d => uptoBulk d + 1
  | .slice elems spare => uptoBulkAll elems + uptoBulkAll spare + 1
  | .agg parts => uptoBulkAll parts + 1
  | .iface _ d => uptoBulk d + 1
  | .map entries => uptoBulkEntries entries + 1
  | .held _ => 1
def uptoBulkAll {H : Type} : List (DataW H) → Nat
  | [] => 0
  | d :: r => uptoBulk d + uptoBulkAll r
def uptoBulkEntries {H : Type} : List (Lit × DataW H) → Nat
  | [] => 0
  | x :: r => uptoBulkEntry x + uptoBulkEntries r
def uptoBulkEntry {H : Type} : Lit × DataW H → Nat
  | (.string bytes, d) => bytes.length + uptoBulk d + 1
  | (_, d) => uptoBulk d + 1
 end
def uptoSmall : (H : Type) → List (DataW H) → Bool := fun _ ds => decide (uptoBulkAll ds ≤ 1048576)
def OpenSpec.upto (s : _root_.Go.ChangeSpec) : _root_.Go.OpenSpec := { _root_.Go.OpenSpec.ofChange s with cond := some uptoSmall }

/-- 'laws.FnExactAreSameShift', WHERE WHAT IT READS IS OF BULK AT MOST 1048576: true; the input reads as it did. -/
def fnExactAreSameShiftUptoRow : OpenClaim := { program := "ytgbbidlbdjbilaa", sum := "aedc618679d5db27fa42631cb93b269ac66703e81a98375f1d2f1a9891678221", func := "loop.example/g03103/laws.FnExactAreSameShift", spec := "fnExactAreSameShift", inPlace := ["internal/bytealg.IndexByteString", "internal/bytealg.IndexString"], unfollowed := true, recurses := true, named := ["internal/bytealg.MaxLen"], apart := false, narrowed := true }
def FnExactAreSameShiftUptoSaid : Prop := fnExactAreSameShiftUptoRow.holds Try.pinned (OpenSpec.upto fnExactAreSameShiftSpec)

/-- 'laws.FnExactStatesOf', WHERE WHAT IT READS IS OF BULK AT MOST 1048576: true; the input reads as it did. -/
def fnExactStatesOfUptoRow : OpenClaim := { program := "ytgbbidlbdjbilaa", sum := "aedc618679d5db27fa42631cb93b269ac66703e81a98375f1d2f1a9891678221", func := "loop.example/g03103/laws.FnExactStatesOf", spec := "fnExactStatesOf", inPlace := ["internal/bytealg.IndexByteString", "internal/bytealg.IndexString"], unfollowed := true, recurses := true, named := ["internal/bytealg.MaxLen"], apart := false, narrowed := true }
def FnExactStatesOfUptoSaid : Prop := fnExactStatesOfUptoRow.holds Try.pinned (OpenSpec.upto fnExactStatesOfSpec)

/-- 'laws.FnExactCountWords', WHERE WHAT IT READS IS OF BULK AT MOST 1048576: true; the input reads as it did. -/
def fnExactCountWordsUptoRow : OpenClaim := { program := "ytgbbidlbdjbilaa", sum := "aedc618679d5db27fa42631cb93b269ac66703e81a98375f1d2f1a9891678221", func := "loop.example/g03103/laws.FnExactCountWords", spec := "fnExactCountWords", inPlace := ["internal/bytealg.IndexByteString", "internal/bytealg.IndexString"], unfollowed := true, recurses := true, named := ["internal/bytealg.MaxLen"], apart := false, narrowed := true }
def FnExactCountWordsUptoSaid : Prop := fnExactCountWordsUptoRow.holds Try.pinned (OpenSpec.upto fnExactCountWordsSpec)

/-- 'laws.FnExactGraphOf', WHERE WHAT IT READS IS OF BULK AT MOST 1048576: true; the input reads as it did. -/
def fnExactGraphOfUptoRow : OpenClaim := { program := "ytgbbidlbdjbilaa", sum := "aedc618679d5db27fa42631cb93b269ac66703e81a98375f1d2f1a9891678221", func := "loop.example/g03103/laws.FnExactGraphOf", spec := "fnExactGraphOf", inPlace := ["internal/bytealg.IndexByteString", "internal/bytealg.IndexString"], unfollowed := true, recurses := true, named := ["internal/bytealg.MaxLen"], apart := false, narrowed := true }
def FnExactGraphOfUptoSaid : Prop := fnExactGraphOfUptoRow.holds Try.pinned (OpenSpec.upto fnExactGraphOfSpec)

/-- 'laws.FnExactIsConnected', WHERE WHAT IT READS IS OF BULK AT MOST 1048576: true; the input reads as it did. -/
def fnExactIsConnectedUptoRow : OpenClaim := { program := "ytgbbidlbdjbilaa", sum := "aedc618679d5db27fa42631cb93b269ac66703e81a98375f1d2f1a9891678221", func := "loop.example/g03103/laws.FnExactIsConnected", spec := "fnExactIsConnected", inPlace := ["internal/bytealg.IndexByteString", "internal/bytealg.IndexString"], unfollowed := true, recurses := true, named := ["internal/bytealg.MaxLen"], apart := false, narrowed := true }
def FnExactIsConnectedUptoSaid : Prop := fnExactIsConnectedUptoRow.holds Try.pinned (OpenSpec.upto fnExactIsConnectedSpec)

/-- 'laws.FnExactMeetShifts', WHERE WHAT IT READS IS OF BULK AT MOST 1048576: true; the input reads as it did. -/
def fnExactMeetShiftsUptoRow : OpenClaim := { program := "ytgbbidlbdjbilaa", sum := "aedc618679d5db27fa42631cb93b269ac66703e81a98375f1d2f1a9891678221", func := "loop.example/g03103/laws.FnExactMeetShifts", spec := "fnExactMeetShifts", recurses := true, apart := false, narrowed := true }
def FnExactMeetShiftsUptoSaid : Prop := fnExactMeetShiftsUptoRow.holds Try.pinned (OpenSpec.upto fnExactMeetShiftsSpec)

/-- 'laws.FnExactForbiddenOf', WHERE WHAT IT READS IS OF BULK AT MOST 1048576: true; the input reads as it did. -/
def fnExactForbiddenOfUptoRow : OpenClaim := { program := "ytgbbidlbdjbilaa", sum := "aedc618679d5db27fa42631cb93b269ac66703e81a98375f1d2f1a9891678221", func := "loop.example/g03103/laws.FnExactForbiddenOf", spec := "fnExactForbiddenOf", inPlace := ["internal/bytealg.IndexByteString", "internal/bytealg.IndexString"], unfollowed := true, recurses := true, named := ["internal/bytealg.MaxLen"], apart := false, narrowed := true }
def FnExactForbiddenOfUptoSaid : Prop := fnExactForbiddenOfUptoRow.holds Try.pinned (OpenSpec.upto fnExactForbiddenOfSpec)

end Rows
end Go.Proofs.Ytgbbidlbdjbilaa
