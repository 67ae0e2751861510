/-
  No cell of these rows narrows 'for every input' (looked for: loops, veiled, ifaces, maps, wideKeys, modest, calm, conditions, laid).
  DERIVED. THE GIVEN ROWS OF THIS SEAT. 6 by the template 'for every input the law returns true; each argument reads behind the call as it read before'; 0 by the template 'total and deterministic' (their statements: YtnkikeckpkjafaaTotals.lean).
  GIVEN WITH THE SEED: the statements are not yours to turn. If you find one false, say at which input.
  Laid BY PROGRAM, IN A SANDBOX (cutbox-rows.mjs): the forced cells as the released guide's own fill.sh prints them over the translation 9bc0626b0cd191cd… (all of the seat's roots in one cut). By AI agents, Wed Nov 11 2026. No macro, syntax, notation, axiom, sorry.
-/
import Derived.Test.YtnkikeckpkjafaaChecked
import GoSem.Claim
import GoSem.ClaimJoined
import GoSem.ClaimMapViews
import Derived.JoinedTies
import Derived.KernelRfl
namespace Go.Proofs.Ytnkikeckpkjafaa
/- THE CELL 'sum', in the pinned program and in every row, IS THE sha256 OF THE DUMP (.gsa) THAT YtnkikeckpkjafaaProg.lean LOADS. Nothing in Lean hashes anything: it is a label: what it is worth is what the hold of that sum in a sandbox is worth. -/
noncomputable def Try.pinned : Pinned := { name := "ytnkikeckpkjafaa", sum := "9bc0626b0cd191cd6449cac9a648409c4e38fb623c881bf3f1b78f7d5c07659e", checked := Try.checked }
namespace Rows
def none {H : Type} : Left H := { results := [], args := [] }

/-- 'laws.FnExactEqualCode': WHATEVER THE INPUT: true; the input reads as it did. -/
def fnExactEqualCodeSpec : ChangeSpec := { name := "fnExactEqualCode", fn := fun _ => fun
  | [d1, d2] => { results := [.lit (.bool true)], args := [d1, d2] }
  | _ => none }
def fnExactEqualCodeRow : OpenClaim := { program := "ytnkikeckpkjafaa", sum := "9bc0626b0cd191cd6449cac9a648409c4e38fb623c881bf3f1b78f7d5c07659e", func := "loop.example/g03103/laws.FnExactEqualCode", spec := "fnExactEqualCode", apart := false }
def FnExactEqualCodeSaid : Prop := fnExactEqualCodeRow.holds Try.pinned (OpenSpec.ofChange fnExactEqualCodeSpec)

/-- ITS FALSE NEIGHBOUR: 'it returns false'. Refute it at one input. -/
def fnExactEqualCodeWrong : ChangeSpec := { name := "fnExactEqualCode", fn := fun _ => fun
  | [d1, d2] => { results := [.lit (.bool false)], args := [d1, d2] }
  | _ => none }
def FnExactEqualCodeWrongFalsely : Prop := fnExactEqualCodeRow.holds Try.pinned (OpenSpec.ofChange fnExactEqualCodeWrong)

/-- 'laws.FnExactIsCode': WHATEVER THE INPUT: true; the input reads as it did. -/
def fnExactIsCodeSpec : ChangeSpec := { name := "fnExactIsCode", fn := fun _ => fun
  | [d] => { results := [.lit (.bool true)], args := [d] }
  | _ => none }
def fnExactIsCodeRow : OpenClaim := { program := "ytnkikeckpkjafaa", sum := "9bc0626b0cd191cd6449cac9a648409c4e38fb623c881bf3f1b78f7d5c07659e", func := "loop.example/g03103/laws.FnExactIsCode", spec := "fnExactIsCode", apart := false }
def FnExactIsCodeSaid : Prop := fnExactIsCodeRow.holds Try.pinned (OpenSpec.ofChange fnExactIsCodeSpec)

/-- ITS FALSE NEIGHBOUR: 'it returns false'. Refute it at one input. -/
def fnExactIsCodeWrong : ChangeSpec := { name := "fnExactIsCode", fn := fun _ => fun
  | [d] => { results := [.lit (.bool false)], args := [d] }
  | _ => none }
def FnExactIsCodeWrongFalsely : Prop := fnExactIsCodeRow.holds Try.pinned (OpenSpec.ofChange fnExactIsCodeWrong)

/-- 'laws.FnExactPolyAt': WHATEVER THE INPUT: true; the input reads as it did. -/
def fnExactPolyAtSpec : ChangeSpec := { name := "fnExactPolyAt", fn := fun _ => fun
  | [d1, d2] => { results := [.lit (.bool true)], args := [d1, d2] }
  | _ => none }
def fnExactPolyAtRow : OpenClaim := { program := "ytnkikeckpkjafaa", sum := "9bc0626b0cd191cd6449cac9a648409c4e38fb623c881bf3f1b78f7d5c07659e", func := "loop.example/g03103/laws.FnExactPolyAt", spec := "fnExactPolyAt", apart := false }
def FnExactPolyAtSaid : Prop := fnExactPolyAtRow.holds Try.pinned (OpenSpec.ofChange fnExactPolyAtSpec)

/-- ITS FALSE NEIGHBOUR: 'it returns false'. Refute it at one input. -/
def fnExactPolyAtWrong : ChangeSpec := { name := "fnExactPolyAt", fn := fun _ => fun
  | [d1, d2] => { results := [.lit (.bool false)], args := [d1, d2] }
  | _ => none }
def FnExactPolyAtWrongFalsely : Prop := fnExactPolyAtRow.holds Try.pinned (OpenSpec.ofChange fnExactPolyAtWrong)

/-- 'laws.FnExactCopyCode': WHATEVER THE INPUT: true; the input reads as it did. -/
def fnExactCopyCodeSpec : ChangeSpec := { name := "fnExactCopyCode", fn := fun _ => fun
  | [d1, d2, d3] => { results := [.lit (.bool true)], args := [d1, d2, d3] }
  | _ => none }
def fnExactCopyCodeRow : OpenClaim := { program := "ytnkikeckpkjafaa", sum := "9bc0626b0cd191cd6449cac9a648409c4e38fb623c881bf3f1b78f7d5c07659e", func := "loop.example/g03103/laws.FnExactCopyCode", spec := "fnExactCopyCode", unfollowed := true, recurses := true, apart := false }
def FnExactCopyCodeSaid : Prop := fnExactCopyCodeRow.holds Try.pinned (OpenSpec.ofChange fnExactCopyCodeSpec)

/-- ITS FALSE NEIGHBOUR: 'it returns false'. Refute it at one input. -/
def fnExactCopyCodeWrong : ChangeSpec := { name := "fnExactCopyCode", fn := fun _ => fun
  | [d1, d2, d3] => { results := [.lit (.bool false)], args := [d1, d2, d3] }
  | _ => none }
def FnExactCopyCodeWrongFalsely : Prop := fnExactCopyCodeRow.holds Try.pinned (OpenSpec.ofChange fnExactCopyCodeWrong)

/-- 'laws.FnExactMultiplyPolys': WHATEVER THE INPUT: true; the input reads as it did. -/
def fnExactMultiplyPolysSpec : ChangeSpec := { name := "fnExactMultiplyPolys", fn := fun _ => fun
  | [d1, d2] => { results := [.lit (.bool true)], args := [d1, d2] }
  | _ => none }
def fnExactMultiplyPolysRow : OpenClaim := { program := "ytnkikeckpkjafaa", sum := "9bc0626b0cd191cd6449cac9a648409c4e38fb623c881bf3f1b78f7d5c07659e", func := "loop.example/g03103/laws.FnExactMultiplyPolys", spec := "fnExactMultiplyPolys", apart := false }
def FnExactMultiplyPolysSaid : Prop := fnExactMultiplyPolysRow.holds Try.pinned (OpenSpec.ofChange fnExactMultiplyPolysSpec)

/-- ITS FALSE NEIGHBOUR: 'it returns false'. Refute it at one input. -/
def fnExactMultiplyPolysWrong : ChangeSpec := { name := "fnExactMultiplyPolys", fn := fun _ => fun
  | [d1, d2] => { results := [.lit (.bool false)], args := [d1, d2] }
  | _ => none }
def FnExactMultiplyPolysWrongFalsely : Prop := fnExactMultiplyPolysRow.holds Try.pinned (OpenSpec.ofChange fnExactMultiplyPolysWrong)

/-- 'laws.FnExactEqualLabels': WHATEVER THE INPUT: true; the input reads as it did. -/
def fnExactEqualLabelsSpec : ChangeSpec := { name := "fnExactEqualLabels", fn := fun _ => fun
  | [d1, d2] => { results := [.lit (.bool true)], args := [d1, d2] }
  | _ => none }
def fnExactEqualLabelsRow : OpenClaim := { program := "ytnkikeckpkjafaa", sum := "9bc0626b0cd191cd6449cac9a648409c4e38fb623c881bf3f1b78f7d5c07659e", func := "loop.example/g03103/laws.FnExactEqualLabels", spec := "fnExactEqualLabels", apart := false }
def FnExactEqualLabelsSaid : Prop := fnExactEqualLabelsRow.holds Try.pinned (OpenSpec.ofChange fnExactEqualLabelsSpec)

/-- ITS FALSE NEIGHBOUR: 'it returns false'. Refute it at one input. -/
def fnExactEqualLabelsWrong : ChangeSpec := { name := "fnExactEqualLabels", fn := fun _ => fun
  | [d1, d2] => { results := [.lit (.bool false)], args := [d1, d2] }
  | _ => none }
def FnExactEqualLabelsWrongFalsely : Prop := fnExactEqualLabelsRow.holds Try.pinned (OpenSpec.ofChange fnExactEqualLabelsWrong)

/- THE SECOND FORM. 'bulk': how many values and letters a reading holds, each counted each time it is reached (what is shared counts as often as it is met; a slice's spare places count too). A statement '..UptoSaid' is the law's where the arguments, and the package variables that the reading takes, are together of bulk at most 1048576: NARROWER than '..Said'. Prove '..Said' where nothing that the law and all that it calls make is longer than what came in: it says more and counts as full. Else prove '..UptoSaid'. A law counts once. -/
mutual
def uptoBulk {H : Type} : DataW H → Nat
  | .lit (.string bytes) => bytes.length + 1
  | .lit _ => 1
  | .nil => 1
  | .ptr d => uptoBulk d + 1
  | .slice elems spare => uptoBulkAll elems + uptoBulkAll spare + 1
  | .agg parts => uptoBulkAll parts + 1
  | .iface _ d => uptoBulk d + 1
  | .map entries => uptoBulkEntries entries + 1
  | .held _ => 1
def uptoBulkAll {H : Type} : List (DataW H) → Nat
  | [] => 0
  | d :: r => uptoBulk d + uptoBulkAll r
def uptoBulkEntries {H : Type} : List (Lit × DataW H) → Nat
  | [] => 0
  | x :: r => uptoBulkEntry x + uptoBulkEntries r
def uptoBulkEntry {H : Type} : Lit × DataW H → Nat
  | (.string bytes, d) => bytes.length + uptoBulk d + 1
  | (_, d) => uptoBulk d + 1
 end
def uptoSmall : (H : Type) → List (DataW H) → Bool := fun _ ds => decide (uptoBulkAll ds ≤ 1048576)
def OpenSpec.upto (s : _root_.Go.ChangeSpec) : _root_.Go.OpenSpec := { _root_.Go.OpenSpec.ofChange s with cond := some uptoSmall }

/-- 'laws.FnExactEqualCode', WHERE WHAT IT READS IS OF BULK AT MOST 1048576: true; the input reads as it did. -/
def fnExactEqualCodeUptoRow : OpenClaim := { program := "ytnkikeckpkjafaa", sum := "9bc0626b0cd191cd6449cac9a648409c4e38fb623c881bf3f1b78f7d5c07659e", func := "loop.example/g03103/laws.FnExactEqualCode", spec := "fnExactEqualCode", apart := false, narrowed := true }
def FnExactEqualCodeUptoSaid : Prop := fnExactEqualCodeUptoRow.holds Try.pinned (OpenSpec.upto fnExactEqualCodeSpec)

/-- 'laws.FnExactIsCode', WHERE WHAT IT READS IS OF BULK AT MOST 1048576: true; the input reads as it did. -/
def fnExactIsCodeUptoRow : OpenClaim := { program := "ytnkikeckpkjafaa", sum := "9bc0626b0cd191cd6449cac9a648409c4e38fb623c881bf3f1b78f7d5c07659e", func := "loop.example/g03103/laws.FnExactIsCode", spec := "fnExactIsCode", apart := false, narrowed := true }
def FnExactIsCodeUptoSaid : Prop := fnExactIsCodeUptoRow.holds Try.pinned (OpenSpec.upto fnExactIsCodeSpec)

/-- 'laws.FnExactPolyAt', WHERE WHAT IT READS IS OF BULK AT MOST 1048576: true; the input reads as it did. -/
def fnExactPolyAtUptoRow : OpenClaim := { program := "ytnkikeckpkjafaa", sum := "9bc0626b0cd191cd6449cac9a648409c4e38fb623c881bf3f1b78f7d5c07659e", func := "loop.example/g03103/laws.FnExactPolyAt", spec := "fnExactPolyAt", apart := false, narrowed := true }
def FnExactPolyAtUptoSaid : Prop := fnExactPolyAtUptoRow.holds Try.pinned (OpenSpec.upto fnExactPolyAtSpec)

/-- 'laws.FnExactCopyCode', WHERE WHAT IT READS IS OF BULK AT MOST 1048576: true; the input reads as it did. -/
def fnExactCopyCodeUptoRow : OpenClaim := { program := "ytnkikeckpkjafaa", sum := "9bc0626b0cd191cd6449cac9a648409c4e38fb623c881bf3f1b78f7d5c07659e", func := "loop.example/g03103/laws.FnExactCopyCode", spec := "fnExactCopyCode", unfollowed := true, recurses := true, apart := false, narrowed := true }
def FnExactCopyCodeUptoSaid : Prop := fnExactCopyCodeUptoRow.holds Try.pinned (OpenSpec.upto fnExactCopyCodeSpec)

/-- 'laws.FnExactMultiplyPolys', WHERE WHAT IT READS IS OF BULK AT MOST 1048576: true; the input reads as it did. -/
def fnExactMultiplyPolysUptoRow : OpenClaim := { program := "ytnkikeckpkjafaa", sum := "9bc0626b0cd191cd6449cac9a648409c4e38fb623c881bf3f1b78f7d5c07659e", func := "loop.example/g03103/laws.FnExactMultiplyPolys", spec := "fnExactMultiplyPolys", apart := false, narrowed := true }
def FnExactMultiplyPolysUptoSaid : Prop := fnExactMultiplyPolysUptoRow.holds Try.pinned (OpenSpec.upto fnExactMultiplyPolysSpec)

/-- 'laws.FnExactEqualLabels', WHERE WHAT IT READS IS OF BULK AT MOST 1048576: true; the input reads as it did. -/
def fnExactEqualLabelsUptoRow : OpenClaim := { program := "ytnkikeckpkjafaa", sum := "9bc0626b0cd191cd6449cac9a648409c4e38fb623c881bf3f1b78f7d5c07659e", func := "loop.example/g03103/laws.FnExactEqualLabels", spec := "fnExactEqualLabels", apart := false, narrowed := true }
def FnExactEqualLabelsUptoSaid : Prop := fnExactEqualLabelsUptoRow.holds Try.pinned (OpenSpec.upto fnExactEqualLabelsSpec)

end Rows
end Go.Proofs.Ytnkikeckpkjafaa
