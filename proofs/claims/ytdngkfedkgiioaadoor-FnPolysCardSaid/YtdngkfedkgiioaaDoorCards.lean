/-
  DERIVED. GIVEN WITH THE SEED: THE CARDS: each row of YtdngkfedkgiioaaDoorRows.lean that lists a variable, with what it lists TIED to the program's text (the seventh form; the later family's looks); each row that meets fmt, with fmt's text TOLD by the authors' own Lean function (tested against real Go, not proved from fmt's source: count such statements apart). THE CARD IS WHAT COUNTS. Prove the row's statement (the work); the ties are given (YtdngkfedkgiioaaDoorTie.lean); close each card by the builder's one call (the guide's Derived/Test/ToyasCard.lean, 'card_holds'). Laid BY PROGRAM, IN A SANDBOX (cutbox-door.mjs). By AI agents, Wed Nov 11 2026. No macro, syntax, notation, axiom, sorry.
-/
import Derived.Test.YtdngkfedkgiioaaDoorRows
import GoSem.ClaimSeven
namespace Go.Proofs.YtdngkfedkgiioaaDoor
namespace Rows

/-- THE TIED CARD OF 'laws.FnPolys'. -/
def fnPolysCard : Claim7 := { stood := { row := fnPolysRow, standIns := [], harness := (true, "79cb490849a0fec8b990601b242c61cbb848be3668d0a6da74bef4dd9cb5dcf3"), looks := false }, kinds := [], alts := [], laidByText := true, laidKinds := [.data, .data, .data], laidTests := true, laidLooks := .later }
def FnPolysCardSaid : Prop := Claim7.holds Tryd.pinned (.plain (OpenSpec.ofChange fnPolysSpec)) fnPolysCard

/-- THE TIED CARD OF 'laws.FnGrowth'. -/
def fnGrowthCard : Claim7 := { stood := { row := fnGrowthRow, standIns := [], harness := (true, "79cb490849a0fec8b990601b242c61cbb848be3668d0a6da74bef4dd9cb5dcf3"), looks := false }, kinds := [], alts := [], laidByText := true, laidKinds := [.data, .data, .data], laidTests := true, laidLooks := .later }
def FnGrowthCardSaid : Prop := Claim7.holds Tryd.pinned (.plain (OpenSpec.ofChange fnGrowthSpec)) fnGrowthCard

/-- THE SECOND FORM's CARD OF 'laws.FnPolys'. -/
def fnPolysUptoCard : Claim7 := { stood := { row := fnPolysUptoRow, standIns := [], harness := (true, "79cb490849a0fec8b990601b242c61cbb848be3668d0a6da74bef4dd9cb5dcf3"), looks := false }, kinds := [], alts := [], laidByText := true, laidKinds := [.data, .data, .data], laidTests := true, laidLooks := .later }
def FnPolysUptoCardSaid : Prop := Claim7.holds Tryd.pinned (.plain (OpenSpec.upto fnPolysSpec)) fnPolysUptoCard

/-- THE SECOND FORM's CARD OF 'laws.FnGrowth'. -/
def fnGrowthUptoCard : Claim7 := { stood := { row := fnGrowthUptoRow, standIns := [], harness := (true, "79cb490849a0fec8b990601b242c61cbb848be3668d0a6da74bef4dd9cb5dcf3"), looks := false }, kinds := [], alts := [], laidByText := true, laidKinds := [.data, .data, .data], laidTests := true, laidLooks := .later }
def FnGrowthUptoCardSaid : Prop := Claim7.holds Tryd.pinned (.plain (OpenSpec.upto fnGrowthSpec)) fnGrowthUptoCard
end Rows
end Go.Proofs.YtdngkfedkgiioaaDoor
