/-
  DERIVED. GIVEN WITH THE SEED: THE CARDS: each row of YtngbibaphakifaaDoorRows.lean that lists a variable, with what it lists TIED to the program's text (the seventh form; the later family's looks); each row that meets fmt, with fmt's text TOLD by the authors' own Lean function (tested against real Go, not proved from fmt's source: count such statements apart). THE CARD IS WHAT COUNTS. Prove the row's statement (the work); the ties are given (YtngbibaphakifaaDoorTie.lean); close each card by the builder's one call (the guide's Derived/Test/ToyasCard.lean, 'card_holds'). Laid BY PROGRAM, IN A SANDBOX (cutbox-door.mjs). By AI agents, Wed Nov 11 2026. No macro, syntax, notation, axiom, sorry.
-/
import Derived.Test.YtngbibaphakifaaDoorRows
import GoSem.ClaimSeven
namespace Go.Proofs.YtngbibaphakifaaDoor
namespace Rows

/-- THE TIED CARD OF 'laws.FnExactPolyText'. -/
def fnExactPolyTextCard : Claim7 := { stood := { row := fnExactPolyTextRow, standIns := [], harness := (true, "89564ac2c1f05127b4304becf5bd209cb903fa0db5cb8a378716f1050328234a"), looks := false }, kinds := [], alts := [], laidByText := true, laidKinds := [.data, .data, .data], laidTests := true, laidLooks := .later }
def FnExactPolyTextCardSaid : Prop := Claim7.holds Tryd.pinned (.plain (OpenSpec.ofChange fnExactPolyTextSpec)) fnExactPolyTextCard

/-- THE TIED CARD OF 'laws.FnExactGrowthText'. -/
def fnExactGrowthTextCard : Claim7 := { stood := { row := fnExactGrowthTextRow, standIns := [], harness := (true, "89564ac2c1f05127b4304becf5bd209cb903fa0db5cb8a378716f1050328234a"), looks := false }, kinds := [], alts := [], laidByText := true, laidKinds := [.data, .data, .data], laidTests := true, laidLooks := .later }
def FnExactGrowthTextCardSaid : Prop := Claim7.holds Tryd.pinned (.plain (OpenSpec.ofChange fnExactGrowthTextSpec)) fnExactGrowthTextCard

/-- THE TIED CARD OF 'laws.FnPolys'. -/
def fnPolysCard : Claim7 := { stood := { row := fnPolysRow, standIns := [], harness := (true, "89564ac2c1f05127b4304becf5bd209cb903fa0db5cb8a378716f1050328234a"), looks := false }, kinds := [], alts := [], laidByText := true, laidKinds := [.data, .data, .data], laidTests := true, laidLooks := .later }
def FnPolysCardSaid : Prop := Claim7.holds Tryd.pinned (.plain (OpenSpec.ofChange fnPolysSpec)) fnPolysCard

/-- THE TIED CARD OF 'laws.FnGrowth'. -/
def fnGrowthCard : Claim7 := { stood := { row := fnGrowthRow, standIns := [], harness := (true, "89564ac2c1f05127b4304becf5bd209cb903fa0db5cb8a378716f1050328234a"), looks := false }, kinds := [], alts := [], laidByText := true, laidKinds := [.data, .data, .data], laidTests := true, laidLooks := .later }
def FnGrowthCardSaid : Prop := Claim7.holds Tryd.pinned (.plain (OpenSpec.ofChange fnGrowthSpec)) fnGrowthCard

/-- THE SECOND FORM's CARD OF 'laws.FnExactPolyText'. -/
def fnExactPolyTextUptoCard : Claim7 := { stood := { row := fnExactPolyTextUptoRow, standIns := [], harness := (true, "89564ac2c1f05127b4304becf5bd209cb903fa0db5cb8a378716f1050328234a"), looks := false }, kinds := [], alts := [], laidByText := true, laidKinds := [.data, .data, .data], laidTests := true, laidLooks := .later }
def FnExactPolyTextUptoCardSaid : Prop := Claim7.holds Tryd.pinned (.plain (OpenSpec.upto fnExactPolyTextSpec)) fnExactPolyTextUptoCard

/-- THE SECOND FORM's CARD OF 'laws.FnExactGrowthText'. -/
def fnExactGrowthTextUptoCard : Claim7 := { stood := { row := fnExactGrowthTextUptoRow, standIns := [], harness := (true, "89564ac2c1f05127b4304becf5bd209cb903fa0db5cb8a378716f1050328234a"), looks := false }, kinds := [], alts := [], laidByText := true, laidKinds := [.data, .data, .data], laidTests := true, laidLooks := .later }
def FnExactGrowthTextUptoCardSaid : Prop := Claim7.holds Tryd.pinned (.plain (OpenSpec.upto fnExactGrowthTextSpec)) fnExactGrowthTextUptoCard

/-- THE SECOND FORM's CARD OF 'laws.FnPolys'. -/
def fnPolysUptoCard : Claim7 := { stood := { row := fnPolysUptoRow, standIns := [], harness := (true, "89564ac2c1f05127b4304becf5bd209cb903fa0db5cb8a378716f1050328234a"), looks := false }, kinds := [], alts := [], laidByText := true, laidKinds := [.data, .data, .data], laidTests := true, laidLooks := .later }
def FnPolysUptoCardSaid : Prop := Claim7.holds Tryd.pinned (.plain (OpenSpec.upto fnPolysSpec)) fnPolysUptoCard

/-- THE SECOND FORM's CARD OF 'laws.FnGrowth'. -/
def fnGrowthUptoCard : Claim7 := { stood := { row := fnGrowthUptoRow, standIns := [], harness := (true, "89564ac2c1f05127b4304becf5bd209cb903fa0db5cb8a378716f1050328234a"), looks := false }, kinds := [], alts := [], laidByText := true, laidKinds := [.data, .data, .data], laidTests := true, laidLooks := .later }
def FnGrowthUptoCardSaid : Prop := Claim7.holds Tryd.pinned (.plain (OpenSpec.upto fnGrowthSpec)) fnGrowthUptoCard
end Rows
end Go.Proofs.YtngbibaphakifaaDoor
