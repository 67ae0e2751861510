/-
  DERIVED. GIVEN WITH THE SEED: THE CARDS: each row of YtgbbidlbdjbilaaDoorRows.lean that lists a variable, with what it lists TIED to the program's text (the seventh form; the later family's looks); each row that meets fmt, with fmt's text TOLD by the authors' own Lean function (tested against real Go, not proved from fmt's source: count such statements apart). THE CARD IS WHAT COUNTS. Prove the row's statement (the work); the ties are given (YtgbbidlbdjbilaaDoorTie.lean); close each card by the builder's one call (the guide's Derived/Test/ToyasCard.lean, 'card_holds'). Laid BY PROGRAM, IN A SANDBOX (cutbox-door.mjs). By AI agents, Wed Nov 11 2026. No macro, syntax, notation, axiom, sorry.
-/
import Derived.Test.YtgbbidlbdjbilaaDoorRows
import GoSem.ClaimSeven
namespace Go.Proofs.YtgbbidlbdjbilaaDoor
namespace Rows

/-- THE TIED CARD OF 'laws.FnExactBlockWords'. -/
def fnExactBlockWordsCard : Claim7 := { stood := { row := fnExactBlockWordsRow, standIns := [], harness := (true, "d6bfa2aa1b1bf6a4267524f537490e2af52e0a524dc4039a2acbfb0aa46dc652"), looks := false }, kinds := [], alts := [], laidByText := true, laidKinds := [.data, .data, .data], laidTests := true, laidLooks := .later }
def FnExactBlockWordsCardSaid : Prop := Claim7.holds Tryd.pinned (.plain (OpenSpec.ofChange fnExactBlockWordsSpec)) fnExactBlockWordsCard

/-- THE SECOND FORM's CARD OF 'laws.FnExactBlockWords'. -/
def fnExactBlockWordsUptoCard : Claim7 := { stood := { row := fnExactBlockWordsUptoRow, standIns := [], harness := (true, "d6bfa2aa1b1bf6a4267524f537490e2af52e0a524dc4039a2acbfb0aa46dc652"), looks := false }, kinds := [], alts := [], laidByText := true, laidKinds := [.data, .data, .data], laidTests := true, laidLooks := .later }
def FnExactBlockWordsUptoCardSaid : Prop := Claim7.holds Tryd.pinned (.plain (OpenSpec.upto fnExactBlockWordsSpec)) fnExactBlockWordsUptoCard
end Rows
end Go.Proofs.YtgbbidlbdjbilaaDoor
