/-
  DERIVED. GIVEN WITH THE SEED: THE CARDS: each row of YtdoggcfdfkkedaaGreatDoorRows.lean that lists a variable, with what it lists TIED to the program's text (the seventh form; the later family's looks); each row that meets fmt, with fmt's text TOLD by the authors' own Lean function (tested against real Go, not proved from fmt's source: count such statements apart). THE CARD IS WHAT COUNTS. Prove the row's statement (the work); the ties are given (YtdoggcfdfkkedaaGreatDoorTie.lean); close each card by the builder's one call (the guide's Derived/Test/ToyasCard.lean, 'card_holds'). Laid BY PROGRAM, IN A SANDBOX (cutbox-door.mjs). By AI agents, Wed Nov 11 2026. No macro, syntax, notation, axiom, sorry.
-/
import Derived.Test.YtdoggcfdfkkedaaGreatDoorRows
import GoSem.ClaimSeven
namespace Go.Proofs.YtdoggcfdfkkedaaGreatDoor
namespace Rows

/-- THE TIED CARD OF 'laws.FnExactWldOk'. -/
def fnExactWldOkCard : Claim7 := { stood := { row := fnExactWldOkRow, standIns := [], harness := (true, "c6d5ce72349d00900e292c23e8a7ae63c4a414c86c77165ef2b39bfbf48b5347"), looks := false }, kinds := [], alts := [], laidByText := true, laidKinds := [.data, .pinned], laidTests := true, laidLooks := .later }
def FnExactWldOkCardSaid : Prop := Claim7.holds Tryz.pinned (.plain (OpenSpec.ofChange fnExactWldOkSpec)) fnExactWldOkCard

/-- THE SECOND FORM's CARD OF 'laws.FnExactWldOk'. -/
def fnExactWldOkUptoCard : Claim7 := { stood := { row := fnExactWldOkUptoRow, standIns := [], harness := (true, "c6d5ce72349d00900e292c23e8a7ae63c4a414c86c77165ef2b39bfbf48b5347"), looks := false }, kinds := [], alts := [], laidByText := true, laidKinds := [.data, .pinned], laidTests := true, laidLooks := .later }
def FnExactWldOkUptoCardSaid : Prop := Claim7.holds Tryz.pinned (.plain (OpenSpec.upto fnExactWldOkSpec)) fnExactWldOkUptoCard
end Rows
end Go.Proofs.YtdoggcfdfkkedaaGreatDoor
