/-
  DERIVED. GIVEN WITH THE SEED: THE CARDS: each row of YtjglbadkbhopoaaGreatDoorRows.lean that lists a variable, with what it lists TIED to the program's text (the seventh form; the later family's looks); each row that meets fmt, with fmt's text TOLD by the authors' own Lean function (tested against real Go, not proved from fmt's source: count such statements apart). THE CARD IS WHAT COUNTS. Prove the row's statement (the work); the ties are given (YtjglbadkbhopoaaGreatDoorTie.lean); close each card by the builder's one call (the guide's Derived/Test/ToyasCard.lean, 'card_holds'). Laid BY PROGRAM, IN A SANDBOX (cutbox-door.mjs). By AI agents, Wed Nov 11 2026. No macro, syntax, notation, axiom, sorry.
-/
import Derived.Test.YtjglbadkbhopoaaGreatDoorRows
import GoSem.ClaimSeven
namespace Go.Proofs.YtjglbadkbhopoaaGreatDoor
namespace Rows

/-- THE TIED CARD OF 'laws.FnOutText'. -/
def fnOutTextCard : Claim7 := { stood := { row := fnOutTextRow, standIns := [], harness := (true, "2f71f69840f80791c0e846b2cea5b932f342798d252444f6856ffcca3e3c56e0"), looks := false }, kinds := [], alts := [], laidByText := true, laidKinds := [.data, .data, .data, .data, .pinned], laidTests := true, laidLooks := .later }
def FnOutTextCardSaid : Prop := Claim7.holds Tryz.pinned (.plain (OpenSpec.ofChange fnOutTextSpec)) fnOutTextCard

/-- THE TIED CARD OF 'laws.FnOutOk'. -/
def fnOutOkCard : Claim7 := { stood := { row := fnOutOkRow, standIns := [], harness := (true, "2f71f69840f80791c0e846b2cea5b932f342798d252444f6856ffcca3e3c56e0"), looks := false }, kinds := [], alts := [], laidByText := true, laidKinds := [.data, .data, .data, .data, .pinned], laidTests := true, laidLooks := .later }
def FnOutOkCardSaid : Prop := Claim7.holds Tryz.pinned (.plain (OpenSpec.ofChange fnOutOkSpec)) fnOutOkCard

/-- THE SECOND FORM's CARD OF 'laws.FnOutText'. -/
def fnOutTextUptoCard : Claim7 := { stood := { row := fnOutTextUptoRow, standIns := [], harness := (true, "2f71f69840f80791c0e846b2cea5b932f342798d252444f6856ffcca3e3c56e0"), looks := false }, kinds := [], alts := [], laidByText := true, laidKinds := [.data, .data, .data, .data, .pinned], laidTests := true, laidLooks := .later }
def FnOutTextUptoCardSaid : Prop := Claim7.holds Tryz.pinned (.plain (OpenSpec.upto fnOutTextSpec)) fnOutTextUptoCard

/-- THE SECOND FORM's CARD OF 'laws.FnOutOk'. -/
def fnOutOkUptoCard : Claim7 := { stood := { row := fnOutOkUptoRow, standIns := [], harness := (true, "2f71f69840f80791c0e846b2cea5b932f342798d252444f6856ffcca3e3c56e0"), looks := false }, kinds := [], alts := [], laidByText := true, laidKinds := [.data, .data, .data, .data, .pinned], laidTests := true, laidLooks := .later }
def FnOutOkUptoCardSaid : Prop := Claim7.holds Tryz.pinned (.plain (OpenSpec.upto fnOutOkSpec)) fnOutOkUptoCard
end Rows
end Go.Proofs.YtjglbadkbhopoaaGreatDoor
