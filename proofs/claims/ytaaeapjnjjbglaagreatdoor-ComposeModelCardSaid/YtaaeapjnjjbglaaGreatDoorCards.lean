/-
  DERIVED. GIVEN WITH THE SEED: THE CARDS: each row of YtaaeapjnjjbglaaGreatDoorRows.lean that lists a variable, with what it lists TIED to the program's text (the seventh form; the later family's looks); each row that meets fmt, with fmt's text TOLD by the authors' own Lean function (tested against real Go, not proved from fmt's source: count such statements apart). THE CARD IS WHAT COUNTS. Prove the row's statement (the work); the ties are given (YtaaeapjnjjbglaaGreatDoorTie.lean); close each card by the builder's one call (the guide's Derived/Test/ToyasCard.lean, 'card_holds'). Laid BY PROGRAM, IN A SANDBOX (cutbox-door.mjs). By AI agents, Wed Nov 11 2026. No macro, syntax, notation, axiom, sorry.
-/
import Derived.Test.YtaaeapjnjjbglaaGreatDoorRows
import GoSem.ClaimSeven
namespace Go.Proofs.YtaaeapjnjjbglaaGreatDoor
namespace Rows

/-- THE TIED CARD OF 'studworklaw07.ComposeModel'. -/
def composeModelCard : Claim7 := { stood := { row := composeModelRow, standIns := [], harness := (true, "7c89f87585caed5975607ce9f4da96f9c501ae844c09b1f04233f43ce043a2c6"), looks := false }, kinds := [], alts := [], laidByText := true, laidKinds := [.data], laidTests := true, laidLooks := .later }
def ComposeModelCardSaid : Prop := Claim7.holds Tryz.pinned (.plain (OpenSpec.ofChange composeModelSpec)) composeModelCard

/-- THE SECOND FORM's CARD OF 'studworklaw07.ComposeModel'. -/
def composeModelUptoCard : Claim7 := { stood := { row := composeModelUptoRow, standIns := [], harness := (true, "7c89f87585caed5975607ce9f4da96f9c501ae844c09b1f04233f43ce043a2c6"), looks := false }, kinds := [], alts := [], laidByText := true, laidKinds := [.data], laidTests := true, laidLooks := .later }
def ComposeModelUptoCardSaid : Prop := Claim7.holds Tryz.pinned (.plain (OpenSpec.upto composeModelSpec)) composeModelUptoCard
end Rows
end Go.Proofs.YtaaeapjnjjbglaaGreatDoor
