/-
  DERIVED. GIVEN WITH THE SEED: THE CARDS: each row of YtojolpbpjimfgaaGreatDoorRows.lean that lists a variable, with what it lists TIED to the program's text (the seventh form; the later family's looks); each row that meets fmt, with fmt's text TOLD by the authors' own Lean function (tested against real Go, not proved from fmt's source: count such statements apart). THE CARD IS WHAT COUNTS. Prove the row's statement (the work); the ties are given (YtojolpbpjimfgaaGreatDoorTie.lean); close each card by the builder's one call (the guide's Derived/Test/ToyasCard.lean, 'card_holds'). Laid BY PROGRAM, IN A SANDBOX (cutbox-door.mjs). By AI agents, Wed Nov 11 2026. No macro, syntax, notation, axiom, sorry.
-/
import Derived.Test.YtojolpbpjimfgaaGreatDoorRows
import GoSem.ClaimSeven
namespace Go.Proofs.YtojolpbpjimfgaaGreatDoor
namespace Rows

/-- THE TIED CARD OF 'studworklaw06.StepsWays'. -/
def stepsWaysCard : Claim7 := { stood := { row := stepsWaysRow, standIns := [], harness := (true, "9494c68cf548827d306c70f048666a8cd91ce897671a910197b5eda3e11a510f"), looks := true }, kinds := [], alts := [], laidByText := true, laidKinds := [.data], laidTests := true, laidLooks := .later }
def StepsWaysCardSaid : Prop := Claim7.holds Tryz.pinned (.plain (OpenSpec.ofChange stepsWaysSpec)) stepsWaysCard

/-- THE TIED CARD OF 'studworklaw06.StepsChecks'. -/
def stepsChecksCard : Claim7 := { stood := { row := stepsChecksRow, standIns := [], harness := (true, "9494c68cf548827d306c70f048666a8cd91ce897671a910197b5eda3e11a510f"), looks := true }, kinds := [], alts := [], laidByText := true, laidKinds := [.data], laidTests := true, laidLooks := .later }
def StepsChecksCardSaid : Prop := Claim7.holds Tryz.pinned (.plain (OpenSpec.ofChange stepsChecksSpec)) stepsChecksCard

/-- THE TIED CARD OF 'studworklaw06.StepsFound'. -/
def stepsFoundCard : Claim7 := { stood := { row := stepsFoundRow, standIns := [], harness := (true, "9494c68cf548827d306c70f048666a8cd91ce897671a910197b5eda3e11a510f"), looks := true }, kinds := [], alts := [], laidByText := true, laidKinds := [.data], laidTests := true, laidLooks := .later }
def StepsFoundCardSaid : Prop := Claim7.holds Tryz.pinned (.plain (OpenSpec.ofChange stepsFoundSpec)) stepsFoundCard

/-- THE SECOND FORM's CARD OF 'studworklaw06.StepsWays'. -/
def stepsWaysUptoCard : Claim7 := { stood := { row := stepsWaysUptoRow, standIns := [], harness := (true, "9494c68cf548827d306c70f048666a8cd91ce897671a910197b5eda3e11a510f"), looks := true }, kinds := [], alts := [], laidByText := true, laidKinds := [.data], laidTests := true, laidLooks := .later }
def StepsWaysUptoCardSaid : Prop := Claim7.holds Tryz.pinned (.plain (OpenSpec.upto stepsWaysSpec)) stepsWaysUptoCard

/-- THE SECOND FORM's CARD OF 'studworklaw06.StepsChecks'. -/
def stepsChecksUptoCard : Claim7 := { stood := { row := stepsChecksUptoRow, standIns := [], harness := (true, "9494c68cf548827d306c70f048666a8cd91ce897671a910197b5eda3e11a510f"), looks := true }, kinds := [], alts := [], laidByText := true, laidKinds := [.data], laidTests := true, laidLooks := .later }
def StepsChecksUptoCardSaid : Prop := Claim7.holds Tryz.pinned (.plain (OpenSpec.upto stepsChecksSpec)) stepsChecksUptoCard

/-- THE SECOND FORM's CARD OF 'studworklaw06.StepsFound'. -/
def stepsFoundUptoCard : Claim7 := { stood := { row := stepsFoundUptoRow, standIns := [], harness := (true, "9494c68cf548827d306c70f048666a8cd91ce897671a910197b5eda3e11a510f"), looks := true }, kinds := [], alts := [], laidByText := true, laidKinds := [.data], laidTests := true, laidLooks := .later }
def StepsFoundUptoCardSaid : Prop := Claim7.holds Tryz.pinned (.plain (OpenSpec.upto stepsFoundSpec)) stepsFoundUptoCard
end Rows
end Go.Proofs.YtojolpbpjimfgaaGreatDoor
