/-
  DERIVED. GIVEN WITH THE SEED: THE CARDS: each row of YtaaeapjnjjbglaaDoorRows.lean that lists a variable, with what it lists TIED to the program's text (the seventh form; the later family's looks); each row that meets fmt, with fmt's text TOLD by the authors' own Lean function (tested against real Go, not proved from fmt's source: count such statements apart). THE CARD IS WHAT COUNTS. Prove the row's statement (the work); the ties are given (YtaaeapjnjjbglaaDoorTie.lean); close each card by the builder's one call (the guide's Derived/Test/ToyasCard.lean, 'card_holds'). Laid BY PROGRAM, IN A SANDBOX (cutbox-door.mjs). By AI agents, Wed Nov 11 2026. No macro, syntax, notation, axiom, sorry.
-/
import Derived.Test.YtaaeapjnjjbglaaDoorRows
import GoSem.ClaimSeven
namespace Go.Proofs.YtaaeapjnjjbglaaDoor
namespace Rows

/-- THE TIED CARD OF 'studworklaw07.ComposeSearches'. -/
def composeSearchesCard : Claim7 := { stood := { row := composeSearchesRow, standIns := [], harness := (true, "f22b07242a8cc66d09e3f3c60cbede1168961eb5eb49585aac306a15057642c7"), looks := false }, kinds := [], alts := [], laidByText := true, laidKinds := [.data], laidTests := true, laidLooks := .later }
def ComposeSearchesCardSaid : Prop := Claim7.holds Tryd.pinned (.plain (OpenSpec.ofChange composeSearchesSpec)) composeSearchesCard

/-- THE TIED CARD OF 'studworklaw07.ComposeLeast'. -/
def composeLeastCard : Claim7 := { stood := { row := composeLeastRow, standIns := [], harness := (true, "f22b07242a8cc66d09e3f3c60cbede1168961eb5eb49585aac306a15057642c7"), looks := false }, kinds := [], alts := [], laidByText := true, laidKinds := [.data], laidTests := true, laidLooks := .later }
def ComposeLeastCardSaid : Prop := Claim7.holds Tryd.pinned (.plain (OpenSpec.ofChange composeLeastSpec)) composeLeastCard

/-- THE TIED CARD OF 'studworklaw07.ComposeCells'. -/
def composeCellsCard : Claim7 := { stood := { row := composeCellsRow, standIns := [], harness := (true, "f22b07242a8cc66d09e3f3c60cbede1168961eb5eb49585aac306a15057642c7"), looks := false }, kinds := [], alts := [], laidByText := true, laidKinds := [.data], laidTests := true, laidLooks := .later }
def ComposeCellsCardSaid : Prop := Claim7.holds Tryd.pinned (.plain (OpenSpec.ofChange composeCellsSpec)) composeCellsCard

/-- THE TIED CARD OF 'studworklaw07.ComposeExamples'. -/
def composeExamplesCard : Claim7 := { stood := { row := composeExamplesRow, standIns := [], harness := (true, "f22b07242a8cc66d09e3f3c60cbede1168961eb5eb49585aac306a15057642c7"), looks := false }, kinds := [], alts := [], laidByText := true, laidKinds := [.data], laidTests := true, laidLooks := .later }
def ComposeExamplesCardSaid : Prop := Claim7.holds Tryd.pinned (.plain (OpenSpec.ofChange composeExamplesSpec)) composeExamplesCard

/-- THE SECOND FORM's CARD OF 'studworklaw07.ComposeSearches'. -/
def composeSearchesUptoCard : Claim7 := { stood := { row := composeSearchesUptoRow, standIns := [], harness := (true, "f22b07242a8cc66d09e3f3c60cbede1168961eb5eb49585aac306a15057642c7"), looks := false }, kinds := [], alts := [], laidByText := true, laidKinds := [.data], laidTests := true, laidLooks := .later }
def ComposeSearchesUptoCardSaid : Prop := Claim7.holds Tryd.pinned (.plain (OpenSpec.upto composeSearchesSpec)) composeSearchesUptoCard

/-- THE SECOND FORM's CARD OF 'studworklaw07.ComposeLeast'. -/
def composeLeastUptoCard : Claim7 := { stood := { row := composeLeastUptoRow, standIns := [], harness := (true, "f22b07242a8cc66d09e3f3c60cbede1168961eb5eb49585aac306a15057642c7"), looks := false }, kinds := [], alts := [], laidByText := true, laidKinds := [.data], laidTests := true, laidLooks := .later }
def ComposeLeastUptoCardSaid : Prop := Claim7.holds Tryd.pinned (.plain (OpenSpec.upto composeLeastSpec)) composeLeastUptoCard

/-- THE SECOND FORM's CARD OF 'studworklaw07.ComposeCells'. -/
def composeCellsUptoCard : Claim7 := { stood := { row := composeCellsUptoRow, standIns := [], harness := (true, "f22b07242a8cc66d09e3f3c60cbede1168961eb5eb49585aac306a15057642c7"), looks := false }, kinds := [], alts := [], laidByText := true, laidKinds := [.data], laidTests := true, laidLooks := .later }
def ComposeCellsUptoCardSaid : Prop := Claim7.holds Tryd.pinned (.plain (OpenSpec.upto composeCellsSpec)) composeCellsUptoCard

/-- THE SECOND FORM's CARD OF 'studworklaw07.ComposeExamples'. -/
def composeExamplesUptoCard : Claim7 := { stood := { row := composeExamplesUptoRow, standIns := [], harness := (true, "f22b07242a8cc66d09e3f3c60cbede1168961eb5eb49585aac306a15057642c7"), looks := false }, kinds := [], alts := [], laidByText := true, laidKinds := [.data], laidTests := true, laidLooks := .later }
def ComposeExamplesUptoCardSaid : Prop := Claim7.holds Tryd.pinned (.plain (OpenSpec.upto composeExamplesSpec)) composeExamplesUptoCard
end Rows
end Go.Proofs.YtaaeapjnjjbglaaDoor
