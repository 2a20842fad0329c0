/-
  NARROWER THAN 'FOR EVERY INPUT', by the rows' own cells (each row's printed sentence says how): ComposeSearches: laid · ComposeLeast: laid · ComposeCells: laid · ComposeExamples: laid.
  DERIVED. THE GIVEN ROWS OF THIS SEAT. 4 by the template 'for every input the law returns true; each argument reads behind the call as it read before'; 0 by the template 'total and deterministic' (their statements: YtaaeapjnjjbglaaDoorTotals.lean).
  GIVEN WITH THE SEED: the statements are not yours to turn. If you find one false, say at which input.
  Laid BY PROGRAM, IN A SANDBOX (cutbox-rows.mjs): the forced cells as the released guide's own fill.sh prints them over the translation 843011691f2969cc… (all of the seat's roots in one cut). By AI agents, Wed Nov 11 2026. No macro, syntax, notation, axiom, sorry.
-/
import Derived.Test.YtaaeapjnjjbglaaDoorChecked
import GoSem.Claim
import GoSem.ClaimJoined
import GoSem.ClaimMapViews
import Derived.JoinedTies
import Derived.KernelRfl
namespace Go.Proofs.YtaaeapjnjjbglaaDoor
/- THE CELL 'sum', in the pinned program and in every row, IS THE sha256 OF THE DUMP (.gsa) THAT YtaaeapjnjjbglaaDoorProg.lean LOADS. Nothing in Lean hashes anything: it is a label: what it is worth is what the hold of that sum in a sandbox is worth. -/
noncomputable def Tryd.pinned : Pinned := { name := "ytaaeapjnjjbglaadoor", sum := "843011691f2969cc989e88f7a47029cc685eb15096f79a1bdb8bbbf8fcd006a2", checked := Tryd.checked }
namespace Rows
def none {H : Type} : Left H := { results := [], args := [] }

/- WHAT THE LISTED PACKAGE-LEVEL VARIABLES READ AS WHEN THE CALL BEGINS. Each datum BY PROGRAM (the guide's laid-datum.mjs) off the statement by which the dump's own 'gosem.cut.vars' lays the variable. In a bare row this is a premise. The card (YtaaeapjnjjbglaaDoorCards.lean) ties it to the program's text. -/
def laid_math_bits_deBruijn32tab {H : Type} : DataW H := .agg [.lit (.int .u8 0), .lit (.int .u8 1), .lit (.int .u8 28), .lit (.int .u8 2), .lit (.int .u8 29), .lit (.int .u8 14), .lit (.int .u8 24), .lit (.int .u8 3), .lit (.int .u8 30), .lit (.int .u8 22), .lit (.int .u8 20), .lit (.int .u8 15), .lit (.int .u8 25), .lit (.int .u8 17), .lit (.int .u8 4), .lit (.int .u8 8), .lit (.int .u8 31), .lit (.int .u8 27), .lit (.int .u8 13), .lit (.int .u8 23), .lit (.int .u8 21), .lit (.int .u8 19), .lit (.int .u8 16), .lit (.int .u8 7), .lit (.int .u8 26), .lit (.int .u8 12), .lit (.int .u8 18), .lit (.int .u8 6), .lit (.int .u8 11), .lit (.int .u8 5), .lit (.int .u8 10), .lit (.int .u8 9)]

/-- 'studworklaw07.ComposeSearches': WHATEVER THE INPUT: true; the input reads as it did. -/
def composeSearchesSpec : ChangeSpec := { name := "composeSearches", fn := fun _ => fun
  | [d1, d2] => { results := [.lit (.bool true)], args := [d1, d2] }
  | _ => none }
def composeSearchesRow : OpenClaim := { program := "ytaaeapjnjjbglaadoor", sum := "843011691f2969cc989e88f7a47029cc685eb15096f79a1bdb8bbbf8fcd006a2", func := "studwork/studworklaw07.ComposeSearches", spec := "composeSearches", unfollowed := true, recurses := true, named := ["math/bits.deBruijn32tab"], plainKeys := false, apart := false, laid := [("math/bits.deBruijn32tab", laid_math_bits_deBruijn32tab)] }
def ComposeSearchesSaid : Prop := composeSearchesRow.holds Tryd.pinned (OpenSpec.ofChange composeSearchesSpec)

/-- ITS FALSE NEIGHBOUR: 'it returns false'. Refute it at one input. -/
def composeSearchesWrong : ChangeSpec := { name := "composeSearches", fn := fun _ => fun
  | [d1, d2] => { results := [.lit (.bool false)], args := [d1, d2] }
  | _ => none }
def ComposeSearchesWrongFalsely : Prop := composeSearchesRow.holds Tryd.pinned (OpenSpec.ofChange composeSearchesWrong)

/-- 'studworklaw07.ComposeLeast': WHATEVER THE INPUT: true; the input reads as it did. -/
def composeLeastSpec : ChangeSpec := { name := "composeLeast", fn := fun _ => fun
  | [d1, d2, d3] => { results := [.lit (.bool true)], args := [d1, d2, d3] }
  | _ => none }
def composeLeastRow : OpenClaim := { program := "ytaaeapjnjjbglaadoor", sum := "843011691f2969cc989e88f7a47029cc685eb15096f79a1bdb8bbbf8fcd006a2", func := "studwork/studworklaw07.ComposeLeast", spec := "composeLeast", unfollowed := true, recurses := true, named := ["math/bits.deBruijn32tab"], plainKeys := false, apart := false, laid := [("math/bits.deBruijn32tab", laid_math_bits_deBruijn32tab)] }
def ComposeLeastSaid : Prop := composeLeastRow.holds Tryd.pinned (OpenSpec.ofChange composeLeastSpec)

/-- ITS FALSE NEIGHBOUR: 'it returns false'. Refute it at one input. -/
def composeLeastWrong : ChangeSpec := { name := "composeLeast", fn := fun _ => fun
  | [d1, d2, d3] => { results := [.lit (.bool false)], args := [d1, d2, d3] }
  | _ => none }
def ComposeLeastWrongFalsely : Prop := composeLeastRow.holds Tryd.pinned (OpenSpec.ofChange composeLeastWrong)

/-- 'studworklaw07.ComposeCells': WHATEVER THE INPUT: true; the input reads as it did. -/
def composeCellsSpec : ChangeSpec := { name := "composeCells", fn := fun _ => fun
  | [d1, d2, d3] => { results := [.lit (.bool true)], args := [d1, d2, d3] }
  | _ => none }
def composeCellsRow : OpenClaim := { program := "ytaaeapjnjjbglaadoor", sum := "843011691f2969cc989e88f7a47029cc685eb15096f79a1bdb8bbbf8fcd006a2", func := "studwork/studworklaw07.ComposeCells", spec := "composeCells", unfollowed := true, recurses := true, named := ["math/bits.deBruijn32tab"], plainKeys := false, apart := false, laid := [("math/bits.deBruijn32tab", laid_math_bits_deBruijn32tab)] }
def ComposeCellsSaid : Prop := composeCellsRow.holds Tryd.pinned (OpenSpec.ofChange composeCellsSpec)

/-- ITS FALSE NEIGHBOUR: 'it returns false'. Refute it at one input. -/
def composeCellsWrong : ChangeSpec := { name := "composeCells", fn := fun _ => fun
  | [d1, d2, d3] => { results := [.lit (.bool false)], args := [d1, d2, d3] }
  | _ => none }
def ComposeCellsWrongFalsely : Prop := composeCellsRow.holds Tryd.pinned (OpenSpec.ofChange composeCellsWrong)

/-- 'studworklaw07.ComposeExamples': WHATEVER THE INPUT: true; the input reads as it did. -/
def composeExamplesSpec : ChangeSpec := { name := "composeExamples", fn := fun _ => fun
  | [] => { results := [.lit (.bool true)], args := [] }
  | _ => none }
def composeExamplesRow : OpenClaim := { program := "ytaaeapjnjjbglaadoor", sum := "843011691f2969cc989e88f7a47029cc685eb15096f79a1bdb8bbbf8fcd006a2", func := "studwork/studworklaw07.ComposeExamples", spec := "composeExamples", unfollowed := true, recurses := true, named := ["math/bits.deBruijn32tab"], plainKeys := false, apart := false, laid := [("math/bits.deBruijn32tab", laid_math_bits_deBruijn32tab)] }
def ComposeExamplesSaid : Prop := composeExamplesRow.holds Tryd.pinned (OpenSpec.ofChange composeExamplesSpec)

/-- ITS FALSE NEIGHBOUR: 'it returns false'. Refute it at one input. -/
def composeExamplesWrong : ChangeSpec := { name := "composeExamples", fn := fun _ => fun
  | [] => { results := [.lit (.bool false)], args := [] }
  | _ => none }
def ComposeExamplesWrongFalsely : Prop := composeExamplesRow.holds Tryd.pinned (OpenSpec.ofChange composeExamplesWrong)

/- THE SECOND FORM. 'bulk': how many values and letters a reading holds, each counted each time it is reached (what is shared counts as often as it is met; a slice's spare places count too). A statement '..UptoSaid' is the law's where the arguments, and the package variables that the reading takes, are together of bulk at most 1048576: NARROWER than '..Said'. Prove '..Said' where nothing that the law and all that it calls make is longer than what came in: it says more and counts as full. Else prove '..UptoSaid'. A law counts once. -/
mutual
def uptoBulk {H : Type} : DataW H → Nat
  | .lit (.string bytes) => bytes.length + 1
  | .lit _ => 1
  | .nil => 1
  | .ptr d => uptoBulk d + 1
  | .slice elems spare => uptoBulkAll elems + uptoBulkAll spare + 1
  | .agg parts => uptoBulkAll parts + 1
  | .iface _ d => uptoBulk d + 1
  | .map entries => uptoBulkEntries entries + 1
  | .held _ => 1
def uptoBulkAll {H : Type} : List (DataW H) → Nat
  | [] => 0
  | d :: r => uptoBulk d + uptoBulkAll r
def uptoBulkEntries {H : Type} : List (Lit × DataW H) → Nat
  | [] => 0
  | x :: r => uptoBulkEntry x + uptoBulkEntries r
def uptoBulkEntry {H : Type} : Lit × DataW H → Nat
  | (.string bytes, d) => bytes.length + uptoBulk d + 1
  | (_, d) => uptoBulk d + 1
 end
def uptoSmall : (H : Type) → List (DataW H) → Bool := fun _ ds => decide (uptoBulkAll ds ≤ 1048576)
def OpenSpec.upto (s : _root_.Go.ChangeSpec) : _root_.Go.OpenSpec := { _root_.Go.OpenSpec.ofChange s with cond := some uptoSmall }

/-- 'studworklaw07.ComposeSearches', WHERE WHAT IT READS IS OF BULK AT MOST 1048576: true; the input reads as it did. -/
def composeSearchesUptoRow : OpenClaim := { program := "ytaaeapjnjjbglaadoor", sum := "843011691f2969cc989e88f7a47029cc685eb15096f79a1bdb8bbbf8fcd006a2", func := "studwork/studworklaw07.ComposeSearches", spec := "composeSearches", unfollowed := true, recurses := true, named := ["math/bits.deBruijn32tab"], plainKeys := false, apart := false, laid := [("math/bits.deBruijn32tab", laid_math_bits_deBruijn32tab)], narrowed := true }
def ComposeSearchesUptoSaid : Prop := composeSearchesUptoRow.holds Tryd.pinned (OpenSpec.upto composeSearchesSpec)

/-- 'studworklaw07.ComposeLeast', WHERE WHAT IT READS IS OF BULK AT MOST 1048576: true; the input reads as it did. -/
def composeLeastUptoRow : OpenClaim := { program := "ytaaeapjnjjbglaadoor", sum := "843011691f2969cc989e88f7a47029cc685eb15096f79a1bdb8bbbf8fcd006a2", func := "studwork/studworklaw07.ComposeLeast", spec := "composeLeast", unfollowed := true, recurses := true, named := ["math/bits.deBruijn32tab"], plainKeys := false, apart := false, laid := [("math/bits.deBruijn32tab", laid_math_bits_deBruijn32tab)], narrowed := true }
def ComposeLeastUptoSaid : Prop := composeLeastUptoRow.holds Tryd.pinned (OpenSpec.upto composeLeastSpec)

/-- 'studworklaw07.ComposeCells', WHERE WHAT IT READS IS OF BULK AT MOST 1048576: true; the input reads as it did. -/
def composeCellsUptoRow : OpenClaim := { program := "ytaaeapjnjjbglaadoor", sum := "843011691f2969cc989e88f7a47029cc685eb15096f79a1bdb8bbbf8fcd006a2", func := "studwork/studworklaw07.ComposeCells", spec := "composeCells", unfollowed := true, recurses := true, named := ["math/bits.deBruijn32tab"], plainKeys := false, apart := false, laid := [("math/bits.deBruijn32tab", laid_math_bits_deBruijn32tab)], narrowed := true }
def ComposeCellsUptoSaid : Prop := composeCellsUptoRow.holds Tryd.pinned (OpenSpec.upto composeCellsSpec)

/-- 'studworklaw07.ComposeExamples', WHERE WHAT IT READS IS OF BULK AT MOST 1048576: true; the input reads as it did. -/
def composeExamplesUptoRow : OpenClaim := { program := "ytaaeapjnjjbglaadoor", sum := "843011691f2969cc989e88f7a47029cc685eb15096f79a1bdb8bbbf8fcd006a2", func := "studwork/studworklaw07.ComposeExamples", spec := "composeExamples", unfollowed := true, recurses := true, named := ["math/bits.deBruijn32tab"], plainKeys := false, apart := false, laid := [("math/bits.deBruijn32tab", laid_math_bits_deBruijn32tab)], narrowed := true }
def ComposeExamplesUptoSaid : Prop := composeExamplesUptoRow.holds Tryd.pinned (OpenSpec.upto composeExamplesSpec)

end Rows
end Go.Proofs.YtaaeapjnjjbglaaDoor
