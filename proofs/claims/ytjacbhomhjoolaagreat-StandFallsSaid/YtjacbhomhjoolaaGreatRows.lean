/-
  No cell of these rows narrows 'for every input' (looked for: loops, veiled, ifaces, maps, wideKeys, modest, calm, conditions, laid).
  DERIVED. THE GIVEN ROWS OF THIS SEAT. 3 by the template 'for every input the law returns true; each argument reads behind the call as it read before'; 0 by the template 'total and deterministic' (their statements: YtjacbhomhjoolaaGreatTotals.lean).
  GIVEN WITH THE SEED: the statements are not yours to turn. If you find one false, say at which input.
  Laid BY PROGRAM, IN A SANDBOX (cutbox-rows.mjs): the forced cells as the released guide's own fill.sh prints them over the translation 25a2e1b0b547b45f… (all of the seat's roots in one cut). By AI agents, Wed Nov 11 2026. No macro, syntax, notation, axiom, sorry.
-/
import Derived.Test.YtjacbhomhjoolaaGreatChecked
import GoSem.Claim
import GoSem.ClaimJoined
import GoSem.ClaimMapViews
import Derived.JoinedTies
import Derived.KernelRfl
namespace Go.Proofs.YtjacbhomhjoolaaGreat
/- THE CELL 'sum', in the pinned program and in every row, IS THE sha256 OF THE DUMP (.gsa) THAT YtjacbhomhjoolaaGreatProg.lean LOADS. Nothing in Lean hashes anything: it is a label: what it is worth is what the hold of that sum in a sandbox is worth. -/
noncomputable def Tryz.pinned : Pinned := { name := "ytjacbhomhjoolaagreat", sum := "25a2e1b0b547b45f00bbbd0d0ee8156c88a99a5d54e3bf84145d1a786a6d184d", checked := Tryz.checked }
namespace Rows
def none {H : Type} : Left H := { results := [], args := [] }

/-- 'studworklaw01.LatticeMoved': WHATEVER THE INPUT: true; the input reads as it did. -/
def latticeMovedSpec : ChangeSpec := { name := "latticeMoved", fn := fun _ => fun
  | [d1, d2, d3, d4] => { results := [.lit (.bool true)], args := [d1, d2, d3, d4] }
  | _ => none }
def latticeMovedRow : OpenClaim := { program := "ytjacbhomhjoolaagreat", sum := "25a2e1b0b547b45f00bbbd0d0ee8156c88a99a5d54e3bf84145d1a786a6d184d", func := "studwork/studworklaw01.LatticeMoved", spec := "latticeMoved", unfollowed := true, recurses := true, plainKeys := false, apart := false }
def LatticeMovedSaid : Prop := latticeMovedRow.holds Tryz.pinned (OpenSpec.ofChange latticeMovedSpec)

/-- ITS FALSE NEIGHBOUR: 'it returns false'. Refute it at one input. -/
def latticeMovedWrong : ChangeSpec := { name := "latticeMoved", fn := fun _ => fun
  | [d1, d2, d3, d4] => { results := [.lit (.bool false)], args := [d1, d2, d3, d4] }
  | _ => none }
def LatticeMovedWrongFalsely : Prop := latticeMovedRow.holds Tryz.pinned (OpenSpec.ofChange latticeMovedWrong)

/-- 'studworklaw01.LatticeExamples': WHATEVER THE INPUT: true; the input reads as it did. -/
def latticeExamplesSpec : ChangeSpec := { name := "latticeExamples", fn := fun _ => fun
  | [] => { results := [.lit (.bool true)], args := [] }
  | _ => none }
def latticeExamplesRow : OpenClaim := { program := "ytjacbhomhjoolaagreat", sum := "25a2e1b0b547b45f00bbbd0d0ee8156c88a99a5d54e3bf84145d1a786a6d184d", func := "studwork/studworklaw01.LatticeExamples", spec := "latticeExamples", unfollowed := true, recurses := true, plainKeys := false, apart := false }
def LatticeExamplesSaid : Prop := latticeExamplesRow.holds Tryz.pinned (OpenSpec.ofChange latticeExamplesSpec)

/-- ITS FALSE NEIGHBOUR: 'it returns false'. Refute it at one input. -/
def latticeExamplesWrong : ChangeSpec := { name := "latticeExamples", fn := fun _ => fun
  | [] => { results := [.lit (.bool false)], args := [] }
  | _ => none }
def LatticeExamplesWrongFalsely : Prop := latticeExamplesRow.holds Tryz.pinned (OpenSpec.ofChange latticeExamplesWrong)

/-- 'studworklaw03.StandFalls': WHATEVER THE INPUT: true; the input reads as it did. -/
def standFallsSpec : ChangeSpec := { name := "standFalls", fn := fun _ => fun
  | [d1, d2, d3, d4, d5] => { results := [.lit (.bool true)], args := [d1, d2, d3, d4, d5] }
  | _ => none }
def standFallsRow : OpenClaim := { program := "ytjacbhomhjoolaagreat", sum := "25a2e1b0b547b45f00bbbd0d0ee8156c88a99a5d54e3bf84145d1a786a6d184d", func := "studwork/studworklaw03.StandFalls", spec := "standFalls", unfollowed := true, recurses := true, plainKeys := false, apart := false }
def StandFallsSaid : Prop := standFallsRow.holds Tryz.pinned (OpenSpec.ofChange standFallsSpec)

/-- ITS FALSE NEIGHBOUR: 'it returns false'. Refute it at one input. -/
def standFallsWrong : ChangeSpec := { name := "standFalls", fn := fun _ => fun
  | [d1, d2, d3, d4, d5] => { results := [.lit (.bool false)], args := [d1, d2, d3, d4, d5] }
  | _ => none }
def StandFallsWrongFalsely : Prop := standFallsRow.holds Tryz.pinned (OpenSpec.ofChange standFallsWrong)

/- THE SECOND FORM. 'bulk': how many values and letters a reading holds, each counted each time it is reached (what is shared counts as often as it is met; a slice's spare places count too). A statement '..UptoSaid' is the law's where the arguments, and the package variables that the reading takes, are together of bulk at most 1048576: NARROWER than '..Said'. Prove '..Said' where nothing that the law and all that it calls make is longer than what came in: it says more and counts as full. Else prove '..UptoSaid'. A law counts once. -/
mutual
def uptoBulk {H : Type} : DataW H → Nat
  | .lit (.string bytes) => bytes.length + 1
  | .lit _ => 1
  | .nil => 1
  | .ptr d => uptoBulk d + 1
  | .slice elems spare => uptoBulkAll elems + uptoBulkAll spare + 1
  | .agg parts => uptoBulkAll parts + 1
  | .iface _ d => uptoBulk d + 1
  | .map entries => uptoBulkEntries entries + 1
  | .held _ => 1
def uptoBulkAll {H : Type} : List (DataW H) → Nat
  | [] => 0
  | d :: r => uptoBulk d + uptoBulkAll r
def uptoBulkEntries {H : Type} : List (Lit × DataW H) → Nat
  | [] => 0
  | x :: r => uptoBulkEntry x + uptoBulkEntries r
def uptoBulkEntry {H : Type} : Lit × DataW H → Nat
  | (.string bytes, d) => bytes.length + uptoBulk d + 1
  | (_, d) => uptoBulk d + 1
 end
def uptoSmall : (H : Type) → List (DataW H) → Bool := fun _ ds => decide (uptoBulkAll ds ≤ 1048576)
def OpenSpec.upto (s : _root_.Go.ChangeSpec) : _root_.Go.OpenSpec := { _root_.Go.OpenSpec.ofChange s with cond := some uptoSmall }

/-- 'studworklaw01.LatticeMoved', WHERE WHAT IT READS IS OF BULK AT MOST 1048576: true; the input reads as it did. -/
def latticeMovedUptoRow : OpenClaim := { program := "ytjacbhomhjoolaagreat", sum := "25a2e1b0b547b45f00bbbd0d0ee8156c88a99a5d54e3bf84145d1a786a6d184d", func := "studwork/studworklaw01.LatticeMoved", spec := "latticeMoved", unfollowed := true, recurses := true, plainKeys := false, apart := false, narrowed := true }
def LatticeMovedUptoSaid : Prop := latticeMovedUptoRow.holds Tryz.pinned (OpenSpec.upto latticeMovedSpec)

/-- 'studworklaw01.LatticeExamples', WHERE WHAT IT READS IS OF BULK AT MOST 1048576: true; the input reads as it did. -/
def latticeExamplesUptoRow : OpenClaim := { program := "ytjacbhomhjoolaagreat", sum := "25a2e1b0b547b45f00bbbd0d0ee8156c88a99a5d54e3bf84145d1a786a6d184d", func := "studwork/studworklaw01.LatticeExamples", spec := "latticeExamples", unfollowed := true, recurses := true, plainKeys := false, apart := false, narrowed := true }
def LatticeExamplesUptoSaid : Prop := latticeExamplesUptoRow.holds Tryz.pinned (OpenSpec.upto latticeExamplesSpec)

/-- 'studworklaw03.StandFalls', WHERE WHAT IT READS IS OF BULK AT MOST 1048576: true; the input reads as it did. -/
def standFallsUptoRow : OpenClaim := { program := "ytjacbhomhjoolaagreat", sum := "25a2e1b0b547b45f00bbbd0d0ee8156c88a99a5d54e3bf84145d1a786a6d184d", func := "studwork/studworklaw03.StandFalls", spec := "standFalls", unfollowed := true, recurses := true, plainKeys := false, apart := false, narrowed := true }
def StandFallsUptoSaid : Prop := standFallsUptoRow.holds Tryz.pinned (OpenSpec.upto standFallsSpec)

end Rows
end Go.Proofs.YtjacbhomhjoolaaGreat
