/-
  No cell of these rows narrows 'for every input' (looked for: loops, veiled, ifaces, maps, wideKeys, modest, calm, conditions, laid).
  DERIVED. THE GIVEN ROWS OF THIS SEAT. 13 by the template 'for every input the law returns true; each argument reads behind the call as it read before'; 0 by the template 'total and deterministic' (their statements: YtdlclfcfleckmaaGreatTotals.lean).
  GIVEN WITH THE SEED: the statements are not yours to turn. If you find one false, say at which input.
  Laid BY PROGRAM, IN A SANDBOX (cutbox-rows.mjs): the forced cells as the released guide's own fill.sh prints them over the translation dd5261593e761d61… (all of the seat's roots in one cut). By AI agents, Wed Nov 11 2026. No macro, syntax, notation, axiom, sorry.
-/
import Derived.Test.YtdlclfcfleckmaaGreatChecked
import GoSem.Claim
import GoSem.ClaimJoined
import GoSem.ClaimMapViews
import Derived.JoinedTies
import Derived.KernelRfl
namespace Go.Proofs.YtdlclfcfleckmaaGreat
/- THE CELL 'sum', in the pinned program and in every row, IS THE sha256 OF THE DUMP (.gsa) THAT YtdlclfcfleckmaaGreatProg.lean LOADS. Nothing in Lean hashes anything: it is a label: what it is worth is what the hold of that sum in a sandbox is worth. -/
noncomputable def Tryz.pinned : Pinned := { name := "ytdlclfcfleckmaagreat", sum := "dd5261593e761d61d8f5444a5e0480e7a252f2ef48961fed2ea0298504e90a8a", checked := Tryz.checked }
namespace Rows
def none {H : Type} : Left H := { results := [], args := [] }

/-- 'studworklaw03.StandRests': WHATEVER THE INPUT: true; the input reads as it did. -/
def standRestsSpec : ChangeSpec := { name := "standRests", fn := fun _ => fun
  | [d1, d2, d3, d4, d5] => { results := [.lit (.bool true)], args := [d1, d2, d3, d4, d5] }
  | _ => none }
def standRestsRow : OpenClaim := { program := "ytdlclfcfleckmaagreat", sum := "dd5261593e761d61d8f5444a5e0480e7a252f2ef48961fed2ea0298504e90a8a", func := "studwork/studworklaw03.StandRests", spec := "standRests", unfollowed := true, recurses := true, plainKeys := false, apart := false }
def StandRestsSaid : Prop := standRestsRow.holds Tryz.pinned (OpenSpec.ofChange standRestsSpec)

/-- ITS FALSE NEIGHBOUR: 'it returns false'. Refute it at one input. -/
def standRestsWrong : ChangeSpec := { name := "standRests", fn := fun _ => fun
  | [d1, d2, d3, d4, d5] => { results := [.lit (.bool false)], args := [d1, d2, d3, d4, d5] }
  | _ => none }
def StandRestsWrongFalsely : Prop := standRestsRow.holds Tryz.pinned (OpenSpec.ofChange standRestsWrong)

/-- 'studworklaw03.StandFalls': WHATEVER THE INPUT: true; the input reads as it did. -/
def standFallsSpec : ChangeSpec := { name := "standFalls", fn := fun _ => fun
  | [d1, d2, d3, d4, d5] => { results := [.lit (.bool true)], args := [d1, d2, d3, d4, d5] }
  | _ => none }
def standFallsRow : OpenClaim := { program := "ytdlclfcfleckmaagreat", sum := "dd5261593e761d61d8f5444a5e0480e7a252f2ef48961fed2ea0298504e90a8a", func := "studwork/studworklaw03.StandFalls", spec := "standFalls", unfollowed := true, recurses := true, plainKeys := false, apart := false }
def StandFallsSaid : Prop := standFallsRow.holds Tryz.pinned (OpenSpec.ofChange standFallsSpec)

/-- ITS FALSE NEIGHBOUR: 'it returns false'. Refute it at one input. -/
def standFallsWrong : ChangeSpec := { name := "standFalls", fn := fun _ => fun
  | [d1, d2, d3, d4, d5] => { results := [.lit (.bool false)], args := [d1, d2, d3, d4, d5] }
  | _ => none }
def StandFallsWrongFalsely : Prop := standFallsRow.holds Tryz.pinned (OpenSpec.ofChange standFallsWrong)

/-- 'studworklaw03.StandTopples': WHATEVER THE INPUT: true; the input reads as it did. -/
def standTopplesSpec : ChangeSpec := { name := "standTopples", fn := fun _ => fun
  | [d1, d2, d3] => { results := [.lit (.bool true)], args := [d1, d2, d3] }
  | _ => none }
def standTopplesRow : OpenClaim := { program := "ytdlclfcfleckmaagreat", sum := "dd5261593e761d61d8f5444a5e0480e7a252f2ef48961fed2ea0298504e90a8a", func := "studwork/studworklaw03.StandTopples", spec := "standTopples", unfollowed := true, recurses := true, plainKeys := false, apart := false }
def StandTopplesSaid : Prop := standTopplesRow.holds Tryz.pinned (OpenSpec.ofChange standTopplesSpec)

/-- ITS FALSE NEIGHBOUR: 'it returns false'. Refute it at one input. -/
def standTopplesWrong : ChangeSpec := { name := "standTopples", fn := fun _ => fun
  | [d1, d2, d3] => { results := [.lit (.bool false)], args := [d1, d2, d3] }
  | _ => none }
def StandTopplesWrongFalsely : Prop := standTopplesRow.holds Tryz.pinned (OpenSpec.ofChange standTopplesWrong)

/-- 'studworklaw03.StandParts': WHATEVER THE INPUT: true; the input reads as it did. -/
def standPartsSpec : ChangeSpec := { name := "standParts", fn := fun _ => fun
  | [d1, d2, d3, d4, d5] => { results := [.lit (.bool true)], args := [d1, d2, d3, d4, d5] }
  | _ => none }
def standPartsRow : OpenClaim := { program := "ytdlclfcfleckmaagreat", sum := "dd5261593e761d61d8f5444a5e0480e7a252f2ef48961fed2ea0298504e90a8a", func := "studwork/studworklaw03.StandParts", spec := "standParts", unfollowed := true, recurses := true, plainKeys := false, apart := false }
def StandPartsSaid : Prop := standPartsRow.holds Tryz.pinned (OpenSpec.ofChange standPartsSpec)

/-- ITS FALSE NEIGHBOUR: 'it returns false'. Refute it at one input. -/
def standPartsWrong : ChangeSpec := { name := "standParts", fn := fun _ => fun
  | [d1, d2, d3, d4, d5] => { results := [.lit (.bool false)], args := [d1, d2, d3, d4, d5] }
  | _ => none }
def StandPartsWrongFalsely : Prop := standPartsRow.holds Tryz.pinned (OpenSpec.ofChange standPartsWrong)

/-- 'studworklaw03.StandHands': WHATEVER THE INPUT: true; the input reads as it did. -/
def standHandsSpec : ChangeSpec := { name := "standHands", fn := fun _ => fun
  | [d1, d2, d3, d4] => { results := [.lit (.bool true)], args := [d1, d2, d3, d4] }
  | _ => none }
def standHandsRow : OpenClaim := { program := "ytdlclfcfleckmaagreat", sum := "dd5261593e761d61d8f5444a5e0480e7a252f2ef48961fed2ea0298504e90a8a", func := "studwork/studworklaw03.StandHands", spec := "standHands", unfollowed := true, recurses := true, plainKeys := false, apart := false }
def StandHandsSaid : Prop := standHandsRow.holds Tryz.pinned (OpenSpec.ofChange standHandsSpec)

/-- ITS FALSE NEIGHBOUR: 'it returns false'. Refute it at one input. -/
def standHandsWrong : ChangeSpec := { name := "standHands", fn := fun _ => fun
  | [d1, d2, d3, d4] => { results := [.lit (.bool false)], args := [d1, d2, d3, d4] }
  | _ => none }
def StandHandsWrongFalsely : Prop := standHandsRow.holds Tryz.pinned (OpenSpec.ofChange standHandsWrong)

/-- 'studworklaw03.StandLoose': WHATEVER THE INPUT: true; the input reads as it did. -/
def standLooseSpec : ChangeSpec := { name := "standLoose", fn := fun _ => fun
  | [d1, d2, d3] => { results := [.lit (.bool true)], args := [d1, d2, d3] }
  | _ => none }
def standLooseRow : OpenClaim := { program := "ytdlclfcfleckmaagreat", sum := "dd5261593e761d61d8f5444a5e0480e7a252f2ef48961fed2ea0298504e90a8a", func := "studwork/studworklaw03.StandLoose", spec := "standLoose", unfollowed := true, recurses := true, plainKeys := false, apart := false }
def StandLooseSaid : Prop := standLooseRow.holds Tryz.pinned (OpenSpec.ofChange standLooseSpec)

/-- ITS FALSE NEIGHBOUR: 'it returns false'. Refute it at one input. -/
def standLooseWrong : ChangeSpec := { name := "standLoose", fn := fun _ => fun
  | [d1, d2, d3] => { results := [.lit (.bool false)], args := [d1, d2, d3] }
  | _ => none }
def StandLooseWrongFalsely : Prop := standLooseRow.holds Tryz.pinned (OpenSpec.ofChange standLooseWrong)

/-- 'studworklaw03.StandTable': WHATEVER THE INPUT: true; the input reads as it did. -/
def standTableSpec : ChangeSpec := { name := "standTable", fn := fun _ => fun
  | [d1, d2, d3] => { results := [.lit (.bool true)], args := [d1, d2, d3] }
  | _ => none }
def standTableRow : OpenClaim := { program := "ytdlclfcfleckmaagreat", sum := "dd5261593e761d61d8f5444a5e0480e7a252f2ef48961fed2ea0298504e90a8a", func := "studwork/studworklaw03.StandTable", spec := "standTable", unfollowed := true, recurses := true, plainKeys := false, apart := false }
def StandTableSaid : Prop := standTableRow.holds Tryz.pinned (OpenSpec.ofChange standTableSpec)

/-- ITS FALSE NEIGHBOUR: 'it returns false'. Refute it at one input. -/
def standTableWrong : ChangeSpec := { name := "standTable", fn := fun _ => fun
  | [d1, d2, d3] => { results := [.lit (.bool false)], args := [d1, d2, d3] }
  | _ => none }
def StandTableWrongFalsely : Prop := standTableRow.holds Tryz.pinned (OpenSpec.ofChange standTableWrong)

/-- 'studworklaw03.StandProved': WHATEVER THE INPUT: true; the input reads as it did. -/
def standProvedSpec : ChangeSpec := { name := "standProved", fn := fun _ => fun
  | [d1, d2, d3, d4] => { results := [.lit (.bool true)], args := [d1, d2, d3, d4] }
  | _ => none }
def standProvedRow : OpenClaim := { program := "ytdlclfcfleckmaagreat", sum := "dd5261593e761d61d8f5444a5e0480e7a252f2ef48961fed2ea0298504e90a8a", func := "studwork/studworklaw03.StandProved", spec := "standProved", unfollowed := true, recurses := true, plainKeys := false, apart := false }
def StandProvedSaid : Prop := standProvedRow.holds Tryz.pinned (OpenSpec.ofChange standProvedSpec)

/-- ITS FALSE NEIGHBOUR: 'it returns false'. Refute it at one input. -/
def standProvedWrong : ChangeSpec := { name := "standProved", fn := fun _ => fun
  | [d1, d2, d3, d4] => { results := [.lit (.bool false)], args := [d1, d2, d3, d4] }
  | _ => none }
def StandProvedWrongFalsely : Prop := standProvedRow.holds Tryz.pinned (OpenSpec.ofChange standProvedWrong)

/-- 'studworklaw03.StandExcess': WHATEVER THE INPUT: true; the input reads as it did. -/
def standExcessSpec : ChangeSpec := { name := "standExcess", fn := fun _ => fun
  | [d1, d2, d3, d4, d5] => { results := [.lit (.bool true)], args := [d1, d2, d3, d4, d5] }
  | _ => none }
def standExcessRow : OpenClaim := { program := "ytdlclfcfleckmaagreat", sum := "dd5261593e761d61d8f5444a5e0480e7a252f2ef48961fed2ea0298504e90a8a", func := "studwork/studworklaw03.StandExcess", spec := "standExcess", unfollowed := true, recurses := true, plainKeys := false, apart := false }
def StandExcessSaid : Prop := standExcessRow.holds Tryz.pinned (OpenSpec.ofChange standExcessSpec)

/-- ITS FALSE NEIGHBOUR: 'it returns false'. Refute it at one input. -/
def standExcessWrong : ChangeSpec := { name := "standExcess", fn := fun _ => fun
  | [d1, d2, d3, d4, d5] => { results := [.lit (.bool false)], args := [d1, d2, d3, d4, d5] }
  | _ => none }
def StandExcessWrongFalsely : Prop := standExcessRow.holds Tryz.pinned (OpenSpec.ofChange standExcessWrong)

/-- 'studworklaw03.StandPoised': WHATEVER THE INPUT: true; the input reads as it did. -/
def standPoisedSpec : ChangeSpec := { name := "standPoised", fn := fun _ => fun
  | [d1, d2, d3, d4, d5] => { results := [.lit (.bool true)], args := [d1, d2, d3, d4, d5] }
  | _ => none }
def standPoisedRow : OpenClaim := { program := "ytdlclfcfleckmaagreat", sum := "dd5261593e761d61d8f5444a5e0480e7a252f2ef48961fed2ea0298504e90a8a", func := "studwork/studworklaw03.StandPoised", spec := "standPoised", unfollowed := true, recurses := true, plainKeys := false, apart := false }
def StandPoisedSaid : Prop := standPoisedRow.holds Tryz.pinned (OpenSpec.ofChange standPoisedSpec)

/-- ITS FALSE NEIGHBOUR: 'it returns false'. Refute it at one input. -/
def standPoisedWrong : ChangeSpec := { name := "standPoised", fn := fun _ => fun
  | [d1, d2, d3, d4, d5] => { results := [.lit (.bool false)], args := [d1, d2, d3, d4, d5] }
  | _ => none }
def StandPoisedWrongFalsely : Prop := standPoisedRow.holds Tryz.pinned (OpenSpec.ofChange standPoisedWrong)

/-- 'studworklaw03.StandTurned': WHATEVER THE INPUT: true; the input reads as it did. -/
def standTurnedSpec : ChangeSpec := { name := "standTurned", fn := fun _ => fun
  | [d1, d2, d3, d4, d5, d6] => { results := [.lit (.bool true)], args := [d1, d2, d3, d4, d5, d6] }
  | _ => none }
def standTurnedRow : OpenClaim := { program := "ytdlclfcfleckmaagreat", sum := "dd5261593e761d61d8f5444a5e0480e7a252f2ef48961fed2ea0298504e90a8a", func := "studwork/studworklaw03.StandTurned", spec := "standTurned", unfollowed := true, recurses := true, plainKeys := false, apart := false }
def StandTurnedSaid : Prop := standTurnedRow.holds Tryz.pinned (OpenSpec.ofChange standTurnedSpec)

/-- ITS FALSE NEIGHBOUR: 'it returns false'. Refute it at one input. -/
def standTurnedWrong : ChangeSpec := { name := "standTurned", fn := fun _ => fun
  | [d1, d2, d3, d4, d5, d6] => { results := [.lit (.bool false)], args := [d1, d2, d3, d4, d5, d6] }
  | _ => none }
def StandTurnedWrongFalsely : Prop := standTurnedRow.holds Tryz.pinned (OpenSpec.ofChange standTurnedWrong)

/-- 'studworklaw03.StandTwo': WHATEVER THE INPUT: true; the input reads as it did. -/
def standTwoSpec : ChangeSpec := { name := "standTwo", fn := fun _ => fun
  | [d1, d2, d3, d4] => { results := [.lit (.bool true)], args := [d1, d2, d3, d4] }
  | _ => none }
def standTwoRow : OpenClaim := { program := "ytdlclfcfleckmaagreat", sum := "dd5261593e761d61d8f5444a5e0480e7a252f2ef48961fed2ea0298504e90a8a", func := "studwork/studworklaw03.StandTwo", spec := "standTwo", unfollowed := true, recurses := true, plainKeys := false, apart := false }
def StandTwoSaid : Prop := standTwoRow.holds Tryz.pinned (OpenSpec.ofChange standTwoSpec)

/-- ITS FALSE NEIGHBOUR: 'it returns false'. Refute it at one input. -/
def standTwoWrong : ChangeSpec := { name := "standTwo", fn := fun _ => fun
  | [d1, d2, d3, d4] => { results := [.lit (.bool false)], args := [d1, d2, d3, d4] }
  | _ => none }
def StandTwoWrongFalsely : Prop := standTwoRow.holds Tryz.pinned (OpenSpec.ofChange standTwoWrong)

/-- 'studworklaw03.StandExamples': WHATEVER THE INPUT: true; the input reads as it did. -/
def standExamplesSpec : ChangeSpec := { name := "standExamples", fn := fun _ => fun
  | [] => { results := [.lit (.bool true)], args := [] }
  | _ => none }
def standExamplesRow : OpenClaim := { program := "ytdlclfcfleckmaagreat", sum := "dd5261593e761d61d8f5444a5e0480e7a252f2ef48961fed2ea0298504e90a8a", func := "studwork/studworklaw03.StandExamples", spec := "standExamples", unfollowed := true, recurses := true, plainKeys := false, apart := false }
def StandExamplesSaid : Prop := standExamplesRow.holds Tryz.pinned (OpenSpec.ofChange standExamplesSpec)

/-- ITS FALSE NEIGHBOUR: 'it returns false'. Refute it at one input. -/
def standExamplesWrong : ChangeSpec := { name := "standExamples", fn := fun _ => fun
  | [] => { results := [.lit (.bool false)], args := [] }
  | _ => none }
def StandExamplesWrongFalsely : Prop := standExamplesRow.holds Tryz.pinned (OpenSpec.ofChange standExamplesWrong)

/- THE SECOND FORM. 'bulk': how many values and letters a reading holds, each counted each time it is reached (what is shared counts as often as it is met; a slice's spare places count too). A statement '..UptoSaid' is the law's where the arguments, and the package variables that the reading takes, are together of bulk at most 1048576: NARROWER than '..Said'. Prove '..Said' where nothing that the law and all that it calls make is longer than what came in: it says more and counts as full. Else prove '..UptoSaid'. A law counts once. -/
mutual
def uptoBulk {H : Type} : DataW H → Nat
  | .lit (.string bytes) => bytes.length + 1
  | .lit _ => 1
  | .nil => 1
  | .ptr d => uptoBulk d + 1
  | .slice elems spare => uptoBulkAll elems + uptoBulkAll spare + 1
  | .agg parts => uptoBulkAll parts + 1
  | .iface _ d => uptoBulk d + 1
  | .map entries => uptoBulkEntries entries + 1
  | .held _ => 1
def uptoBulkAll {H : Type} : List (DataW H) → Nat
  | [] => 0
  | d :: r => uptoBulk d + uptoBulkAll r
def uptoBulkEntries {H : Type} : List (Lit × DataW H) → Nat
  | [] => 0
  | x :: r => uptoBulkEntry x + uptoBulkEntries r
def uptoBulkEntry {H : Type} : Lit × DataW H → Nat
  | (.string bytes, d) => bytes.length + uptoBulk d + 1
  | (_, d) => uptoBulk d + 1
 end
def uptoSmall : (H : Type) → List (DataW H) → Bool := fun _ ds => decide (uptoBulkAll ds ≤ 1048576)
def OpenSpec.upto (s : _root_.Go.ChangeSpec) : _root_.Go.OpenSpec := { _root_.Go.OpenSpec.ofChange s with cond := some uptoSmall }

/-- 'studworklaw03.StandRests', WHERE WHAT IT READS IS OF BULK AT MOST 1048576: true; the input reads as it did. -/
def standRestsUptoRow : OpenClaim := { program := "ytdlclfcfleckmaagreat", sum := "dd5261593e761d61d8f5444a5e0480e7a252f2ef48961fed2ea0298504e90a8a", func := "studwork/studworklaw03.StandRests", spec := "standRests", unfollowed := true, recurses := true, plainKeys := false, apart := false, narrowed := true }
def StandRestsUptoSaid : Prop := standRestsUptoRow.holds Tryz.pinned (OpenSpec.upto standRestsSpec)

/-- 'studworklaw03.StandFalls', WHERE WHAT IT READS IS OF BULK AT MOST 1048576: true; the input reads as it did. -/
def standFallsUptoRow : OpenClaim := { program := "ytdlclfcfleckmaagreat", sum := "dd5261593e761d61d8f5444a5e0480e7a252f2ef48961fed2ea0298504e90a8a", func := "studwork/studworklaw03.StandFalls", spec := "standFalls", unfollowed := true, recurses := true, plainKeys := false, apart := false, narrowed := true }
def StandFallsUptoSaid : Prop := standFallsUptoRow.holds Tryz.pinned (OpenSpec.upto standFallsSpec)

/-- 'studworklaw03.StandTopples', WHERE WHAT IT READS IS OF BULK AT MOST 1048576: true; the input reads as it did. -/
def standTopplesUptoRow : OpenClaim := { program := "ytdlclfcfleckmaagreat", sum := "dd5261593e761d61d8f5444a5e0480e7a252f2ef48961fed2ea0298504e90a8a", func := "studwork/studworklaw03.StandTopples", spec := "standTopples", unfollowed := true, recurses := true, plainKeys := false, apart := false, narrowed := true }
def StandTopplesUptoSaid : Prop := standTopplesUptoRow.holds Tryz.pinned (OpenSpec.upto standTopplesSpec)

/-- 'studworklaw03.StandParts', WHERE WHAT IT READS IS OF BULK AT MOST 1048576: true; the input reads as it did. -/
def standPartsUptoRow : OpenClaim := { program := "ytdlclfcfleckmaagreat", sum := "dd5261593e761d61d8f5444a5e0480e7a252f2ef48961fed2ea0298504e90a8a", func := "studwork/studworklaw03.StandParts", spec := "standParts", unfollowed := true, recurses := true, plainKeys := false, apart := false, narrowed := true }
def StandPartsUptoSaid : Prop := standPartsUptoRow.holds Tryz.pinned (OpenSpec.upto standPartsSpec)

/-- 'studworklaw03.StandHands', WHERE WHAT IT READS IS OF BULK AT MOST 1048576: true; the input reads as it did. -/
def standHandsUptoRow : OpenClaim := { program := "ytdlclfcfleckmaagreat", sum := "dd5261593e761d61d8f5444a5e0480e7a252f2ef48961fed2ea0298504e90a8a", func := "studwork/studworklaw03.StandHands", spec := "standHands", unfollowed := true, recurses := true, plainKeys := false, apart := false, narrowed := true }
def StandHandsUptoSaid : Prop := standHandsUptoRow.holds Tryz.pinned (OpenSpec.upto standHandsSpec)

/-- 'studworklaw03.StandLoose', WHERE WHAT IT READS IS OF BULK AT MOST 1048576: true; the input reads as it did. -/
def standLooseUptoRow : OpenClaim := { program := "ytdlclfcfleckmaagreat", sum := "dd5261593e761d61d8f5444a5e0480e7a252f2ef48961fed2ea0298504e90a8a", func := "studwork/studworklaw03.StandLoose", spec := "standLoose", unfollowed := true, recurses := true, plainKeys := false, apart := false, narrowed := true }
def StandLooseUptoSaid : Prop := standLooseUptoRow.holds Tryz.pinned (OpenSpec.upto standLooseSpec)

/-- 'studworklaw03.StandTable', WHERE WHAT IT READS IS OF BULK AT MOST 1048576: true; the input reads as it did. -/
def standTableUptoRow : OpenClaim := { program := "ytdlclfcfleckmaagreat", sum := "dd5261593e761d61d8f5444a5e0480e7a252f2ef48961fed2ea0298504e90a8a", func := "studwork/studworklaw03.StandTable", spec := "standTable", unfollowed := true, recurses := true, plainKeys := false, apart := false, narrowed := true }
def StandTableUptoSaid : Prop := standTableUptoRow.holds Tryz.pinned (OpenSpec.upto standTableSpec)

/-- 'studworklaw03.StandProved', WHERE WHAT IT READS IS OF BULK AT MOST 1048576: true; the input reads as it did. -/
def standProvedUptoRow : OpenClaim := { program := "ytdlclfcfleckmaagreat", sum := "dd5261593e761d61d8f5444a5e0480e7a252f2ef48961fed2ea0298504e90a8a", func := "studwork/studworklaw03.StandProved", spec := "standProved", unfollowed := true, recurses := true, plainKeys := false, apart := false, narrowed := true }
def StandProvedUptoSaid : Prop := standProvedUptoRow.holds Tryz.pinned (OpenSpec.upto standProvedSpec)

/-- 'studworklaw03.StandExcess', WHERE WHAT IT READS IS OF BULK AT MOST 1048576: true; the input reads as it did. -/
def standExcessUptoRow : OpenClaim := { program := "ytdlclfcfleckmaagreat", sum := "dd5261593e761d61d8f5444a5e0480e7a252f2ef48961fed2ea0298504e90a8a", func := "studwork/studworklaw03.StandExcess", spec := "standExcess", unfollowed := true, recurses := true, plainKeys := false, apart := false, narrowed := true }
def StandExcessUptoSaid : Prop := standExcessUptoRow.holds Tryz.pinned (OpenSpec.upto standExcessSpec)

/-- 'studworklaw03.StandPoised', WHERE WHAT IT READS IS OF BULK AT MOST 1048576: true; the input reads as it did. -/
def standPoisedUptoRow : OpenClaim := { program := "ytdlclfcfleckmaagreat", sum := "dd5261593e761d61d8f5444a5e0480e7a252f2ef48961fed2ea0298504e90a8a", func := "studwork/studworklaw03.StandPoised", spec := "standPoised", unfollowed := true, recurses := true, plainKeys := false, apart := false, narrowed := true }
def StandPoisedUptoSaid : Prop := standPoisedUptoRow.holds Tryz.pinned (OpenSpec.upto standPoisedSpec)

/-- 'studworklaw03.StandTurned', WHERE WHAT IT READS IS OF BULK AT MOST 1048576: true; the input reads as it did. -/
def standTurnedUptoRow : OpenClaim := { program := "ytdlclfcfleckmaagreat", sum := "dd5261593e761d61d8f5444a5e0480e7a252f2ef48961fed2ea0298504e90a8a", func := "studwork/studworklaw03.StandTurned", spec := "standTurned", unfollowed := true, recurses := true, plainKeys := false, apart := false, narrowed := true }
def StandTurnedUptoSaid : Prop := standTurnedUptoRow.holds Tryz.pinned (OpenSpec.upto standTurnedSpec)

/-- 'studworklaw03.StandTwo', WHERE WHAT IT READS IS OF BULK AT MOST 1048576: true; the input reads as it did. -/
def standTwoUptoRow : OpenClaim := { program := "ytdlclfcfleckmaagreat", sum := "dd5261593e761d61d8f5444a5e0480e7a252f2ef48961fed2ea0298504e90a8a", func := "studwork/studworklaw03.StandTwo", spec := "standTwo", unfollowed := true, recurses := true, plainKeys := false, apart := false, narrowed := true }
def StandTwoUptoSaid : Prop := standTwoUptoRow.holds Tryz.pinned (OpenSpec.upto standTwoSpec)

/-- 'studworklaw03.StandExamples', WHERE WHAT IT READS IS OF BULK AT MOST 1048576: true; the input reads as it did. -/
def standExamplesUptoRow : OpenClaim := { program := "ytdlclfcfleckmaagreat", sum := "dd5261593e761d61d8f5444a5e0480e7a252f2ef48961fed2ea0298504e90a8a", func := "studwork/studworklaw03.StandExamples", spec := "standExamples", unfollowed := true, recurses := true, plainKeys := false, apart := false, narrowed := true }
def StandExamplesUptoSaid : Prop := standExamplesUptoRow.holds Tryz.pinned (OpenSpec.upto standExamplesSpec)

end Rows
end Go.Proofs.YtdlclfcfleckmaaGreat
