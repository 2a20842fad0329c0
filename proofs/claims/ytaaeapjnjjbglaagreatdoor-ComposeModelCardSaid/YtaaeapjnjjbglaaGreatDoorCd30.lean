/- As wp_region_by0, with the frame behind the operations written out once for all of them. -/
import Derived.Test.YtaaeapjnjjbglaaGreatDoorCd28

namespace Go.Proofs.YtaaeapjnjjbglaaGreatDoor
open Go.RowKit

section
variable {P : Program} {l : List Oper} {I : (Nat → Bool) → (Nat → Value) → World → Prop} {a0 : Act} {Q : Exit → Act → World → Prop}
/-- What is shown of one operation: F us is the frame. -/
def OneOpF (P : Program) (l : List Oper) (I : (Nat → Bool) → (Nat → Value) → World → Prop) (F : (Nat → Value) → Act) (Q : Exit → Act → World → Prop) (o : Oper) (i : Nat) : Prop :=
  ∀ (L : Nat → Bool) (us : Nat → Value) (w : World) (K : Act → World → Prop) (a : Act), F us = a → (∀ k, (aheadOf l i).contains k = true → L k = true) → (∀ j k, L j = true → (aheadOf l j).contains k = true → L k = true) → L i = false → I L us w →
    (∀ v w', I (updF L i true) (updF us i v) w' → K (a.put o.dst v) w') →
    if Region.wanted o (yielded l.toArray a.tmps) = true then Oper.wp P o a w K Q else K (a.put o.dst undef) w
def EachOpF (P : Program) (l : List Oper) (I : (Nat → Bool) → (Nat → Value) → World → Prop) (F : (Nat → Value) → Act) (Q : Exit → Act → World → Prop) : List Oper → Nat → Prop
  | [], _ => True
  | o :: r, i => OneOpF P l I F Q o i ∧ EachOpF P l I F Q r (i + 1)
theorem EachOpF.to {F : (Nat → Value) → Act} (hF : ∀ us, putAll us l 0 a0 = F us) : ∀ {r : List Oper} {i : Nat}, EachOpF P l I F Q r i → EachOp P l I a0 Q r i
  | [], _, _ => trivial
  | _ :: _, _, h => ⟨fun L us w K a ha => h.1 L us w K a ((hF us).symm.trans ha), EachOpF.to hF h.2⟩
/-- **A drawn region by an invariant**, the frame written out once. -/
theorem wp_region_byF {id : Nat} {w : World} (I : (Nat → Bool) → (Nat → Value) → World → Prop) {F : (Nat → Value) → Act} (hF : ∀ us, putAll us l 0 a0 = F us) (hm : P.follows .mixedOrders = true) (hn : decide (dsts l).Nodup = true) (hf : Region.forthB l = true)
    (h0 : I (fun _ => false) (fun k => ((l[k]?).bind (·.dst)).elim undef fun d => a0.tmps.getD d undef) w.drew) (hs : EachOpF P l I F Q l 0) (he : ∀ L us w, (∀ k, k < l.length → L k = true) → I L us w → Q .normal (F us) w) : (Code.region id l.toArray true).wp P Q a0 w :=
  wp_region_by0 I hm hn hf h0 (hs.to hF) fun L us w h1 h2 => by
    rw [hF]
    exact he L us w h1 h2
end
end Go.Proofs.YtaaeapjnjjbglaaGreatDoor
