/- A drawn region by an invariant that may know the slots ahead of it. -/
import Derived.Test.YtaaeapjnjjbglaaGreatDoorCd22

namespace Go.Proofs.YtaaeapjnjjbglaaGreatDoor
open Go.RowKit

/-- As wp_region_by; the invariant may know what the slots hold ahead of the region. -/
theorem wp_region_by0 {P : Program} {l : List Oper} {a0 : Act} {Q : Exit → Act → World → Prop} {id : Nat} {w : World} (I : (Nat → Bool) → (Nat → Value) → World → Prop) (hm : P.follows .mixedOrders = true) (hn : decide (dsts l).Nodup = true) (hf : Region.forthB l = true)
    (h0 : I (fun _ => false) (fun k => ((l[k]?).bind (·.dst)).elim undef fun d => a0.tmps.getD d undef) w.drew) (hs : EachOp P l I a0 Q l 0) (he : ∀ L us w, (∀ k, k < l.length → L k = true) → I L us w → Q .normal (putAll us l 0 a0) w) : (Code.region id l.toArray true).wp P Q a0 w := by
  refine wp_region_any hm ?_
  have ea : putAll (fun k => ((l[k]?).bind (·.dst)).elim undef fun d => a0.tmps.getD d undef) l 0 a0 = a0 := putAll_self l 0 a0 _ fun j o hj d hd => by
    simp [hj, hd]
  have eL : (fun k => (Array.replicate l.toArray.size false).getD k false) = fun _ => false := by
    funext k
    rw [Array.getD_eq_getD_getElem?, Array.getElem?_replicate]
    split <;> rfl
  have := any_by (of_decide_eq_true hn) hf hs he l.toArray.size (Array.replicate l.toArray.size false) (fun k => ((l[k]?).bind (·.dst)).elim undef fun d => a0.tmps.getD d undef) w.drew (by simp) (fun h k hk => by simp at h; simp [h] at hk) (fun k hk _ => ⟨l.length - 1, by simp; omega⟩)
    (by unfold fewer; refine Nat.le_trans List.countP_le_length ?_; simp) (fun i k hi => by rw [eL] at hi; cases hi) (by rw [eL]; exact h0)
  rw [ea] at this
  exact this
end Go.Proofs.YtaaeapjnjjbglaaGreatDoor
