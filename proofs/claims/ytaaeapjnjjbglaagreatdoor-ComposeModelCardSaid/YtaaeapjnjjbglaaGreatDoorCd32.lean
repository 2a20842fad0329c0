/- seam, Weakness and Weak of the reference. Weakness of the reference. Together of the reference. Hangs and Weak of the reference. -/
import Derived.Test.YtaaeapjnjjbglaaGreatDoorCd9
import Derived.Test.YtaaeapjnjjbglaaGreatDoorCd11
import Derived.Test.YtaaeapjnjjbglaaGreatDoorCd21

namespace Go.Proofs.YtaaeapjnjjbglaaGreatDoor
open Go.RowKit

end Go.Proofs.YtaaeapjnjjbglaaGreatDoor

namespace Go.Proofs.YtaaeapjnjjbglaaGreatDoor
open Go.RowKit

theorem comp_ok {s : Shape} {l : List Plate} {c : List Laid} (h : compErr s l c = 0) : s.Ok ∧ platesB l = true ∧ compB s l c = true ∧ ∀ (k : Nat) (a : Laid), c[k]? = some a → liesB s l a = true ∧ a.Ok l := by
  have h3 : s.valid = true ∧ platesB l = true ∧ compB s l c = true := by
    unfold compErr at h
    by_cases h1 : s.valid = true
    · rw [if_pos h1] at h
      by_cases h2 : platesB l = true
      · rw [if_pos h2] at h
        by_cases h3 : compB s l c = true
        · exact ⟨h1, h2, h3⟩
        · rw [if_neg h3] at h; omega
      · rw [if_neg h2] at h; omega
    · rw [if_neg h1] at h; omega
  refine ⟨Shape.ok_of h3.1, h3.2.1, h3.2.2, fun k a ha => ?_⟩
  have hlt := (List.getElem?_eq_some_iff.1 ha).1
  have hli : liesB s l a = true := by
    by_cases hh : liesB s l a = true
    · exact hh
    · have : compB s l c = false := comp_bad hlt (by unfold compAt; rw [laidAt_eq ha, Bool.eq_false_iff.2 hh]; rfl)
      rw [h3.2.2] at this
      cases this
  exact ⟨hli, laid_ok (Shape.ok_of h3.1) hli⟩

theorem weakTo_le (s : Shape) (l : List Plate) (c : List Laid) : ∀ k, weakTo s l c k ≤ 2 * k
  | 0 => by simp [weakTo]
  | k + 1 => by
    have := weakTo_le s l c k
    have h : weakAt s l c k ≤ 2 := by unfold weakAt; split <;> split <;> omega
    unfold weakTo
    omega

end Go.Proofs.YtaaeapjnjjbglaaGreatDoor

namespace Go.Proofs.YtaaeapjnjjbglaaGreatDoor
open Go.RowKit

def ClosedTo (s : Shape) (l : List Plate) (c : List Laid) (ins : List Bool) (i k : Nat) : Prop :=
  ∀ i' j, j < c.length → (i' < i ∨ i' = i ∧ j < k) → ins[i']? = some true → ins[j]? = some false → ¬ Tl s l c i' j
def PassI (s : Shape) (l : List Plate) (c : List Laid) (n0 : Nat) (ins : List Bool) (n : Nat) (b : Bool) (i k : Nat) : Prop :=
  InT s l c ins n ∧ n0 ≤ n ∧ (b = true → n0 < n) ∧ (b = false → ClosedTo s l c ins i k)
theorem PassI.start {s : Shape} {l : List Plate} {c : List Laid} {ins : List Bool} {n : Nat} (h : InT s l c ins n) : PassI s l c n ins n false 0 0 :=
  ⟨h, Nat.le_refl _, (fun h => by cases h), fun _ i' j _ hij => by omega⟩
theorem PassI.same {s : Shape} {l : List Plate} {c : List Laid} {ins : List Bool} {n0 n i k : Nat} {b : Bool} (h : PassI s l c n0 ins n b i k) (hno : ins[i]? = some true → ins[k]? = some false → ¬ Tl s l c i k) : PassI s l c n0 ins n b i (k + 1) := by
  refine ⟨h.1, h.2.1, h.2.2.1, fun hb i' j hj hij h1 h2 => ?_⟩
  by_cases e : i' = i ∧ j = k
  · obtain ⟨rfl, rfl⟩ := e
    exact hno h1 h2
  · exact h.2.2.2 hb i' j hj (by omega) h1 h2
theorem PassI.more {s : Shape} {l : List Plate} {c : List Laid} {ins : List Bool} {n0 n i k : Nat} {b : Bool} (h : PassI s l c n0 ins n b i k) (h1 : ins[i]? = some true) (h2 : ins[k]? = some false) (ht : Tl s l c i k) : PassI s l c n0 (ins.set k true) (n + 1) true i (k + 1) :=
  ⟨h.1.step h1 h2 ht, (by have := h.2.1; omega), (fun _ => by have := h.2.1; omega), fun h => by cases h⟩
theorem PassI.next {s : Shape} {l : List Plate} {c : List Laid} {ins : List Bool} {n0 n i : Nat} {b : Bool} (h : PassI s l c n0 ins n b i c.length) : PassI s l c n0 ins n b (i + 1) 0 := by
  refine ⟨h.1, h.2.1, h.2.2.1, fun hb i' j hj hij h1 h2 => h.2.2.2 hb i' j hj (by omega) h1 h2⟩
theorem PassI.done {s : Shape} {l : List Plate} {c : List Laid} {ins : List Bool} {n : Nat} (h : InT s l c ins n) (hc : ClosedTo s l c ins c.length 0) : hangB s l c = decide (n = c.length) :=
  h.done fun i j hi hj h1 h2 => hc i j hj (Or.inl hi) h1 h2
def flag : Value → Nat
  | .bool true => 1
  | _ => 0

end Go.Proofs.YtaaeapjnjjbglaaGreatDoor

namespace Go.Proofs.YtaaeapjnjjbglaaGreatDoor
open Go.RowKit

theorem comp_pos {s : Shape} {l : List Plate} {c : List Laid} (ok : s.Ok) (h : compB s l c = true) : 0 < c.length := by
  rcases Nat.eq_zero_or_pos c.length with h0 | h0
  · exfalso
    obtain rfl : c = [] := List.eq_nil_of_length_eq_zero h0
    unfold compB at h
    rw [Bool.and_eq_true, List.all_eq_true, List.all_eq_true] at h
    have hz : ∀ x ∈ s.cells, x = 0 := fun x hx => by
      obtain ⟨i, hi⟩ := List.getElem?_of_mem hx
      have := h.2 i (List.mem_range.2 (List.getElem?_eq_some_iff.1 hi).1)
      unfold coveredAt at this
      rw [List.getD_eq_getElem?_getD, hi, Bool.or_eq_true, decide_eq_true_eq, decide_eq_true_eq] at this
      rcases this with h1 | h1
      · exact h1
      · have : byI l [] (s.px i) (s.py i) (s.pz i) = -1 := rfl
        omega
    have hf : fullN s.cells = 0 := by
      unfold fullN
      rw [List.countP_eq_zero]
      intro a ha
      simp [hz a ha]
    have := ok.full
    omega
  · exact h0

noncomputable def hangR (s : Shape) (l : List Plate) (c : List Laid) : Bool := if compErr s l c = 0 then hangB s l c else false
def weakR (s : Shape) (l : List Plate) (c : List Laid) : Nat := if compErr s l c = 0 then weakTo s l c s.cells.length else 0

end Go.Proofs.YtaaeapjnjjbglaaGreatDoor
