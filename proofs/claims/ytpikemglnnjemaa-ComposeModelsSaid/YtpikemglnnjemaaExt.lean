/- What a world that has only grown keeps, as rules for the walk. -/
import Derived.Test.YtpikemglnnjemaaBlk
namespace Go.Proofs.Ytpikemglnnjemaa
open Go.RowKit

theorem ext_facts {w w' : World} (E : Ext w w') :
    (∀ a, (w.cell? a).isSome = true → w'.cell? a = w.cell? a) ∧ (∀ a, (w.cell? a).isSome = true → w'.frozen? a = w.frozen? a) ∧ w.heap.size ≤ w'.heap.size := by
  refine ⟨fun a h => ?_, fun a h => ?_, E.size⟩
  · obtain ⟨u, hu⟩ := Option.isSome_iff_exists.1 h
    rw [hu]
    exact E.cell hu
  · obtain ⟨u, hu⟩ := Option.isSome_iff_exists.1 h
    exact E.frozen (World.block_lt_of_cell? w a hu)

/-! A loop that may leave early, as a fold that may fail. -/
section
variable {α : Type}
/-- k rounds of a step that may fail. -/
def runs (f : Nat → α → Option α) : Nat → α → Option α
  | 0, a => some a
  | k + 1, a => (runs f k a).bind (f k)
theorem runs_none {f : Nat → α → Option α} {a : α} {k n : Nat} (h : runs f k a = none) (hk : k ≤ n) : runs f n a = none := by
  induction n with
  | zero =>
    obtain rfl : k = 0 := by omega
    exact h
  | succ n ih =>
    rcases Nat.lt_or_ge n k with h' | h'
    · obtain rfl : k = n + 1 := by omega
      exact h
    · show (runs f n a).bind (f n) = none
      rw [ih h']
      rfl
theorem runs_fail {f : Nat → α → Option α} {a b : α} {k n : Nat} (h : runs f k a = some b) (hf : f k b = none) (hk : k < n) : runs f n a = none :=
  runs_none (k := k + 1) (by show (runs f k a).bind (f k) = none; rw [h]; exact hf) hk
theorem runs_succ {f : Nat → α → Option α} {a b : α} {k : Nat} (h : runs f k a = some b) : runs f (k + 1) a = f k b := by
  show (runs f k a).bind (f k) = _
  rw [h]
  rfl
theorem runs_prefix {f : Nat → α → Option α} {a b : α} {k n : Nat} (h : runs f n a = some b) (hk : k ≤ n) : ∃ c, runs f k a = some c := by
  cases hc : runs f k a with
  | some c => exact ⟨c, rfl⟩
  | none => rw [runs_none hc hk] at h; cases h
end
end Go.Proofs.Ytpikemglnnjemaa
