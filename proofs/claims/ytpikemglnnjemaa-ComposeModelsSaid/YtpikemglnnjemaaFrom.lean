/- Contracts of the small number functions of layer 7: from, within. -/
import Derived.Test.YtpikemglnnjemaaGrow
namespace Go.Proofs.Ytpikemglnnjemaa
open Go.RowKit

def inB (lo hi n : Int) : Bool := decide (lo ≤ n) && decide (n ≤ hi)
theorem inB_iff {lo hi n : Int} : inB lo hi n = true ↔ lo ≤ n ∧ n ≤ hi := by simp [inB]
theorem inB_not {lo hi n : Int} : inB lo hi n = false ↔ ¬ (lo ≤ n ∧ n ≤ hi) := by
  rw [← inB_iff]; simp

set_option maxHeartbeats 400000 in
theorem from_c (lo hi n : Int) (w : World) :
    Calls Try.prog 15 #[.int .i64 lo, .int .i64 hi, .int .i64 n] w fun e w' => e = .returned (.bool (inB lo hi n)) ∧ w = w' := by
  by_cases h : lo ≤ n
  · go_enter Try.func15, Try.ntmps15
    go_wp2
    go_ret
    exact ⟨by simp [h, inB], rfl⟩
  · go_enter Try.func15, Try.ntmps15
    go_wp2
    go_ret
    exact ⟨by simp [h, inB]; omega, rfl⟩

set_option maxHeartbeats 400000 in
theorem within_c (n lo hi : Int) (w : World) :
    Calls Try.prog 20 #[.int .i64 n, .int .i64 lo, .int .i64 hi] w fun e w' => e = .returned (.bool (inB lo hi n)) ∧ w = w' := by
  by_cases h : lo ≤ n
  · go_enter Try.func20, Try.ntmps20
    go_wp2
    go_ret
    exact ⟨by simp [h, inB], rfl⟩
  · go_enter Try.func20, Try.ntmps20
    go_wp2
    go_ret
    exact ⟨by simp [h, inB]; omega, rfl⟩

def byteOk (x : Int) : Prop := 0 ≤ x ∧ x ≤ 255
end Go.Proofs.Ytpikemglnnjemaa
