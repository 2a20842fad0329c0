/- Plates of the reference. -/
import Derived.Test.YtpikemglnnjemaaCheckPlates
namespace Go.Proofs.Ytpikemglnnjemaa
open Go.RowKit

def beforeB (q p : Plate) : Bool := decide (q.W < p.W) || (decide (q.W = p.W) && (decide (q.D < p.D) || (decide (q.D = p.D) && decide (q.color < p.color))))
theorem pairB_eq (q p : Plate) : pairB q p = (beforeB q p && !(decide (q.W = p.W) && (decide (q.D = p.D) && decide (q.color = 0)))) := by
  unfold pairB beforeB
  by_cases h1 : q.W < p.W
  · have : ¬ q.W = p.W := by omega
    simp [h1, this]
  · by_cases h2 : q.W = p.W
    · by_cases h3 : q.D < p.D
      · have : ¬ q.D = p.D := by omega
        simp [h2, h3, this]
      · by_cases h4 : q.D = p.D
        · by_cases h5 : q.color = 0 <;> simp [h2, h4, h5]
        · simp [h2, h3, h4]
    · simp [h1, h2]

set_option maxHeartbeats 1600000 in
theorem before_c (qW qD qN qc pW pD pN pc : Int) (w : World) :
    Calls Try.prog 37 #[.agg #[.int .i64 qW, .int .i64 qD, .int .i64 qN, .int .u8 qc], .agg #[.int .i64 pW, .int .i64 pD, .int .i64 pN, .int .u8 pc]] w fun e w' => e = .returned (.bool (beforeB ⟨qW, qD, qN, qc⟩ ⟨pW, pD, pN, pc⟩)) ∧ Ext w w' := by
  obtain ⟨W1, hW1, E1, B2, hz1⟩ := box_ w #[.int .i64 qW, .int .i64 qD, .int .i64 qN, .int .u8 qc] 70
  obtain ⟨W2, hW2, E2, B3, hz2⟩ := box_ W1 #[.int .i64 pW, .int .i64 pD, .int .i64 pN, .int .u8 pc] 70
  have B2' := B2.ext E2
  rw [hz1] at B3
  have b2 := B2'.cell
  have b3 := B3.cell
  by_cases h1 : qW < pW
  · go_enter Try.func37, Try.ntmps37
    go_wp2_with fail
    go_ret
    exact ⟨by simp [beforeB, h1], E1.trans E2⟩
  by_cases h2 : qW = pW
  rotate_left
  · go_enter Try.func37, Try.ntmps37
    go_wp2_with fail
    go_ret
    exact ⟨by simp [beforeB, h1, h2], E1.trans E2⟩
  subst h2
  by_cases h3 : qD < pD
  · go_enter Try.func37, Try.ntmps37
    go_wp2_with fail
    go_ret
    exact ⟨by simp [beforeB, h3], E1.trans E2⟩
  by_cases h4 : qD = pD
  rotate_left
  · go_enter Try.func37, Try.ntmps37
    go_wp2_with fail
    go_ret
    exact ⟨by simp [beforeB, h3, h4], E1.trans E2⟩
  subst h4
  by_cases h5 : qc < pc
  · go_enter Try.func37, Try.ntmps37
    go_wp2_with fail
    go_ret
    exact ⟨by simp [beforeB, h5], E1.trans E2⟩
  · go_enter Try.func37, Try.ntmps37
    go_wp2_with fail
    go_ret
    exact ⟨by simp [beforeB, h5], E1.trans E2⟩
theorem before_is {q p : Plate} {r : Bool} (h : beforeB q p = r) (w : World) :
    Calls Try.prog 37 #[.agg #[.int .i64 q.W, .int .i64 q.D, .int .i64 q.N, .int .u8 q.color], .agg #[.int .i64 p.W, .int .i64 p.D, .int .i64 p.N, .int .u8 p.color]] w fun e w' => e = .returned (.bool r) ∧ Ext w w' := by
  subst h
  exact before_c _ _ _ _ _ _ _ _ _
end Go.Proofs.Ytpikemglnnjemaa
