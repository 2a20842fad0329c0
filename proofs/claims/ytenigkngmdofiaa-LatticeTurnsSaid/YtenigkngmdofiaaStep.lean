/- step, Step, direction: the six directions. -/
import Derived.Test.YtenigkngmdofiaaNear
namespace Go.Proofs.Ytenigkngmdofiaa
open Go.RowKit

/-- The step along a direction. -/
def stepS (d : Nat) : Pt :=
  match d with
  | 0 => ⟨1, 0, 0⟩
  | 1 => ⟨-1, 0, 0⟩
  | 2 => ⟨0, 1, 0⟩
  | 3 => ⟨0, -1, 0⟩
  | 4 => ⟨0, 0, 1⟩
  | _ => ⟨0, 0, -1⟩
theorem stepS_ok (d : Nat) : (stepS d).ok := by
  unfold stepS
  split <;> (unfold Pt.ok CB; simp)

def Pt.eqB (a b : Pt) : Bool := a.x == b.x && (a.y == b.y && a.z == b.z)
theorem Pt.eqB_iff {a b : Pt} : a.eqB b = true ↔ a = b := by
  cases a
  cases b
  simp [Pt.eqB]
theorem pt_eql (a b c d e f : Int) (w : World) : (binOp .eql 23 (.agg #[.int .i64 a, .int .i64 b, .int .i64 c]) (.agg #[.int .i64 d, .int .i64 e, .int .i64 f])).run Try.prog w = .ok (.bool (Pt.eqB ⟨a, b, c⟩ ⟨d, e, f⟩)) w := by
  unfold Pt.eqB
  by_cases h1 : a = d <;> by_cases h2 : b = e <;> by_cases h3 : c = f <;> simp [go_sem, h1, h2, h3]
theorem pt_neq (a b c d e f : Int) (w : World) : (binOp .neq 23 (.agg #[.int .i64 a, .int .i64 b, .int .i64 c]) (.agg #[.int .i64 d, .int .i64 e, .int .i64 f])).run Try.prog w = .ok (.bool (!Pt.eqB ⟨a, b, c⟩ ⟨d, e, f⟩)) w := by
  unfold Pt.eqB
  by_cases h1 : a = d <;> by_cases h2 : b = e <;> by_cases h3 : c = f <;> simp [go_sem, h1, h2, h3]
theorem stepS_inj {a b : Nat} (ha : a < 6) (hb : b < 6) (h : stepS a = stepS b) : a = b := by
  have e1 : a = 0 ∨ a = 1 ∨ a = 2 ∨ a = 3 ∨ a = 4 ∨ a = 5 := by omega
  have e2 : b = 0 ∨ b = 1 ∨ b = 2 ∨ b = 3 ∨ b = 4 ∨ b = 5 := by omega
  rcases e1 with rfl | rfl | rfl | rfl | rfl | rfl <;> rcases e2 with rfl | rfl | rfl | rfl | rfl | rfl <;> first | rfl | (exfalso; simp [stepS] at h)

set_option maxHeartbeats 1600000 in
theorem step_c (d : Nat) (hd : d < 6) (w : World) :
    Calls Try.prog 48 #[.int .i64 d] w fun e w' => e = .returned (.agg #[.int .i64 (stepS d).x, .int .i64 (stepS d).y, .int .i64 (stepS d).z]) ∧ Ext w w' := by
  have hi : ∀ (a b c : Int) (w : World), (Instr.index 137 (.agg #[.int .i64 a, .int .i64 0, .int .i64 0, .int .i64 0, .int .i64 b, .int .i64 0, .int .i64 0, .int .i64 0, .int .i64 c]) (.int .i64 0)).run Try.prog w = .ok (.agg #[.int .i64 a, .int .i64 0, .int .i64 0]) w := fun _ _ _ _ => by kernel_rfl
  have hj : ∀ (a b c : Int) (w : World), (Instr.index 137 (.agg #[.int .i64 a, .int .i64 0, .int .i64 0, .int .i64 0, .int .i64 b, .int .i64 0, .int .i64 0, .int .i64 0, .int .i64 c]) (.int .i64 1)).run Try.prog w = .ok (.agg #[.int .i64 0, .int .i64 b, .int .i64 0]) w := fun _ _ _ _ => by kernel_rfl
  have hk : ∀ (a b c : Int) (w : World), (Instr.index 137 (.agg #[.int .i64 a, .int .i64 0, .int .i64 0, .int .i64 0, .int .i64 b, .int .i64 0, .int .i64 0, .int .i64 0, .int .i64 c]) (.int .i64 2)).run Try.prog w = .ok (.agg #[.int .i64 0, .int .i64 0, .int .i64 c]) w := fun _ _ _ _ => by kernel_rfl
  have e1 : d = 0 ∨ d = 1 ∨ d = 2 ∨ d = 3 ∨ d = 4 ∨ d = 5 := by omega
  rcases e1 with rfl | rfl | rfl | rfl | rfl | rfl
  all_goals
    go_enter Try.func48, Try.ntmps48
    go_wp2
    refine bodyPost_ret (v := .agg #[.int .i64 (stepS _).x, .int .i64 (stepS _).y, .int .i64 (stepS _).z]) ?_ rfl ⟨rfl, by apply_rules [Ext.refl, Ext.alloc]⟩
    simp [results, Try.results48, go_sem, stepS]

set_option maxHeartbeats 1600000 in
theorem rstep_c (d : Nat) (hd : d < 6) (w : World) :
    Calls Try.prog 81 #[.int .i64 d] w fun e w' => e = .returned (.agg #[.int .i64 (stepS d).x, .int .i64 (stepS d).y, .int .i64 (stepS d).z]) ∧ Ext w w' := by
  have e1 : d = 0 ∨ d = 1 ∨ d = 2 ∨ d = 3 ∨ d = 4 ∨ d = 5 := by omega
  rcases e1 with rfl | rfl | rfl | rfl | rfl | rfl
  all_goals
    go_enter Try.func81, Try.ntmps81
    go_wp2
    refine bodyPost_ret (v := .agg #[.int .i64 (stepS _).x, .int .i64 (stepS _).y, .int .i64 (stepS _).z]) ?_ rfl ⟨rfl, by apply_rules [Ext.refl, Ext.alloc]⟩
    simp [results, Try.results81, go_sem, stepS]

set_option maxHeartbeats 1600000 in
theorem direction_c (d : Nat) (hd : d < 6) (w : World) :
    Calls Try.prog 47 #[.agg #[.int .i64 (stepS d).x, .int .i64 (stepS d).y, .int .i64 (stepS d).z]] w fun e w' => e = .returned (.int .i64 d) ∧ Ext w w' := by
  obtain ⟨W, hW, E, ba, hz⟩ := boxes1 w #[.int .i64 (stepS d).x, .int .i64 (stepS d).y, .int .i64 (stepS d).z] 23
  have B : Blk W w.heap.size 23 #[.int .i64 (stepS d).x, .int .i64 (stepS d).y, .int .i64 (stepS d).z] := by rw [← hW]; exact Blk.new _ _ _
  go_enter Try.func47, Try.ntmps47
  go_wp2
  go_loopw [4] (fun i wr => ∃ k : Nat, k ≤ d ∧ i = .int .i64 k ∧ Ext W wr) (fun i _ => 6 - (intOf i).toNat)
  case atStart => exact ⟨0, by omega, rfl, Ext.refl _⟩
  case round =>
    obtain ⟨k, hk, rfl, E1⟩ := hrel
    have c := (B.ext E1).cell
    have hq : ∀ w, (binOp .eql 23 (.agg #[.int .i64 (stepS k).x, .int .i64 (stepS k).y, .int .i64 (stepS k).z]) (.agg #[.int .i64 (stepS d).x, .int .i64 (stepS d).y, .int .i64 (stepS d).z])).run Try.prog w = .ok (.bool (decide (k = d))) w := fun w => by
      rw [pt_eql]
      have : Pt.eqB (stepS k) (stepS d) = decide (k = d) := by
        by_cases h : k = d
        · subst h
          simp [Pt.eqB]
        · simp only [h, decide_false]
          rw [Bool.eq_false_iff]
          intro h'
          exact h (stepS_inj (by omega) hd (Pt.eqB_iff.1 h'))
      exact congrArg (fun b => Result.ok (Value.bool b) w) this
    by_cases hkd : k = d
    · have hkd' : decide (k = d) = true := by simp [hkd]
      simp only [hkd'] at hq
      clear hkd'
      have Hkd := Lib.hid hkd
      clear hkd
      go_wp2
      refine wp_region_grow (by kernel_rfl) (by kernel_rfl) ?_
      repeat (go_big_quiet_step ((go_at_call 48; exact quiet_ext (step_c k (by omega) _))))
      refine wpQuiet_nil ?_
      intro W2 hW2
      have E2 : Ext wr W2 := by
        obtain ⟨x, rfl⟩ := hW2
        exact (Ext.refl _).grow x
      clear hW2
      go_wp2
      go_ret
      exact ⟨by rw [Hkd.out]; rfl, (E.trans E1).trans E2⟩
    · have hkd' : decide (k = d) = false := by simp [hkd]
      simp only [hkd'] at hq
      clear hkd'
      go_wp2
      refine wp_region_grow (by kernel_rfl) (by kernel_rfl) ?_
      repeat (go_big_quiet_step ((go_at_call 48; exact quiet_ext (step_c k (by omega) _))))
      refine wpQuiet_nil ?_
      intro W2 hW2
      have E2 : Ext wr W2 := by
        obtain ⟨x, rfl⟩ := hW2
        exact (Ext.refl _).grow x
      clear hW2
      go_wp2
      go_roundw
      case rel => exact ⟨k + 1, by omega, by go_num, E1.trans E2⟩
      case measure => simp [intOf]; omega
end Go.Proofs.Ytenigkngmdofiaa
