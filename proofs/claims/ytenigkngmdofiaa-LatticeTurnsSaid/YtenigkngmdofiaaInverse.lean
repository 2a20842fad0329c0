/- The reference's Compose, Inverse, Invert. -/
import Derived.Test.YtenigkngmdofiaaComposed
namespace Go.Proofs.Ytenigkngmdofiaa
open Go.RowKit

/-- The turn that undoes a. -/
def invT (a : Nat) : Nat := ((List.range 24).find? fun n => compT a n == 0).getD 0

set_option maxHeartbeats 800000 in
theorem inverse_c (a : Nat) (ha : a < 24) (w : World) :
    Calls Try.prog 54 #[.int .i64 a] w fun e w' => e = .returned (.int .i64 (invT a)) ∧ Ext w w' := by
  go_enter Try.func54, Try.ntmps54
  go_wp2
  go_loopw [3] (fun i wr => ∃ k : Nat, k ≤ 24 ∧ i = .int .i64 k ∧ Ext w wr ∧ ∀ j, j < k → (compT a j == 0) = false) (fun i _ => 24 - (intOf i).toNat)
  case atStart => exact ⟨0, by omega, rfl, Ext.refl _, fun j hj => by omega⟩
  case round =>
    obtain ⟨k, hk, rfl, E1, hj⟩ := hrel
    have Hj := Lib.hid hj
    clear hj
    by_cases hlt : k < 24
    · by_cases hc : compT a k = 0
      · have hf : invT a = k := by rw [invT, find_at _ 24 k hlt Hj.out (by simp [hc])]; rfl
        have Hf := Lib.hid hf
        have Hc := Lib.hid hc
        clear hf hc
        go_wp2_with (go_at_call 52; refine (composed_c a k ha hlt _).mono ?_; rintro e w1 ⟨rfl, E2⟩; rw [Hc.out])
        go_ret
        exact ⟨by rw [Hf.out]; rfl, E1.trans E2⟩
      · have hz : ((compT a k : Int) == 0) = false := by simp [hc]
        have Hc := Lib.hid hc
        clear hc
        go_wp2_with (go_at_call 52; refine (composed_c a k ha hlt _).mono ?_; rintro e w1 ⟨rfl, E2⟩)
        go_roundw
        case rel =>
          refine ⟨k + 1, by omega, by go_num, E1.trans E2, fun j hj => ?_⟩
          rcases Nat.lt_or_ge j k with h | h
          · exact Hj.out j h
          · obtain rfl : j = k := by omega
            simp [Hc.out]
        case measure => simp [intOf]; omega
    · obtain rfl : k = 24 := by omega
      have hf : invT a = 0 := by rw [invT, find_no _ 24 Hj.out]; rfl
      have Hf := Lib.hid hf
      clear hf
      go_wp2
      go_ret
      exact ⟨by rw [Hf.out]; rfl, E1⟩

set_option maxHeartbeats 400000 in
theorem rInvert_ok (a : Nat) (ha : a < 24) (w : World) :
    Calls Try.prog 13 #[.int .i64 a] w fun e w' => e = .returned (.tuple #[.int .i64 (invT a), .int .i64 0]) ∧ Ext w w' := by
  have hi : inB 0 23 (a : Int) = true := inB_iff.2 (by omega)
  go_enter Try.func13, Try.ntmps13
  go_wp2_with (first | (go_at_call 45; refine (risTurn_c _ _).mono ?_; rintro e w' ⟨rfl, rfl⟩) | (go_at_call 54; refine (inverse_c a ha _).mono ?_; rintro e w1 ⟨rfl, E1⟩))
  go_ret2
  exact ⟨rfl, E1⟩
set_option maxHeartbeats 400000 in
theorem rInvert_bad (a : Int) (ha : ¬ (0 ≤ a ∧ a < 24)) (w : World) :
    Calls Try.prog 13 #[.int .i64 a] w fun e w' => e = .returned (.tuple #[.int .i64 0, .int .i64 2]) ∧ Ext w w' := by
  have hi : inB 0 23 a = false := inB_not.2 (by omega)
  go_enter Try.func13, Try.ntmps13
  go_wp2_with (first | (go_at_call 45; refine (risTurn_c _ _).mono ?_; rintro e w' ⟨rfl, rfl⟩))
  go_ret2
  exact ⟨rfl, Ext.refl _⟩
set_option maxHeartbeats 400000 in
theorem rCompose_ok (a b : Nat) (ha : a < 24) (hb : b < 24) (w : World) :
    Calls Try.prog 11 #[.int .i64 a, .int .i64 b] w fun e w' => e = .returned (.tuple #[.int .i64 (compT a b), .int .i64 0]) ∧ Ext w w' := by
  have hi : inB 0 23 (a : Int) = true := inB_iff.2 (by omega)
  have hj : inB 0 23 (b : Int) = true := inB_iff.2 (by omega)
  go_enter Try.func11, Try.ntmps11
  go_wp2_with (first | (go_at_call 45; refine (risTurn_c _ _).mono ?_; rintro e w' ⟨rfl, rfl⟩) | (go_at_call 52; refine (composed_c a b ha hb _).mono ?_; rintro e w1 ⟨rfl, E1⟩))
  go_ret2
  exact ⟨rfl, E1⟩
set_option maxHeartbeats 400000 in
theorem rCompose_bad (a b : Int) (hb : ¬ ((0 ≤ a ∧ a < 24) ∧ 0 ≤ b ∧ b < 24)) (w : World) :
    Calls Try.prog 11 #[.int .i64 a, .int .i64 b] w fun e w' => e = .returned (.tuple #[.int .i64 0, .int .i64 2]) ∧ Ext w w' := by
  cases hj : inB 0 23 a
  · clear hb
    go_enter Try.func11, Try.ntmps11
    go_wp2_with (first | (go_at_call 45; refine (risTurn_c _ _).mono ?_; rintro e w' ⟨rfl, rfl⟩))
    go_ret2
    exact ⟨rfl, Ext.refl _⟩
  · have hi : inB 0 23 b = false := inB_not.2 (fun h => hb ⟨by have := inB_iff.1 hj; omega, by omega⟩)
    clear hb
    go_enter Try.func11, Try.ntmps11
    go_wp2_with (first | (go_at_call 45; refine (risTurn_c _ _).mono ?_; rintro e w' ⟨rfl, rfl⟩))
    go_ret2
    exact ⟨rfl, Ext.refl _⟩
end Go.Proofs.Ytenigkngmdofiaa
