/- Bits of a set, one after another; how many there are. -/
import Derived.Test.YtaaeapjnjjbglaaGreatDoorCd6
import Derived.Lib.TrailingZeros

namespace Go.Proofs.YtaaeapjnjjbglaaGreatDoor
open Go.RowKit

theorem low_bits {x : Nat} (h0 : x ≠ 0) (h : x < 2 ^ 32) :
    x.testBit (Lib.ctz 32 x) = true ∧ Lib.ctz 32 x < 32 ∧ (∀ j, j < Lib.ctz 32 x → x.testBit j = false) ∧ ∀ j, (x &&& (x - 1)).testBit j = (x.testBit j && decide (j ≠ Lib.ctz 32 x)) := by
  have e : Lib.ctz 32 x = Lib.ctzFrom 32 x := by simp [Lib.ctz, h0]
  obtain ⟨m, hm, hk⟩ := Lib.ctzFrom_spec 32 x (by omega) h
  rw [e]
  generalize Lib.ctzFrom 32 x = k at hm hk
  have hpos : 0 < 2 ^ k := Nat.two_pow_pos k
  have hx : ∀ j, x.testBit j = (decide (k ≤ j) && (2 * m + 1).testBit (j - k)) := fun j => by rw [hm, Nat.testBit_two_pow_mul]
  have hy : ∀ j, (x - 1).testBit j = if j < k then (2 ^ k - 1).testBit j else (2 * m).testBit (j - k) := fun j => by
    have h1 : x - 1 = 2 ^ k * (2 * m) + (2 ^ k - 1) := by rw [hm, Nat.mul_add]; omega
    rw [h1, Nat.testBit_two_pow_mul_add _ (by omega)]
  have o1 : (2 * m + 1).testBit 0 = true := by simp
  have o2 : (2 * m).testBit 0 = false := by simp
  have o3 : ∀ t, (2 * m + 1).testBit (t + 1) = (2 * m).testBit (t + 1) := fun t => by
    rw [Nat.testBit_succ, Nat.testBit_succ, show (2 * m + 1) / 2 = m by omega, show 2 * m / 2 = m by omega]
  refine ⟨by rw [hx, Nat.sub_self, o1]; simp, hk, fun j hj => by rw [hx, decide_eq_false (by omega)]; rfl, fun j => ?_⟩
  rw [Nat.testBit_and, hx, hy]
  rcases Nat.lt_trichotomy j k with hj | hj | hj
  · rw [decide_eq_false (by omega : ¬ k ≤ j)]
    rfl
  · subst hj
    rw [Nat.sub_self, if_neg (by omega), o2]
    simp
  · obtain ⟨t, rfl⟩ : ∃ t, j = k + (t + 1) := ⟨j - k - 1, by omega⟩
    rw [if_neg (by omega), show k + (t + 1) - k = t + 1 by omega, o3, decide_eq_true (by omega : k ≤ k + (t + 1)), decide_eq_true (by omega : k + (t + 1) ≠ k)]
    simp

theorem bitsOf_zero : bitsOf 0 = [] := by simp [bitsOf]
theorem bitsOf_step {x : Nat} (h0 : x ≠ 0) (h : x < 2 ^ 32) : bitsOf x = Lib.ctz 32 x :: bitsOf (x &&& (x - 1)) := by
  obtain ⟨h1, h2, h3, h4⟩ := low_bits h0 h
  generalize Lib.ctz 32 x = k at h1 h2 h3 h4
  have hr : List.range 32 = List.range' 0 k ++ (k :: List.range' (k + 1) (31 - k)) := by
    rw [List.range_eq_range']
    have e1 : List.range' 0 32 = List.range' 0 k ++ List.range' (0 + k) (32 - k) := by
      rw [List.range'_append_1]
      congr 1
      omega
    rw [e1, Nat.zero_add]
    congr 1
    rw [show 32 - k = (31 - k) + 1 by omega, List.range'_succ]
  have f1 : ∀ y : Nat, (∀ j, j < k → y.testBit j = false) → (List.range' 0 k).filter (fun n => y.testBit n) = [] := fun y hy => by
    rw [List.filter_eq_nil_iff]
    intro a ha
    rw [List.mem_range'_1] at ha
    rw [hy a (by omega)]
    simp
  unfold bitsOf
  rw [hr, List.filter_append, List.filter_append, f1 x h3, f1 (x &&& (x - 1)) (fun j hj => by rw [h4, h3 j hj]; rfl), List.nil_append, List.nil_append, List.filter_cons, List.filter_cons, if_pos h1, if_neg (by rw [h4]; simp)]
  congr 1
  apply List.filter_congr
  intro a ha
  rw [List.mem_range'_1] at ha
  rw [h4, decide_eq_true (by omega : a ≠ k), Bool.and_true]
theorem and_pred_lt {x : Nat} (h0 : x ≠ 0) : x &&& (x - 1) < x := by
  have := Nat.and_le_right (n := x) (m := x - 1)
  omega

/-- How many bits. -/
def pop (m : Nat) : Nat := (bitsOf m).length
def pop8 (m : Nat) : Nat := ((List.range 8).filter fun n => m.testBit n).length
theorem pop_bytes (m : Nat) : pop m = pop8 (m >>> 24 &&& 255) + pop8 (m >>> 16 &&& 255) + pop8 (m >>> 8 &&& 255) + pop8 (m &&& 255) := by
  have h255 : ∀ b, b < 8 → (255 : Nat).testBit b = true := fun b hb => by
    match b, hb with
    | 0, _ | 1, _ | 2, _ | 3, _ | 4, _ | 5, _ | 6, _ | 7, _ => rfl
  have hb : ∀ k, pop8 (m >>> k &&& 255) = ((List.range' k 8).filter fun n => m.testBit n).length := fun k => by
    have e : List.range' k 8 = (List.range 8).map (k + ·) := by rw [List.range_eq_range', List.map_add_range']; rfl
    rw [e, List.filter_map, List.length_map]
    unfold pop8
    congr 1
    apply List.filter_congr
    intro a ha
    rw [List.mem_range] at ha
    rw [Nat.testBit_and, h255 a ha, Bool.and_true, Nat.testBit_shiftRight]
    rfl
  have h0 := hb 0
  rw [Nat.shiftRight_zero] at h0
  rw [hb 24, hb 16, hb 8, h0]
  unfold pop bitsOf
  have e : List.range 32 = List.range' 0 8 ++ (List.range' 8 8 ++ (List.range' 16 8 ++ List.range' 24 8)) := rfl
  rw [e, List.filter_append, List.filter_append, List.filter_append, List.length_append, List.length_append, List.length_append]
  omega
theorem pop_full {m n : Nat} (hn : n ≤ 32) (hm : ∀ b, m.testBit b = true → b < n) : pop m = n ↔ ∀ b, b < n → m.testBit b = true := by
  have e : bitsOf m = (List.range n).filter fun b => m.testBit b := by
    unfold bitsOf
    have e1 : List.range 32 = List.range' 0 n ++ List.range' n (32 - n) := by
      rw [List.range_eq_range']
      have := List.range'_append_1 (s := 0) (m := n) (n := 32 - n)
      rw [Nat.zero_add] at this
      rw [this]
      congr 1
      omega
    rw [e1, List.filter_append, ← List.range_eq_range', (List.filter_eq_nil_iff (l := List.range' n (32 - n))).2 ?_, List.append_nil]
    intro a ha
    rw [List.mem_range'_1] at ha
    intro hb
    have := hm a hb
    omega
  unfold pop
  rw [e]
  have h := List.length_filter_eq_length_iff (l := List.range n) (p := fun b => m.testBit b)
  rw [List.length_range] at h
  rw [h]
  simp
end Go.Proofs.YtaaeapjnjjbglaaGreatDoor
