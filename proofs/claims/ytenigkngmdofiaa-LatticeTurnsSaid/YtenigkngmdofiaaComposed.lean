/- The reference's Pointed, Direction, Composed, Compose, Inverse, Invert. -/
import Derived.Test.YtenigkngmdofiaaTurnD
namespace Go.Proofs.Ytenigkngmdofiaa
open Go.RowKit

set_option maxHeartbeats 1600000 in
theorem pointed_c (d n : Nat) (hd : d < 6) (hn : n < 24) (w : World) :
    Calls Try.prog 50 #[.int .i64 d, .int .i64 n] w fun e w' => e = .returned (.int .i64 (dirT d n)) ∧ Ext w w' := by
  have hlt := dirT_lt hd hn
  have He := Lib.hid (dirT_eq hd hn)
  go_enter Try.func50, Try.ntmps50
  go_wp2_with fail
  refine (rstep_c d hd _).mono ?_
  rintro e w1 ⟨rfl, E1⟩
  go_wp2_with fail
  refine (turned_c (stepS d).x (stepS d).y (stepS d).z n _ hn (stepS_ok d)).mono ?_
  rintro e w2 ⟨rfl, E2⟩
  rw [show turnS ⟨(stepS d).x, (stepS d).y, (stepS d).z⟩ n = stepS (dirT d n) from He.out]
  obtain ⟨g, hg⟩ : ∃ g, dirT d n = g := ⟨_, rfl⟩
  have Hg := Lib.hid hg
  rw [hg] at hlt ⊢
  clear hg
  obtain ⟨W, hW, E, ba, hz⟩ := boxes1 w2 #[.int .i64 (stepS g).x, .int .i64 (stepS g).y, .int .i64 (stepS g).z] 23
  have B : Blk W w2.heap.size 23 #[.int .i64 (stepS g).x, .int .i64 (stepS g).y, .int .i64 (stepS g).z] := by rw [← hW]; exact Blk.new _ _ _
  go_wp2_with fail
  go_loopw [6] (fun i wr => ∃ k : Nat, k ≤ g ∧ i = .int .i64 k ∧ Ext W wr) (fun i _ => 6 - (intOf i).toNat)
  case atStart => exact ⟨0, by omega, rfl, Ext.refl _⟩
  case round =>
    obtain ⟨k, hk, rfl, E3⟩ := hrel
    have c := (B.ext E3).cell
    have hq : ∀ w, (binOp .eql 23 (.agg #[.int .i64 (stepS k).x, .int .i64 (stepS k).y, .int .i64 (stepS k).z]) (.agg #[.int .i64 (stepS g).x, .int .i64 (stepS g).y, .int .i64 (stepS g).z])).run Try.prog w = .ok (.bool (decide (k = g))) w := fun w => by
      rw [pt_eql]
      have : Pt.eqB (stepS k) (stepS g) = decide (k = g) := by
        by_cases h : k = g
        · subst h
          simp [Pt.eqB]
        · simp only [h, decide_false]
          rw [Bool.eq_false_iff]
          intro h'
          exact h (stepS_inj (by omega) hlt (Pt.eqB_iff.1 h'))
      exact congrArg (fun b => Result.ok (Value.bool b) w) this
    by_cases hkd : k = g
    · have hkd' : decide (k = g) = true := by simp [hkd]
      simp only [hkd'] at hq
      clear hkd'
      have Hkd := Lib.hid hkd
      clear hkd
      go_wp2
      refine wp_region_grow (by kernel_rfl) (by kernel_rfl) ?_
      repeat (go_big_quiet_step ((go_at_call 81; exact quiet_ext (rstep_c k (by omega) _))))
      refine wpQuiet_nil ?_
      intro W2 hW2
      have E4 : Ext wr W2 := by
        obtain ⟨x, rfl⟩ := hW2
        exact (Ext.refl _).grow x
      clear hW2
      go_wp2
      go_ret
      exact ⟨by rw [Hg.out, Hkd.out]; rfl, ((((E1.trans E2).trans E).trans E3).trans E4)⟩
    · have hkd' : decide (k = g) = false := by simp [hkd]
      simp only [hkd'] at hq
      clear hkd'
      go_wp2
      refine wp_region_grow (by kernel_rfl) (by kernel_rfl) ?_
      repeat (go_big_quiet_step ((go_at_call 81; exact quiet_ext (rstep_c k (by omega) _))))
      refine wpQuiet_nil ?_
      intro W2 hW2
      have E4 : Ext wr W2 := by
        obtain ⟨x, rfl⟩ := hW2
        exact (Ext.refl _).grow x
      clear hW2
      go_wp2
      go_roundw
      case rel => exact ⟨k + 1, by omega, by go_num, E3.trans E4⟩
      case measure => simp [intOf]; omega

set_option maxHeartbeats 800000 in
theorem rDirection_ok (d n : Nat) (w : World) (hd : d < 6) (hn : n < 24) :
    Calls Try.prog 9 #[.int .i64 d, .int .i64 n] w fun e w' => e = .returned (.tuple #[.int .i64 (dirT d n), .int .i64 0]) ∧ Ext w w' := by
  have hi : inB 0 23 (n : Int) = true := inB_iff.2 (by omega)
  have hj : inB 0 5 (d : Int) = true := inB_iff.2 (by omega)
  go_enter Try.func9, Try.ntmps9
  go_wp2_with (first | (go_at_call 49; refine (within_c _ _ _ _).mono ?_; rintro e w' ⟨rfl, rfl⟩) | (go_at_call 45; refine (risTurn_c _ _).mono ?_; rintro e w' ⟨rfl, rfl⟩) | (go_at_call 50; refine (pointed_c d n hd hn _).mono ?_; rintro e w1 ⟨rfl, E1⟩))
  go_ret2
  exact ⟨rfl, E1⟩

set_option maxHeartbeats 800000 in
theorem rDirection_bad (d n : Int) (w : World) (hb : ¬ ((0 ≤ d ∧ d ≤ 5) ∧ 0 ≤ n ∧ n < 24)) :
    Calls Try.prog 9 #[.int .i64 d, .int .i64 n] w fun e w' => e = .returned (.tuple #[.int .i64 0, .int .i64 2]) ∧ Ext w w' := by
  cases hj : inB 0 5 d
  · clear hb
    go_enter Try.func9, Try.ntmps9
    go_wp2_with (first | (go_at_call 49; refine (within_c _ _ _ _).mono ?_; rintro e w' ⟨rfl, rfl⟩))
    go_ret2
    exact ⟨rfl, Ext.refl _⟩
  · have hi : inB 0 23 n = false := inB_not.2 (fun h => hb ⟨inB_iff.1 hj, by omega, by omega⟩)
    clear hb
    go_enter Try.func9, Try.ntmps9
    go_wp2_with (first | (go_at_call 49; refine (within_c _ _ _ _).mono ?_; rintro e w' ⟨rfl, rfl⟩) | (go_at_call 45; refine (risTurn_c _ _).mono ?_; rintro e w' ⟨rfl, rfl⟩))
    go_ret2
    exact ⟨rfl, Ext.refl _⟩

/-- n does what a and then b do, to two cells. -/
def compB (a b n : Nat) : Bool := Pt.eqB (turnS ⟨1, 0, 0⟩ n) (turnS (turnS ⟨1, 0, 0⟩ a) b) && Pt.eqB (turnS ⟨0, 1, 0⟩ n) (turnS (turnS ⟨0, 1, 0⟩ a) b)
/-- The turn that does what a and then b do. -/
def compT (a b : Nat) : Nat := ((List.range 24).find? (compB a b)).getD 0
theorem find_at (f : Nat → Bool) (N k : Nat) (hk : k < N) (h : ∀ j, j < k → f j = false) (hf : f k = true) : (List.range N).find? f = some k := by
  rw [List.find?_range_eq_some]
  exact ⟨hf, List.mem_range.2 hk, fun j hj => by rw [h j hj]; rfl⟩
theorem find_no (f : Nat → Bool) (N : Nat) (h : ∀ j, j < N → f j = false) : (List.range N).find? f = none := by
  rw [List.find?_range_eq_none]
  intro i hi
  rw [h i hi]
  rfl

set_option maxHeartbeats 3200000 in
theorem composed_c (a b : Nat) (ha : a < 24) (hb : b < 24) (w : World) :
    Calls Try.prog 52 #[.int .i64 a, .int .i64 b] w fun e w' => e = .returned (.int .i64 (compT a b)) ∧ Ext w w' := by
  have okX : Pt.ok ⟨1, 0, 0⟩ := by unfold Pt.ok CB; simp
  have okY : Pt.ok ⟨0, 1, 0⟩ := by unfold Pt.ok CB; simp
  have okXa : Pt.ok ⟨(turnS ⟨1, 0, 0⟩ a).x, (turnS ⟨1, 0, 0⟩ a).y, (turnS ⟨1, 0, 0⟩ a).z⟩ := turnS_ok okX a
  have okYa : Pt.ok ⟨(turnS ⟨0, 1, 0⟩ a).x, (turnS ⟨0, 1, 0⟩ a).y, (turnS ⟨0, 1, 0⟩ a).z⟩ := turnS_ok okY a
  obtain ⟨W, hW, E, ba, bb, hz⟩ := boxes2 w #[.int .i64 1, .int .i64 0, .int .i64 0] #[.int .i64 0, .int .i64 1, .int .i64 0] 23 23
  have B0 : Blk W w.heap.size 23 #[.int .i64 1, .int .i64 0, .int .i64 0] := by rw [← hW]; exact (Blk.new _ _ _).alloc _
  have B1 : Blk W (w.heap.size + 1) 23 #[.int .i64 0, .int .i64 1, .int .i64 0] := by
    rw [← hW]
    have := Blk.new (w.alloc (.cells #[.int .i64 1, .int .i64 0, .int .i64 0] 23)) #[.int .i64 0, .int .i64 1, .int .i64 0] 23
    rwa [World.size_alloc] at this
  have HW := Lib.hid hW
  clear ba bb hz hW
  go_enter Try.func52, Try.ntmps52
  go_wp2
  rw [HW.out]
  go_loopw [7] (fun i wr => ∃ k : Nat, k ≤ 24 ∧ i = .int .i64 k ∧ Ext W wr ∧ ∀ j, j < k → compB a b j = false) (fun i _ => 24 - (intOf i).toNat)
  case atStart => exact ⟨0, by omega, rfl, Ext.refl _, fun j hj => by omega⟩
  case round =>
    obtain ⟨k, hk, rfl, E1, hj⟩ := hrel
    have Hj := Lib.hid hj
    clear hj
    have c0 := (B0.ext E1).cell
    have c1 := (B1.ext E1).cell
    by_cases hlt : k < 24
    · cases hX : Pt.eqB (turnS ⟨1, 0, 0⟩ k) (turnS (turnS ⟨1, 0, 0⟩ a) b)
      · have hc : compB a b k = false := by simp [compB, hX]
        have qX : ∀ w, (binOp .eql 23 (.agg #[.int .i64 (turnS ⟨1, 0, 0⟩ k).x, .int .i64 (turnS ⟨1, 0, 0⟩ k).y, .int .i64 (turnS ⟨1, 0, 0⟩ k).z]) (.agg #[.int .i64 (turnS ⟨(turnS ⟨1, 0, 0⟩ a).x, (turnS ⟨1, 0, 0⟩ a).y, (turnS ⟨1, 0, 0⟩ a).z⟩ b).x, .int .i64 (turnS ⟨(turnS ⟨1, 0, 0⟩ a).x, (turnS ⟨1, 0, 0⟩ a).y, (turnS ⟨1, 0, 0⟩ a).z⟩ b).y, .int .i64 (turnS ⟨(turnS ⟨1, 0, 0⟩ a).x, (turnS ⟨1, 0, 0⟩ a).y, (turnS ⟨1, 0, 0⟩ a).z⟩ b).z])).run Try.prog w = .ok (.bool false) w := fun w => (pt_eql _ _ _ _ _ _ w).trans (congrArg (fun q => Result.ok (Value.bool q) w) hX)
        have Hc := Lib.hid hc
        clear hX hc
        go_wp2
        refine wp_region_grow (by kernel_rfl) (by kernel_rfl) ?_
        repeat (go_big_quiet_step ((go_at_call 46; exact quiet_ext (turned_c _ _ _ _ _ (by omega) (by assumption)))))
        refine wpQuiet_nil ?_
        intro W2 hW2
        have E2 : Ext wr W2 := by
          obtain ⟨x, rfl⟩ := hW2
          exact (Ext.refl _).grow x
        clear hW2
        go_wp2
        go_roundw
        case rel =>
          refine ⟨k + 1, by omega, by go_num, E1.trans E2, fun j hj => ?_⟩
          rcases Nat.lt_or_ge j k with h | h
          · exact Hj.out j h
          · obtain rfl : j = k := by omega
            exact Hc.out
        case measure => simp [intOf]; omega
      · have qX : ∀ w, (binOp .eql 23 (.agg #[.int .i64 (turnS ⟨1, 0, 0⟩ k).x, .int .i64 (turnS ⟨1, 0, 0⟩ k).y, .int .i64 (turnS ⟨1, 0, 0⟩ k).z]) (.agg #[.int .i64 (turnS ⟨(turnS ⟨1, 0, 0⟩ a).x, (turnS ⟨1, 0, 0⟩ a).y, (turnS ⟨1, 0, 0⟩ a).z⟩ b).x, .int .i64 (turnS ⟨(turnS ⟨1, 0, 0⟩ a).x, (turnS ⟨1, 0, 0⟩ a).y, (turnS ⟨1, 0, 0⟩ a).z⟩ b).y, .int .i64 (turnS ⟨(turnS ⟨1, 0, 0⟩ a).x, (turnS ⟨1, 0, 0⟩ a).y, (turnS ⟨1, 0, 0⟩ a).z⟩ b).z])).run Try.prog w = .ok (.bool true) w := fun w => (pt_eql _ _ _ _ _ _ w).trans (congrArg (fun q => Result.ok (Value.bool q) w) hX)
        cases hY : Pt.eqB (turnS ⟨0, 1, 0⟩ k) (turnS (turnS ⟨0, 1, 0⟩ a) b)
        · have hc : compB a b k = false := by simp [compB, hY]
          have qY : ∀ w, (binOp .eql 23 (.agg #[.int .i64 (turnS ⟨0, 1, 0⟩ k).x, .int .i64 (turnS ⟨0, 1, 0⟩ k).y, .int .i64 (turnS ⟨0, 1, 0⟩ k).z]) (.agg #[.int .i64 (turnS ⟨(turnS ⟨0, 1, 0⟩ a).x, (turnS ⟨0, 1, 0⟩ a).y, (turnS ⟨0, 1, 0⟩ a).z⟩ b).x, .int .i64 (turnS ⟨(turnS ⟨0, 1, 0⟩ a).x, (turnS ⟨0, 1, 0⟩ a).y, (turnS ⟨0, 1, 0⟩ a).z⟩ b).y, .int .i64 (turnS ⟨(turnS ⟨0, 1, 0⟩ a).x, (turnS ⟨0, 1, 0⟩ a).y, (turnS ⟨0, 1, 0⟩ a).z⟩ b).z])).run Try.prog w = .ok (.bool false) w := fun w => (pt_eql _ _ _ _ _ _ w).trans (congrArg (fun q => Result.ok (Value.bool q) w) hY)
          have Hc := Lib.hid hc
          clear hX hY hc
          go_wp2
          refine wp_region_grow (by kernel_rfl) (by kernel_rfl) ?_
          repeat (go_big_quiet_step ((go_at_call 46; exact quiet_ext (turned_c _ _ _ _ _ (by omega) (by assumption)))))
          refine wpQuiet_nil ?_
          intro W2 hW2
          have E2 : Ext wr W2 := by
            obtain ⟨x, rfl⟩ := hW2
            exact (Ext.refl _).grow x
          clear hW2
          go_wp2
          go_roundw
          case rel =>
            refine ⟨k + 1, by omega, by go_num, E1.trans E2, fun j hj => ?_⟩
            rcases Nat.lt_or_ge j k with h | h
            · exact Hj.out j h
            · obtain rfl : j = k := by omega
              exact Hc.out
          case measure => simp [intOf]; omega
        · have hc : compT a b = k := by
            have : compB a b k = true := by simp [compB, hX, hY]
            rw [compT, find_at _ 24 k hlt Hj.out this]
            rfl
          have qY : ∀ w, (binOp .eql 23 (.agg #[.int .i64 (turnS ⟨0, 1, 0⟩ k).x, .int .i64 (turnS ⟨0, 1, 0⟩ k).y, .int .i64 (turnS ⟨0, 1, 0⟩ k).z]) (.agg #[.int .i64 (turnS ⟨(turnS ⟨0, 1, 0⟩ a).x, (turnS ⟨0, 1, 0⟩ a).y, (turnS ⟨0, 1, 0⟩ a).z⟩ b).x, .int .i64 (turnS ⟨(turnS ⟨0, 1, 0⟩ a).x, (turnS ⟨0, 1, 0⟩ a).y, (turnS ⟨0, 1, 0⟩ a).z⟩ b).y, .int .i64 (turnS ⟨(turnS ⟨0, 1, 0⟩ a).x, (turnS ⟨0, 1, 0⟩ a).y, (turnS ⟨0, 1, 0⟩ a).z⟩ b).z])).run Try.prog w = .ok (.bool true) w := fun w => (pt_eql _ _ _ _ _ _ w).trans (congrArg (fun q => Result.ok (Value.bool q) w) hY)
          have Hc := Lib.hid hc
          clear hX hY hc
          go_wp2
          refine wp_region_grow (by kernel_rfl) (by kernel_rfl) ?_
          repeat (go_big_quiet_step ((go_at_call 46; exact quiet_ext (turned_c _ _ _ _ _ (by omega) (by assumption)))))
          refine wpQuiet_nil ?_
          intro W2 hW2
          have E2 : Ext wr W2 := by
            obtain ⟨x, rfl⟩ := hW2
            exact (Ext.refl _).grow x
          clear hW2
          go_wp2
          go_ret
          exact ⟨by rw [Hc.out]; rfl, (E.trans E1).trans E2⟩
    · obtain rfl : k = 24 := by omega
      have hc : compT a b = 0 := by rw [compT, find_no _ 24 Hj.out]; rfl
      have Hc := Lib.hid hc
      clear hc
      go_wp2
      go_ret
      exact ⟨by rw [Hc.out]; rfl, E.trans E1⟩
end Go.Proofs.Ytenigkngmdofiaa
