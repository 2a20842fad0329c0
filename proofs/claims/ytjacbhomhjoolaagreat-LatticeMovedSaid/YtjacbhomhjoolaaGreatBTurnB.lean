/- near, Near, isTurn, IsTurn. step, Step, direction: the six directions. Turn, Direction, and the reference's. The reference's Pointed, Direction, Composed, Compose, Inverse, Invert. The reference's Compose, Inverse, Invert. which: the iterator over the 24 turns and what each makes of (1, 2, 3). compose, Compose, Invert of the program. Compose, Invert of the program. -/
import Derived.Test.YtjacbhomhjoolaaGreatBTurn
import Derived.Test.YtjacbhomhjoolaaGreatBLib
import Derived.RangeFuncNested
import Derived.RangeFuncBound
import Derived.RangeFuncCalls
import Derived.RangeFuncLeaves
import Derived.Shelf.Abstract
import Derived.Shelf.RegionOpen
import Derived.OwnWalkIn
import Derived.TacticsInMore
import Derived.LoopNIn
import Derived.LoopIn
namespace Go.Proofs.YtjacbhomhjoolaaGreat
open Go.RowKit

def inB (lo hi n : Int) : Bool := decide (lo ≤ n) && decide (n ≤ hi)
theorem inB_iff {lo hi n : Int} : inB lo hi n = true ↔ lo ≤ n ∧ n ≤ hi := by simp [inB]
theorem inB_not {lo hi n : Int} : inB lo hi n = false ↔ ¬ (lo ≤ n ∧ n ≤ hi) := by
  rw [← inB_iff]; simp
/-- A cell's coordinates are in a range. -/
def nearB (p : Pt) (lo hi : Int) : Bool := inB lo hi p.x && (inB lo hi p.y && inB lo hi p.z)
theorem nearB_iff {p : Pt} {lo hi : Int} : nearB p lo hi = true ↔ (lo ≤ p.x ∧ p.x ≤ hi) ∧ (lo ≤ p.y ∧ p.y ≤ hi) ∧ (lo ≤ p.z ∧ p.z ≤ hi) := by
  simp [nearB, inB]
theorem nearB_not {p : Pt} {lo hi : Int} : nearB p lo hi = false ↔ ¬ ((lo ≤ p.x ∧ p.x ≤ hi) ∧ (lo ≤ p.y ∧ p.y ≤ hi) ∧ (lo ≤ p.z ∧ p.z ≤ hi)) := by
  rw [← nearB_iff]; simp

set_option maxHeartbeats 400000 in
theorem within_c (n lo hi : Int) (w : World) :
    Calls Tryz.prog 169 #[.int .i64 n, .int .i64 lo, .int .i64 hi] w fun e w' => e = .returned (.bool (inB lo hi n)) ∧ w = w' := by
  by_cases h : lo ≤ n
  · go_enter Tryz.func169, Tryz.ntmps169
    go_wp2
    go_ret
    exact ⟨by simp [h, inB], rfl⟩
  · go_enter Tryz.func169, Tryz.ntmps169
    go_wp2
    go_ret
    exact ⟨by simp [inB]; omega, rfl⟩

set_option maxHeartbeats 400000 in
theorem rnear_c (x y z lo hi : Int) (w : World) :
    Calls Tryz.prog 170 #[.agg #[.int .i64 x, .int .i64 y, .int .i64 z], .int .i64 lo, .int .i64 hi] w fun e w' => e = .returned (.bool (nearB ⟨x, y, z⟩ lo hi)) ∧ Ext w w' := by
  unfold nearB
  cases h1 : inB lo hi x
  · go_enter Tryz.func170, Tryz.ntmps170
    go_wp2_with (go_at_call 169; refine (within_c _ _ _ _).mono ?_; rintro e w' ⟨rfl, rfl⟩)
    go_ret
    exact ⟨rfl, by apply_rules [Ext.refl, Ext.alloc]⟩
  · cases h2 : inB lo hi y
    · go_enter Tryz.func170, Tryz.ntmps170
      go_wp2_with (go_at_call 169; refine (within_c _ _ _ _).mono ?_; rintro e w' ⟨rfl, rfl⟩)
      go_ret
      exact ⟨rfl, by apply_rules [Ext.refl, Ext.alloc]⟩
    · go_enter Tryz.func170, Tryz.ntmps170
      go_wp2_with (go_at_call 169; refine (within_c _ _ _ _).mono ?_; rintro e w' ⟨rfl, rfl⟩)
      go_ret
      exact ⟨rfl, by apply_rules [Ext.refl, Ext.alloc]⟩

theorem ret_bool {a b : Bool} (h : a = true ↔ b = true) : Ending.returned (.bool a) = .returned (.bool b) := by rw [Bool.eq_iff_iff.2 h]

set_option maxHeartbeats 800000 in
theorem near_c (x y z lo hi : Int) (w : World) :
    Calls Tryz.prog 43 #[.agg #[.int .i64 x, .int .i64 y, .int .i64 z], .int .i64 lo, .int .i64 hi] w fun e w' => e = .returned (.bool (nearB ⟨x, y, z⟩ lo hi)) ∧ Ext w w' := by
  by_cases h1 : lo ≤ min (min x y) z
  · go_enter Tryz.func43, Tryz.ntmps43
    go_wp2
    all_goals
      go_ret
      refine ⟨ret_bool ?_, by apply_rules [Ext.refl, Ext.alloc]⟩
      rw [nearB_iff]
      simp
      omega
  · go_enter Tryz.func43, Tryz.ntmps43
    go_wp2
    all_goals
      go_ret
      refine ⟨ret_bool ?_, by apply_rules [Ext.refl, Ext.alloc]⟩
      rw [nearB_iff]
      simp
      try omega

def allTurn (xs : List Int) : Bool := xs.all fun n => inB 0 23 n
set_option maxHeartbeats 800000 in
theorem isTurn_c (A : Option Addr) (cap : Nat) (xs : List Int) (w : World) (hs : SliceIs w A xs.length cap 1 (xs.map fun n => [.int .i64 n])) :
    Calls Tryz.prog 42 #[.slice A xs.length cap] w fun e w' => e = .returned (.bool (allTurn xs)) ∧ w = w' := by
  have hl : xs.length ≤ 9223372036854775807 := by have := hs.le; have := hs.small; unfold maxLen at this; omega
  go_enter Tryz.func42, Tryz.ntmps42
  go_wp2
  go_loop [7] (fun i => ∃ k : Nat, k ≤ xs.length ∧ i = .int .i64 k ∧ ∀ j, j < k → inB 0 23 (xs.getD j 0) = true) (fun i => xs.length - (intOf i).toNat)
  case atStart => exact ⟨0, by omega, rfl, fun j hj => by omega⟩
  case round =>
    obtain ⟨k, hk, rfl, hj⟩ := hrel
    have Hj := Lib.hid hj
    clear hj
    by_cases hlt : k < xs.length
    · obtain ⟨b, off, rfl, hb, hc⟩ := hs.cells (by omega)
      obtain ⟨n, hn⟩ : ∃ n, xs[k]? = some n := ⟨_, List.getElem?_eq_getElem hlt⟩
      have hc0 := hc k [.int .i64 n] (by rw [List.getElem?_map, hn]; rfl) 0 _ rfl
      have hgd : xs.getD k 0 = n := by simp [hn]
      have Hgd := Lib.hid hgd
      have hmem : n ∈ xs := List.mem_of_getElem? hn
      clear hgd hn hc
      simp only [Nat.mul_one, Nat.add_zero] at hc0
      by_cases h1 : n < 0
      · have ha : allTurn xs = false := by
          rw [allTurn, List.all_eq_false]
          exact ⟨n, hmem, by simp [inB]; omega⟩
        have Ha := Lib.hid ha
        clear ha
        go_wp2
        go_ret
        exact ⟨by rw [Ha.out]; rfl, rfl⟩
      · by_cases h2 : 24 ≤ n
        · have ha : allTurn xs = false := by
            rw [allTurn, List.all_eq_false]
            exact ⟨n, hmem, by simp [inB]; omega⟩
          have Ha := Lib.hid ha
          clear ha
          go_wp2
          go_ret
          exact ⟨by rw [Ha.out]; rfl, rfl⟩
        · go_wp2
          go_round
          case rel =>
            refine ⟨k + 1, by omega, by go_num, fun j hj => ?_⟩
            rcases Nat.lt_or_ge j k with h | h
            · exact Hj.out j h
            · obtain rfl : j = k := by omega
              rw [Hgd.out]
              exact inB_iff.2 ⟨by omega, by omega⟩
          case measure => simp [intOf]; omega
    · obtain rfl : xs.length = k := by omega
      have ha : allTurn xs = true := by
        rw [allTurn, List.all_eq_true]
        intro n hn
        obtain ⟨i, hi⟩ := List.getElem?_of_mem hn
        have hil : i < xs.length := by
          rcases Nat.lt_or_ge i xs.length with h | h
          · exact h
          · rw [List.getElem?_eq_none h] at hi; cases hi
        have := Hj.out i hil
        simpa [hi] using this
      have Ha := Lib.hid ha
      clear ha
      go_wp2
      go_ret
      exact ⟨by rw [Ha.out]; rfl, rfl⟩
end Go.Proofs.YtjacbhomhjoolaaGreat
namespace Go.Proofs.YtjacbhomhjoolaaGreat
open Go.RowKit

/-- The step along a direction. -/
def stepS (d : Nat) : Pt :=
  match d with
  | 0 => ⟨1, 0, 0⟩
  | 1 => ⟨-1, 0, 0⟩
  | 2 => ⟨0, 1, 0⟩
  | 3 => ⟨0, -1, 0⟩
  | 4 => ⟨0, 0, 1⟩
  | _ => ⟨0, 0, -1⟩
theorem stepS_ok (d : Nat) : (stepS d).ok := by
  unfold stepS
  split <;> (unfold Pt.ok CB; simp)

def Pt.eqB (a b : Pt) : Bool := a.x == b.x && (a.y == b.y && a.z == b.z)
theorem Pt.eqB_iff {a b : Pt} : a.eqB b = true ↔ a = b := by
  cases a
  cases b
  simp [Pt.eqB]
theorem pt_eql (a b c d e f : Int) (w : World) : (binOp .eql 27 (.agg #[.int .i64 a, .int .i64 b, .int .i64 c]) (.agg #[.int .i64 d, .int .i64 e, .int .i64 f])).run Tryz.prog w = .ok (.bool (Pt.eqB ⟨a, b, c⟩ ⟨d, e, f⟩)) w := by
  unfold Pt.eqB
  by_cases h1 : a = d <;> by_cases h2 : b = e <;> by_cases h3 : c = f <;> simp [go_sem, h1, h2, h3]
theorem pt_neq (a b c d e f : Int) (w : World) : (binOp .neq 27 (.agg #[.int .i64 a, .int .i64 b, .int .i64 c]) (.agg #[.int .i64 d, .int .i64 e, .int .i64 f])).run Tryz.prog w = .ok (.bool (!Pt.eqB ⟨a, b, c⟩ ⟨d, e, f⟩)) w := by
  unfold Pt.eqB
  by_cases h1 : a = d <;> by_cases h2 : b = e <;> by_cases h3 : c = f <;> simp [go_sem, h1, h2, h3]
theorem stepS_inj {a b : Nat} (ha : a < 6) (hb : b < 6) (h : stepS a = stepS b) : a = b := by
  have e1 : a = 0 ∨ a = 1 ∨ a = 2 ∨ a = 3 ∨ a = 4 ∨ a = 5 := by omega
  have e2 : b = 0 ∨ b = 1 ∨ b = 2 ∨ b = 3 ∨ b = 4 ∨ b = 5 := by omega
  rcases e1 with rfl | rfl | rfl | rfl | rfl | rfl <;> rcases e2 with rfl | rfl | rfl | rfl | rfl | rfl <;> first | rfl | (exfalso; simp [stepS] at h)

set_option maxHeartbeats 1600000 in
theorem step_c (d : Nat) (hd : d < 6) (w : World) :
    Calls Tryz.prog 52 #[.int .i64 d] w fun e w' => e = .returned (.agg #[.int .i64 (stepS d).x, .int .i64 (stepS d).y, .int .i64 (stepS d).z]) ∧ Ext w w' := by
  have hi : ∀ (a b c : Int) (w : World), (Instr.index 163 (.agg #[.int .i64 a, .int .i64 0, .int .i64 0, .int .i64 0, .int .i64 b, .int .i64 0, .int .i64 0, .int .i64 0, .int .i64 c]) (.int .i64 0)).run Tryz.prog w = .ok (.agg #[.int .i64 a, .int .i64 0, .int .i64 0]) w := fun _ _ _ _ => by kernel_rfl
  have hj : ∀ (a b c : Int) (w : World), (Instr.index 163 (.agg #[.int .i64 a, .int .i64 0, .int .i64 0, .int .i64 0, .int .i64 b, .int .i64 0, .int .i64 0, .int .i64 0, .int .i64 c]) (.int .i64 1)).run Tryz.prog w = .ok (.agg #[.int .i64 0, .int .i64 b, .int .i64 0]) w := fun _ _ _ _ => by kernel_rfl
  have hk : ∀ (a b c : Int) (w : World), (Instr.index 163 (.agg #[.int .i64 a, .int .i64 0, .int .i64 0, .int .i64 0, .int .i64 b, .int .i64 0, .int .i64 0, .int .i64 0, .int .i64 c]) (.int .i64 2)).run Tryz.prog w = .ok (.agg #[.int .i64 0, .int .i64 0, .int .i64 c]) w := fun _ _ _ _ => by kernel_rfl
  have e1 : d = 0 ∨ d = 1 ∨ d = 2 ∨ d = 3 ∨ d = 4 ∨ d = 5 := by omega
  rcases e1 with rfl | rfl | rfl | rfl | rfl | rfl
  all_goals
    go_enter Tryz.func52, Tryz.ntmps52
    go_wp2
    refine bodyPost_ret (v := .agg #[.int .i64 (stepS _).x, .int .i64 (stepS _).y, .int .i64 (stepS _).z]) ?_ rfl ⟨rfl, by apply_rules [Ext.refl, Ext.alloc]⟩
    simp [results, Tryz.results52, go_sem, stepS]

set_option maxHeartbeats 1600000 in
theorem rstep_c (d : Nat) (hd : d < 6) (w : World) :
    Calls Tryz.prog 181 #[.int .i64 d] w fun e w' => e = .returned (.agg #[.int .i64 (stepS d).x, .int .i64 (stepS d).y, .int .i64 (stepS d).z]) ∧ Ext w w' := by
  have e1 : d = 0 ∨ d = 1 ∨ d = 2 ∨ d = 3 ∨ d = 4 ∨ d = 5 := by omega
  rcases e1 with rfl | rfl | rfl | rfl | rfl | rfl
  all_goals
    go_enter Tryz.func181, Tryz.ntmps181
    go_wp2
    refine bodyPost_ret (v := .agg #[.int .i64 (stepS _).x, .int .i64 (stepS _).y, .int .i64 (stepS _).z]) ?_ rfl ⟨rfl, by apply_rules [Ext.refl, Ext.alloc]⟩
    simp [results, Tryz.results181, go_sem, stepS]

set_option maxHeartbeats 1600000 in
theorem direction_c (d : Nat) (hd : d < 6) (w : World) :
    Calls Tryz.prog 51 #[.agg #[.int .i64 (stepS d).x, .int .i64 (stepS d).y, .int .i64 (stepS d).z]] w fun e w' => e = .returned (.int .i64 d) ∧ Ext w w' := by
  obtain ⟨W, hW, E, ba, hz⟩ := boxes1 w #[.int .i64 (stepS d).x, .int .i64 (stepS d).y, .int .i64 (stepS d).z] 27
  have B : Blk W w.heap.size 27 #[.int .i64 (stepS d).x, .int .i64 (stepS d).y, .int .i64 (stepS d).z] := by rw [← hW]; exact Blk.new _ _ _
  go_enter Tryz.func51, Tryz.ntmps51
  go_wp2
  go_loopw [4] (fun i wr => ∃ k : Nat, k ≤ d ∧ i = .int .i64 k ∧ Ext W wr) (fun i _ => 6 - (intOf i).toNat)
  case atStart => exact ⟨0, by omega, rfl, Ext.refl _⟩
  case round =>
    obtain ⟨k, hk, rfl, E1⟩ := hrel
    have c := (B.ext E1).cell
    have hq : ∀ w, (binOp .eql 27 (.agg #[.int .i64 (stepS k).x, .int .i64 (stepS k).y, .int .i64 (stepS k).z]) (.agg #[.int .i64 (stepS d).x, .int .i64 (stepS d).y, .int .i64 (stepS d).z])).run Tryz.prog w = .ok (.bool (decide (k = d))) w := fun w => by
      rw [pt_eql]
      have : Pt.eqB (stepS k) (stepS d) = decide (k = d) := by
        by_cases h : k = d
        · subst h
          simp [Pt.eqB]
        · simp only [h, decide_false]
          rw [Bool.eq_false_iff]
          intro h'
          exact h (stepS_inj (by omega) hd (Pt.eqB_iff.1 h'))
      exact congrArg (fun b => Result.ok (Value.bool b) w) this
    by_cases hkd : k = d
    · have hkd' : decide (k = d) = true := by simp [hkd]
      simp only [hkd'] at hq
      clear hkd'
      have Hkd := Lib.hid hkd
      clear hkd
      go_wp2
      refine wp_region_grow (by kernel_rfl) (by kernel_rfl) ?_
      repeat (go_big_quiet_step ((go_at_call 52; exact quiet_ext (step_c k (by omega) _))))
      refine wpQuiet_nil ?_
      intro W2 hW2
      have E2 : Ext wr W2 := by
        obtain ⟨x, rfl⟩ := hW2
        exact (Ext.refl _).grow x
      clear hW2
      go_wp2
      go_ret
      exact ⟨by rw [Hkd.out]; rfl, (E.trans E1).trans E2⟩
    · have hkd' : decide (k = d) = false := by simp [hkd]
      simp only [hkd'] at hq
      clear hkd'
      go_wp2
      refine wp_region_grow (by kernel_rfl) (by kernel_rfl) ?_
      repeat (go_big_quiet_step ((go_at_call 52; exact quiet_ext (step_c k (by omega) _))))
      refine wpQuiet_nil ?_
      intro W2 hW2
      have E2 : Ext wr W2 := by
        obtain ⟨x, rfl⟩ := hW2
        exact (Ext.refl _).grow x
      clear hW2
      go_wp2
      go_roundw
      case rel => exact ⟨k + 1, by omega, by go_num, E1.trans E2⟩
      case measure => simp [intOf]; omega
end Go.Proofs.YtjacbhomhjoolaaGreat
namespace Go.Proofs.YtjacbhomhjoolaaGreat
open Go.RowKit

/-- One number in a new block, as a list of numbers. -/
theorem ints1 (w : World) (n : Int) (t : TypeId) : SliceIs (w.alloc (.cells #[.int .i64 n] t)) (some ⟨w.heap.size, 0, none⟩) 1 1 1 ([n].map fun n => [.int .i64 n]) := by
  refine ⟨rfl, Nat.le_refl _, by unfold maxLen; omega, by simp, fun _ => ⟨_, 0, rfl, by simp, fun i r hr j u hu => ?_⟩⟩
  have hi : i = 0 := by
    rcases Nat.eq_zero_or_pos i with h | h
    · exact h
    · rw [List.getElem?_eq_none (by simp; omega)] at hr; cases hr
  subst hi
  simp at hr
  subst hr
  have hj : j = 0 := by
    rcases Nat.eq_zero_or_pos j with h | h
    · exact h
    · rw [List.getElem?_eq_none (by simp; omega)] at hu; cases hu
  subst hj
  simp at hu
  subst hu
  rw [cell_new]
  rfl
theorem isTurn1_c (w : World) (n : Int) (t : TypeId) :
    Calls Tryz.prog 42 #[.slice (some ⟨w.heap.size, 0, none⟩) 1 1] (w.alloc (.cells #[.int .i64 n] t)) fun e w' => e = .returned (.bool (inB 0 23 n)) ∧ w.alloc (.cells #[.int .i64 n] t) = w' :=
  (isTurn_c _ 1 [n] _ (ints1 w n t)).mono fun e w' ⟨he, hw⟩ => ⟨by rw [he]; simp [allTurn], hw⟩

def turnOk (p : Pt) (n : Int) : Prop := nearB p (-2000) 2000 = true ∧ 0 ≤ n ∧ n < 24
theorem near_ok {p : Pt} (h : nearB p (-2000) 2000 = true) : p.ok := by
  have := nearB_iff.1 h
  unfold Pt.ok CB
  omega

set_option maxHeartbeats 800000 in
theorem Turn_ok (x y z : Int) (n : Nat) (w : World) (hn : n < 24) (hp : nearB ⟨x, y, z⟩ (-2000) 2000 = true) :
    Calls Tryz.prog 15 #[.agg #[.int .i64 x, .int .i64 y, .int .i64 z], .int .i64 n] w fun e w' =>
      e = .returned (.tuple #[.agg #[.int .i64 (turnS ⟨x, y, z⟩ n).x, .int .i64 (turnS ⟨x, y, z⟩ n).y, .int .i64 (turnS ⟨x, y, z⟩ n).z], .int .i64 0]) ∧ Ext w w' := by
  have hok := near_ok hp
  have hi : inB 0 23 (n : Int) = true := inB_iff.2 (by omega)
  obtain ⟨W, hW, E, ba, bb, hz⟩ := boxes2 w #[.int .i64 x, .int .i64 y, .int .i64 z] #[.int .i64 0, .int .i64 0, .int .i64 0] 27 27
  have B0 : Blk W w.heap.size 27 #[.int .i64 x, .int .i64 y, .int .i64 z] := by rw [← hW]; exact (Blk.new _ _ _).alloc _
  have B1 : Blk W (w.heap.size + 1) 27 #[.int .i64 0, .int .i64 0, .int .i64 0] := by
    rw [← hW]
    have := Blk.new (w.alloc (.cells #[.int .i64 x, .int .i64 y, .int .i64 z] 27)) #[.int .i64 0, .int .i64 0, .int .i64 0] 27
    rwa [World.size_alloc] at this
  go_enter Tryz.func15, Tryz.ntmps15
  go_wp2_with fail
  refine (near_c x y z _ _ _).mono ?_
  rintro e w1 ⟨rfl, E1⟩
  go_wp2_with fail
  refine (isTurn1_c w1 n _).mono ?_
  rintro e w2 ⟨rfl, rfl⟩
  have B02 := (B0.ext E1).alloc (.cells #[.int .i64 n] 3)
  have B12 := (B1.ext E1).alloc (.cells #[.int .i64 n] 3)
  have E2 := (E.trans E1).alloc (.cells #[.int .i64 n] 3)
  have c2 := B02.cell
  obtain ⟨w2, hw2⟩ : ∃ w2, w1.alloc (.cells #[.int .i64 n] 3) = w2 := ⟨_, rfl⟩
  rw [hw2] at B02 B12 E2 c2
  go_wp2_with fail
  refine (turn_c x y z n _ hn hok).mono ?_
  rintro e w3 ⟨rfl, E3⟩
  have B13 := B12.ext E3
  have c3 := B13.cell
  have f3 := B13.frozen
  obtain ⟨q, hq⟩ : ∃ q, turnS ⟨x, y, z⟩ n = q := ⟨_, rfl⟩
  rw [hq]
  have Hq := Lib.hid hq
  clear hq
  go_wp2_with fail
  refine bodyPost_ret (v := .tuple #[.agg #[.int .i64 q.x, .int .i64 q.y, .int .i64 q.z], .int .i64 0]) (by simp [results, Tryz.results15, go_sem, c3]) rfl ⟨by rw [Hq.out], ?_⟩
  exact (((E2.trans E3).setCell (Nat.le_succ _) _).setCell (Nat.le_succ _) _).setCell (Nat.le_succ _) _

set_option maxHeartbeats 800000 in
theorem Turn_bad (x y z n : Int) (w : World) (hb : ¬ turnOk ⟨x, y, z⟩ n) :
    Calls Tryz.prog 15 #[.agg #[.int .i64 x, .int .i64 y, .int .i64 z], .int .i64 n] w fun e w' =>
      e = .returned (.tuple #[.agg #[.int .i64 0, .int .i64 0, .int .i64 0], .int .i64 2]) ∧ Ext w w' := by
  obtain ⟨W, hW, E, ba, bb, hz⟩ := boxes2 w #[.int .i64 x, .int .i64 y, .int .i64 z] #[.int .i64 0, .int .i64 0, .int .i64 0] 27 27
  have B1 : Blk W (w.heap.size + 1) 27 #[.int .i64 0, .int .i64 0, .int .i64 0] := by
    rw [← hW]
    have := Blk.new (w.alloc (.cells #[.int .i64 x, .int .i64 y, .int .i64 z] 27)) #[.int .i64 0, .int .i64 0, .int .i64 0] 27
    rwa [World.size_alloc] at this
  cases hp : nearB ⟨x, y, z⟩ (-2000) 2000
  · clear hb
    go_enter Tryz.func15, Tryz.ntmps15
    go_wp2_with fail
    refine (near_c x y z _ _ _).mono ?_
    rintro e w1 ⟨rfl, E1⟩
    have B12 := B1.ext E1
    have c3 := B12.cell
    have f3 := B12.frozen
    go_wp2_with fail
    refine bodyPost_ret (v := .tuple #[.agg #[.int .i64 0, .int .i64 0, .int .i64 0], .int .i64 2]) (by simp [results, Tryz.results15, go_sem, c3]) rfl ⟨rfl, ?_⟩
    exact (((E.trans E1).setCell (Nat.le_succ _) _).setCell (Nat.le_succ _) _).setCell (Nat.le_succ _) _
  · have hi : inB 0 23 n = false := inB_not.2 (fun h => hb ⟨hp, h.1, by omega⟩)
    clear hb
    go_enter Tryz.func15, Tryz.ntmps15
    go_wp2_with fail
    refine (near_c x y z _ _ _).mono ?_
    rintro e w1 ⟨rfl, E1⟩
    go_wp2_with fail
    refine (isTurn1_c w1 n _).mono ?_
    rintro e w2 ⟨rfl, rfl⟩
    have B12 := (B1.ext E1).alloc (.cells #[.int .i64 n] 3)
    have E2 := (E.trans E1).alloc (.cells #[.int .i64 n] 3)
    obtain ⟨w2, hw2⟩ : ∃ w2, w1.alloc (.cells #[.int .i64 n] 3) = w2 := ⟨_, rfl⟩
    rw [hw2] at B12 E2
    have c3 := B12.cell
    have f3 := B12.frozen
    go_wp2_with fail
    refine bodyPost_ret (v := .tuple #[.agg #[.int .i64 0, .int .i64 0, .int .i64 0], .int .i64 2]) (by simp [results, Tryz.results15, go_sem, c3]) rfl ⟨rfl, ?_⟩
    exact ((E2.setCell (Nat.le_succ _) _).setCell (Nat.le_succ _) _).setCell (Nat.le_succ _) _

/-- Where a turn takes a direction. -/
def dirT (d n : Nat) : Nat := ((List.range 6).find? fun i => (stepS i).eqB (turnS (stepS d) n)).getD 0
theorem dirT_all : ∀ d, d < 6 → ∀ n, n < 24 → (dirT d n < 6 ∧ Pt.eqB (stepS (dirT d n)) (turnS (stepS d) n) = true) := by decide +kernel
theorem dirT_lt {d n : Nat} (hd : d < 6) (hn : n < 24) : dirT d n < 6 := (dirT_all d hd n hn).1
theorem dirT_eq {d n : Nat} (hd : d < 6) (hn : n < 24) : turnS (stepS d) n = stepS (dirT d n) := (Pt.eqB_iff.1 (dirT_all d hd n hn).2).symm

set_option maxHeartbeats 800000 in
theorem Direction_ok (d n : Nat) (w : World) (hd : d < 6) (hn : n < 24) :
    Calls Tryz.prog 13 #[.int .i64 d, .int .i64 n] w fun e w' => e = .returned (.tuple #[.int .i64 (dirT d n), .int .i64 0]) ∧ Ext w w' := by
  have hi : inB 0 23 (n : Int) = true := inB_iff.2 (by omega)
  have hlt := dirT_lt hd hn
  have He := Lib.hid (dirT_eq hd hn)
  go_enter Tryz.func13, Tryz.ntmps13
  go_wp2_with fail
  refine (isTurn1_c w n _).mono ?_
  rintro e w2 ⟨rfl, rfl⟩
  go_wp2_with fail
  refine (step_c d hd _).mono ?_
  rintro e w1 ⟨rfl, E1⟩
  go_wp2_with fail
  refine (turn_c (stepS d).x (stepS d).y (stepS d).z n _ hn (stepS_ok d)).mono ?_
  rintro e w3 ⟨rfl, E3⟩
  rw [show turnS ⟨(stepS d).x, (stepS d).y, (stepS d).z⟩ n = stepS (dirT d n) from He.out]
  go_wp2_with fail
  refine (direction_c _ hlt _).mono ?_
  rintro e w4 ⟨rfl, E4⟩
  go_wp2_with fail
  go_ret2
  exact ⟨rfl, ((((Ext.refl w).alloc _).trans E1).trans E3).trans E4⟩

set_option maxHeartbeats 800000 in
theorem Direction_bad (d n : Int) (w : World) (hb : ¬ ((0 ≤ d ∧ d ≤ 5) ∧ 0 ≤ n ∧ n < 24)) :
    Calls Tryz.prog 13 #[.int .i64 d, .int .i64 n] w fun e w' => e = .returned (.tuple #[.int .i64 0, .int .i64 2]) ∧ Ext w w' := by
  by_cases h1 : d < 0
  · clear hb
    go_enter Tryz.func13, Tryz.ntmps13
    go_wp2_with fail
    go_ret2
    exact ⟨rfl, Ext.refl _⟩
  · by_cases h2 : 5 < d
    · clear hb
      go_enter Tryz.func13, Tryz.ntmps13
      go_wp2_with fail
      go_ret2
      exact ⟨rfl, Ext.refl _⟩
    · have hi : inB 0 23 n = false := inB_not.2 (fun h => hb ⟨⟨by omega, by omega⟩, by omega, by omega⟩)
      clear hb
      go_enter Tryz.func13, Tryz.ntmps13
      go_wp2_with fail
      refine (isTurn1_c w n _).mono ?_
      rintro e w2 ⟨rfl, rfl⟩
      go_wp2_with fail
      go_ret2
      exact ⟨rfl, by apply_rules [Ext.refl, Ext.alloc]⟩
end Go.Proofs.YtjacbhomhjoolaaGreat
namespace Go.Proofs.YtjacbhomhjoolaaGreat
open Go.RowKit

set_option maxHeartbeats 1600000 in
theorem pointed_c (d n : Nat) (hd : d < 6) (hn : n < 24) (w : World) :
    Calls Tryz.prog 180 #[.int .i64 d, .int .i64 n] w fun e w' => e = .returned (.int .i64 (dirT d n)) ∧ Ext w w' := by
  have hlt := dirT_lt hd hn
  have He := Lib.hid (dirT_eq hd hn)
  go_enter Tryz.func180, Tryz.ntmps180
  go_wp2_with fail
  refine (rstep_c d hd _).mono ?_
  rintro e w1 ⟨rfl, E1⟩
  go_wp2_with fail
  refine (turned_c (stepS d).x (stepS d).y (stepS d).z n _ hn (stepS_ok d)).mono ?_
  rintro e w2 ⟨rfl, E2⟩
  rw [show turnS ⟨(stepS d).x, (stepS d).y, (stepS d).z⟩ n = stepS (dirT d n) from He.out]
  obtain ⟨g, hg⟩ : ∃ g, dirT d n = g := ⟨_, rfl⟩
  have Hg := Lib.hid hg
  rw [hg] at hlt ⊢
  clear hg
  obtain ⟨W, hW, E, ba, hz⟩ := boxes1 w2 #[.int .i64 (stepS g).x, .int .i64 (stepS g).y, .int .i64 (stepS g).z] 27
  have B : Blk W w2.heap.size 27 #[.int .i64 (stepS g).x, .int .i64 (stepS g).y, .int .i64 (stepS g).z] := by rw [← hW]; exact Blk.new _ _ _
  go_wp2_with fail
  go_loopw [6] (fun i wr => ∃ k : Nat, k ≤ g ∧ i = .int .i64 k ∧ Ext W wr) (fun i _ => 6 - (intOf i).toNat)
  case atStart => exact ⟨0, by omega, rfl, Ext.refl _⟩
  case round =>
    obtain ⟨k, hk, rfl, E3⟩ := hrel
    have c := (B.ext E3).cell
    have hq : ∀ w, (binOp .eql 27 (.agg #[.int .i64 (stepS k).x, .int .i64 (stepS k).y, .int .i64 (stepS k).z]) (.agg #[.int .i64 (stepS g).x, .int .i64 (stepS g).y, .int .i64 (stepS g).z])).run Tryz.prog w = .ok (.bool (decide (k = g))) w := fun w => by
      rw [pt_eql]
      have : Pt.eqB (stepS k) (stepS g) = decide (k = g) := by
        by_cases h : k = g
        · subst h
          simp [Pt.eqB]
        · simp only [h, decide_false]
          rw [Bool.eq_false_iff]
          intro h'
          exact h (stepS_inj (by omega) hlt (Pt.eqB_iff.1 h'))
      exact congrArg (fun b => Result.ok (Value.bool b) w) this
    by_cases hkd : k = g
    · have hkd' : decide (k = g) = true := by simp [hkd]
      simp only [hkd'] at hq
      clear hkd'
      have Hkd := Lib.hid hkd
      clear hkd
      go_wp2
      refine wp_region_grow (by kernel_rfl) (by kernel_rfl) ?_
      repeat (go_big_quiet_step ((go_at_call 181; exact quiet_ext (rstep_c k (by omega) _))))
      refine wpQuiet_nil ?_
      intro W2 hW2
      have E4 : Ext wr W2 := by
        obtain ⟨x, rfl⟩ := hW2
        exact (Ext.refl _).grow x
      clear hW2
      go_wp2
      go_ret
      exact ⟨by rw [Hg.out, Hkd.out]; rfl, ((((E1.trans E2).trans E).trans E3).trans E4)⟩
    · have hkd' : decide (k = g) = false := by simp [hkd]
      simp only [hkd'] at hq
      clear hkd'
      go_wp2
      refine wp_region_grow (by kernel_rfl) (by kernel_rfl) ?_
      repeat (go_big_quiet_step ((go_at_call 181; exact quiet_ext (rstep_c k (by omega) _))))
      refine wpQuiet_nil ?_
      intro W2 hW2
      have E4 : Ext wr W2 := by
        obtain ⟨x, rfl⟩ := hW2
        exact (Ext.refl _).grow x
      clear hW2
      go_wp2
      go_roundw
      case rel => exact ⟨k + 1, by omega, by go_num, E3.trans E4⟩
      case measure => simp [intOf]; omega

/-- n does what a and then b do, to two cells. -/
def compB (a b n : Nat) : Bool := Pt.eqB (turnS ⟨1, 0, 0⟩ n) (turnS (turnS ⟨1, 0, 0⟩ a) b) && Pt.eqB (turnS ⟨0, 1, 0⟩ n) (turnS (turnS ⟨0, 1, 0⟩ a) b)
/-- The turn that does what a and then b do. -/
def compT (a b : Nat) : Nat := ((List.range 24).find? (compB a b)).getD 0
theorem find_at (f : Nat → Bool) (N k : Nat) (hk : k < N) (h : ∀ j, j < k → f j = false) (hf : f k = true) : (List.range N).find? f = some k := by
  rw [List.find?_range_eq_some]
  exact ⟨hf, List.mem_range.2 hk, fun j hj => by rw [h j hj]; rfl⟩
theorem find_no (f : Nat → Bool) (N : Nat) (h : ∀ j, j < N → f j = false) : (List.range N).find? f = none := by
  rw [List.find?_range_eq_none]
  intro i hi
  rw [h i hi]
  rfl

end Go.Proofs.YtjacbhomhjoolaaGreat
namespace Go.Proofs.YtjacbhomhjoolaaGreat
open Go.RowKit

/-- The turn that undoes a. -/
def invT (a : Nat) : Nat := ((List.range 24).find? fun n => compT a n == 0).getD 0

end Go.Proofs.YtjacbhomhjoolaaGreat
namespace Go.Proofs.YtjacbhomhjoolaaGreat
open Go.RowKit Go.Shelf
attribute [local go_sem] Oper.semAt_some

theorem ext_grownBy {A B : World} (h : Ext A B) (row : Option Nat) : A.grownBy B row := ⟨h.1, h.2, h.3, h.size, fun k hk _ => h.block k hk⟩
theorem ext_keeps {A B : World} (h : Ext A B) : KeepsOthers A B := ⟨h.size, fun k _ hk _ => (h.block k (Array.getElem?_eq_some_iff.1 hk).1).trans hk⟩

/-- What a turn makes of (1, 2, 3). -/
def p123 : Pt := ⟨1, 2, 3⟩
theorem p123_ok : p123.ok := by
  unfold p123 Pt.ok CB
  simp
def at123 (n : Nat) : Value := .agg #[.int .i64 (turnS p123 n).x, .int .i64 (turnS p123 n).y, .int .i64 (turnS p123 n).z]
abbrev encW (x : Fin 24) : Array Value := #[.int .i64 (x.val : Int), at123 x.val]
/-- The first k of the turns. -/
def upto (k : Nat) : List (Fin 24) := (List.finRange 24).take k
theorem upto_succ {k : Nat} (h : k < 24) : upto (k + 1) = upto k ++ [⟨k, h⟩] := by
  unfold upto
  rw [List.take_add_one]
  simp [h]
theorem upto_len {k : Nat} (h : k ≤ 24) : (upto k).length = k := by
  simp [upto]
  omega

set_option maxRecDepth 100000 in
set_option maxHeartbeats 2000000 in
theorem which1_in (n : Nat) (hn : 1 ≤ n) (l : Nat) (J Jx : List (Fin 24) → World → Prop)
    (hJ : ∀ s A B, J s A → Ext A B → J s B) (Kp : World → World → Prop)
    (hY : ∀ pre x W, J pre W → pre.length < 24 → YieldAt Fence.wide (n - 1) Tryz.prog l (encW x) W fun e W' =>
      (e = .returned (.bool true) ∧ J (pre ++ [x]) W' ∧ Kp W W') ∨ (e = .returned (.bool false) ∧ Jx (pre ++ [x]) W'))
    (W : World) (h0 : J [] W) :
    CallsIn Fence.wide n Tryz.prog 82 #[.func (.yield l) #[] #[]] W fun e W' => (∃ v, e = .returned v) ∧
      ((∃ ys, ys = upto 24 ∧ J ys W') ∨ (∃ pre, pre <+: upto 24 ∧ Jx pre W')) := by
  refine callsIn_of_wp Tryz.func82 rfl trivial ?_ rfl
  simp only [Tryz.ntmps82, List.size_toArray, List.length_cons, List.length_nil, Nat.reduceAdd, Nat.reduceSub, Array.replicate_succ, Array.replicate_zero, List.push_toArray, List.append_toArray, List.nil_append, List.cons_append]
  gi_wp2
  gi_loopw [3] (fun i wr => ∃ k : Nat, k ≤ 24 ∧ i = .int .i64 k ∧ J (upto k) wr) (fun i _ => 24 - (intOf i).toNat)
  case atStart => exact ⟨0, by omega, rfl, h0⟩
  case round =>
    obtain ⟨k, hk, rfl, hJs⟩ := hrel
    by_cases h : k < 24
    · have hl : (upto k).length < 24 := by rw [upto_len (by omega)]; exact h
      have hi : (k : Int) < 24 := by omega
      have hY' := fun w1 (E : Ext wr w1) => hY (upto k) ⟨k, h⟩ w1 (hJ _ _ _ hJs E) hl
      clear hY
      gi_wp2_with (refine ⟨trivial, ?_⟩; gi_at_call 45; refine (callsIn_wide.2 (turn_c 1 2 3 k _ h p123_ok)).mono ?_; rintro e w1 ⟨rfl, E1⟩; obtain ⟨fn, tmps, assign, body, hy, hR⟩ := hY' w1 E1; dsimp only [encW, at123, p123] at hy)
      refine hR.mono ?_
      rintro e W3 (⟨rfl, hJ3, -⟩ | ⟨rfl, hJx3⟩)
      · gi_wp2
        go_roundw
        case rel => exact ⟨k + 1, by omega, rfl, by rw [upto_succ h]; exact hJ3⟩
        case measure => rw [intOf, intOf]; omega
      · gi_wp2
        refine bodyPost_ret (results_none rfl _ _ _) rfl ?_
        refine ⟨⟨_, rfl⟩, .inr ⟨_, ?_, hJx3⟩⟩
        rw [← upto_succ h]
        exact List.take_prefix_take_left (by omega)
    · obtain rfl : k = 24 := by omega
      gi_wp2
      go_end0
      exact ⟨⟨_, rfl⟩, .inl ⟨_, rfl, hJs⟩⟩

theorem which_stops (n : Nat) (hn : 1 ≤ n) (Kp : World → World → Prop) (w : World) :
    SeqStopsK Fence.wide n Tryz.prog 82 #[] encW Kp (fun ys => ys = upto 24) (fun pre => pre <+: upto 24) 24 w := fun l J Jx W _ hJ _ hY h0 =>
  which1_in n hn l J Jx (fun s A B hs hE => hJ s A B none hs (ext_grownBy hE none) (fun r e => by cases e)) Kp hY W h0

theorem which_c (w : World) : Calls Tryz.prog 54 #[] w fun e w' => e = .returned (.func (.func 82) #[] #[]) ∧ w' = w := by
  go_enter Tryz.func54, Tryz.ntmps54
  go_wp2
  go_ret
  exact ⟨rfl, rfl⟩
end Go.Proofs.YtjacbhomhjoolaaGreat
namespace Go.Proofs.YtjacbhomhjoolaaGreat
open Go.RowKit Go.Shelf
attribute [local go_sem] Oper.semAt_some

deriving instance DecidableEq for Pt
theorem turn123_inj : ∀ a, a < 24 → ∀ b, b < 24 → turnS p123 a = turnS p123 b → a = b := by decide +kernel
theorem compT_spec : ∀ a, a < 24 → ∀ b, b < 24 → turnS p123 (compT a b) = turnS (turnS p123 a) b ∧ compT a b < 24 := by decide +kernel
theorem invT_spec : ∀ a, a < 24 → turnS (turnS p123 (invT a)) a = p123 ∧ invT a < 24 := by decide +kernel
theorem inv123_inj : ∀ a, a < 24 → ∀ b, b < 24 → turnS (turnS p123 b) a = p123 → b = invT a := by decide +kernel

theorem blk_own {β : Type} (g : Nat) (t : TypeId) (cs : Array Value) : Own (fun (_ : β) W => Blk W g t cs) := fun s X Y row h hg hr => h.grown hg (fun e => by
  obtain ⟨o, ho, hc⟩ := hr g e.symm
  rw [show X.heap[g]? = _ from h] at ho
  cases ho
  cases hc)
theorem mem_upto (x : Fin 24) : x ∈ upto 24 := by
  unfold upto
  rw [List.take_of_length_le (by simp)]
  exact List.mem_finRange x
theorem ok_at123 {n : Nat} : (turnS p123 n).ok := turnS_ok p123_ok n

set_option maxRecDepth 100000 in
set_option maxHeartbeats 2000000 in
theorem compose_c (a b : Nat) (ha : a < 24) (hb : b < 24) (w : World) :
    Calls Tryz.prog 46 #[.int .i64 a, .int .i64 b] w fun e w' => e = .returned (.int .i64 (compT a b)) ∧ Ext w w' := by
  refine (callsIn_wide (n := 5)).1 ?_
  refine callsIn_of_wp_marks Tryz.func46 rfl trivial ?_ rfl
  simp only [Tryz.ntmps46, List.size_toArray, List.length_cons, List.length_nil, Nat.reduceAdd, Nat.reduceSub, Array.replicate_succ, Array.replicate_zero, List.push_toArray, List.append_toArray, List.nil_append, List.cons_append]
  have hok := @ok_at123 a
  have Hs := Lib.hid (compT_spec a ha b hb)
  gi_wp2_with fail
  refine ⟨trivial, ?_⟩
  gi_at_call 45
  refine (callsIn_wide.2 (turn_c 1 2 3 a _ ha p123_ok)).mono ?_
  rintro e w1 ⟨rfl, E1⟩
  obtain ⟨q, hq⟩ : ∃ q, turnS ⟨1, 2, 3⟩ a = q := ⟨_, rfl⟩
  rw [show turnS p123 a = q from hq] at hok
  have Hq := Lib.hid hq
  rw [hq]
  clear hq
  gi_wp2_with fail
  refine ⟨trivial, ?_⟩
  gi_at_call 45
  refine (callsIn_wide.2 (turn_c q.x q.y q.z b _ hb hok)).mono ?_
  rintro e w2 ⟨rfl, E2⟩
  obtain ⟨r, hr⟩ : ∃ r, turnS ⟨q.x, q.y, q.z⟩ b = r := ⟨_, rfl⟩
  have Hr := Lib.hid hr
  rw [hr]
  clear hr
  gi_wp2_with (refine ⟨trivial, ?_⟩; gi_at_call 54; refine (callsIn_wide.2 (which_c _)).mono ?_; rintro e w3 ⟨rfl, rfl⟩)
  have hsz2 := E2.size
  have hsz1 := E1.size
  rw [World.size_alloc] at hsz1
  have B4 := ((((Blk.new w #[.int .i64 0] 3).ext E1).ext E2).alloc (.cells #[.int .i64 r.x, .int .i64 r.y, .int .i64 r.z] 27))
  have B5 := Blk.new w2 #[.int .i64 r.x, .int .i64 r.y, .int .i64 r.z] 27
  have hE0 : Ext w (w2.alloc (.cells #[.int .i64 r.x, .int .i64 r.y, .int .i64 r.z] 27)) := (((((Ext.refl w).alloc _).trans E1).trans E2).alloc _)
  have hsz : (w2.alloc (.cells #[.int .i64 r.x, .int .i64 r.y, .int .i64 r.z] 27)).heap.size = w2.heap.size + 1 := by simp
  obtain ⟨W0, hW0⟩ : ∃ W0, w2.alloc (.cells #[.int .i64 r.x, .int .i64 r.y, .int .i64 r.z] 27) = W0 := ⟨_, rfl⟩
  rw [hW0] at B4 B5 hE0 hsz ⊢
  clear hW0
  refine wpIn_rangeFunc_ownH rfl (by omega) (gf := 82) (lb := #[]) rfl trivial (enters_of Tryz.func82 (by kernel_rfl) rfl)
    (which_stops _ (by omega) (fun _ _ => True) W0) (fun _ _ => trivial) (fun _ _ _ _ _ _ _ _ => trivial) (Below.refl _ _) (fun _ => rfl)
    (fun pre W => ((Blk W w.heap.size 3 #[.int .i64 0] ∧ Blk W w2.heap.size 27 #[.int .i64 r.x, .int .i64 r.y, .int .i64 r.z]) ∧ Ext w W) ∧ ∀ y ∈ pre, turnS p123 y.val ≠ r)
    (fun c _ W => (∃ x : Fin 24, Blk W w.heap.size 3 #[.int .i64 (x.val : Int)] ∧ turnS p123 x.val = r ∧ c = .ret) ∧ Ext w W)
    (OwnFrom.and (OwnFrom.and (OwnFrom.and (Own.from (blk_own _ _ _) _) (Own.from (blk_own _ _ _) _)) (ownFrom_below (Nat.le_refl _) (by omega))) (ownFrom_pure _ _))
    (fun c => OwnFrom.and (fun s X Y row hs hg hr => by
      obtain ⟨x, h, h'⟩ := hs
      exact ⟨x, blk_own _ _ _ () X Y row h hg (fun r e => (hr r e).2), h'⟩) (ownFrom_below (Nat.le_refl _) (by omega)))
    ⟨⟨⟨B4, B5⟩, hE0⟩, fun _ h => by cases h⟩
    (fun x a' W => ∃ g, W0.heap.size ≤ g ∧ Blk W g 27 #[.int .i64 (turnS p123 x.val).x, .int .i64 (turnS p123 x.val).y, .int .i64 (turnS p123 x.val).z] ∧
      a' = { tmps := #[.int .i64 a, .int .i64 b, undef, undef, .pointer (some ⟨w.heap.size, 0, none⟩), .pointer (some ⟨w2.heap.size, 0, none⟩), .int .i64 (x.val : Int), .pointer (some ⟨g, 0, none⟩), .agg #[.int .i64 1, .int .i64 2, .int .i64 3], .int .i64 a, .agg #[.int .i64 q.x, .int .i64 q.y, .int .i64 q.z], .int .i64 b, .agg #[.int .i64 r.x, .int .i64 r.y, .int .i64 r.z], .func (.func 82) #[] #[], .int .i64 (x.val : Int), at123 x.val, undef, undef, undef, undef], defers := [] })
    (fun x a' _ X Y row hs hg hr => by
      obtain ⟨g, h1, h2, h3⟩ := hs
      exact ⟨g, h1, blk_own _ _ _ () X Y row h2 hg (fun r e => (hr r e).2), h3⟩)
    ?assign ?body ?done ?stop
  case assign =>
    rintro l pre x W K ⟨⟨⟨C4, C5⟩, hE⟩, hne⟩ hK
    have h5 := hE.size
    have h4 := C5.lt
    dsimp only [encW, at123]
    gi_wp2
    exact hK _ _ ((KeepsOthers.alloc _ _).from _) trivial ⟨⟨⟨C4.alloc _, C5.alloc _⟩, hE.alloc _⟩, hne⟩ ⟨W.heap.size, by omega, Blk.new _ _ _, rfl⟩
  case body =>
    rintro l pre x a' W hl - ⟨⟨⟨C4, C5⟩, hE⟩, hne⟩ ⟨g, hg, C7, rfl⟩ -
    have Hne := Lib.hid hne
    clear hne
    obtain ⟨p, hp⟩ : ∃ p, turnS p123 x.val = p := ⟨_, rfl⟩
    have Hp := Lib.hid hp
    rw [hp] at C7
    have hat : at123 x.val = .agg #[.int .i64 p.x, .int .i64 p.y, .int .i64 p.z] := by rw [← hp]; rfl
    rw [hat]
    clear hat hp
    have c4 := C4.cell
    have f4 := C4.frozen
    have c5 := C5.cell
    have c7 := C7.cell
    have hq : ∀ w, (binOp .eql 27 (.agg #[.int .i64 p.x, .int .i64 p.y, .int .i64 p.z]) (.agg #[.int .i64 r.x, .int .i64 r.y, .int .i64 r.z])).run Tryz.prog w = .ok (.bool (Pt.eqB p r)) w := fun w => pt_eql _ _ _ _ _ _ _
    by_cases h : Pt.eqB p r = true
    · rw [h] at hq
      gi_wp2
      exact ⟨(KeepsOthers.setCell _ _ _).from _, ⟨x, C4.set_ 0 _, Hp.out.trans (Pt.eqB_iff.1 h), rfl⟩, hE.setCell (Nat.le_refl _) _⟩
    · have h' : Pt.eqB p r = false := by simpa using h
      rw [h'] at hq
      gi_wp2
      refine ⟨KeepsFrom.refl _ _, trivial, ⟨⟨C4, C5⟩, hE⟩, fun y hy => ?_⟩
      rcases List.mem_append.1 hy with hy | hy
      · exact Hne.out y hy
      · obtain rfl : y = x := by simpa using hy
        rw [Hp.out]
        exact fun e => h (Pt.eqB_iff.2 e)
  case done =>
    rintro D ys W hD rfl ⟨-, hne⟩ hK
    obtain ⟨h1, h2⟩ := Hs.out
    refine absurd ?_ (hne ⟨compT a b, h2⟩ (mem_upto _))
    rw [h1, show turnS p123 a = q from Hq.out]
    exact Hr.out
  case stop =>
    rintro D c pre W hD hpre ⟨⟨x, C4, hx, rfl⟩, hE⟩ hK
    gi_wp2
    refine ⟨by simp, .inl ⟨_, _, rfl, run_takeDeferred hK, ?_⟩⟩
    have C4' : Blk (W.putObj D (.deferred none)) w.heap.size 3 #[.int .i64 (x.val : Int)] := C4.grown (grownBy_putObj' W D _) (fun e => by cases e; rw [show W.heap[w.heap.size]? = _ from C4] at hK; cases hK)
    have c4 := C4'.cell
    refine ⟨.int .i64 (x.val : Int), by simp [results, Tryz.results46, go_sem, c4], ?_, Below.trans hE (belowK_b (w := w) (Nat.le_refl _) W D _ _ (by omega) hK rfl rfl)⟩
    obtain ⟨h1, h2⟩ := Hs.out
    rw [turn123_inj x.val x.isLt _ h2 (by rw [hx, h1, show turnS p123 a = q from Hq.out]; exact Hr.out.symm)]
end Go.Proofs.YtjacbhomhjoolaaGreat
namespace Go.Proofs.YtjacbhomhjoolaaGreat
open Go.RowKit Go.Shelf
attribute [local go_sem] Oper.semAt_some

theorem ints2 (w : World) (m n : Int) (t : TypeId) : SliceIs (w.alloc (.cells #[.int .i64 m, .int .i64 n] t)) (some ⟨w.heap.size, 0, none⟩) 2 2 1 ([m, n].map fun n => [.int .i64 n]) := by
  refine ⟨rfl, Nat.le_refl _, by unfold maxLen; omega, by simp, fun _ => ⟨_, 0, rfl, by simp, fun i r hr j u hu => ?_⟩⟩
  have hi : i = 0 ∨ i = 1 := by
    rcases Nat.lt_or_ge i 2 with h | h
    · omega
    · rw [List.getElem?_eq_none (by simp; omega)] at hr; cases hr
  rcases hi with rfl | rfl <;>
  · simp at hr
    subst hr
    have hj : j = 0 := by
      rcases Nat.eq_zero_or_pos j with h | h
      · exact h
      · rw [List.getElem?_eq_none (by simp; omega)] at hu; cases hu
    subst hj
    simp at hu
    subst hu
    rw [cell_new]
    rfl
theorem isTurn2_c (w : World) (m n : Int) (t : TypeId) :
    Calls Tryz.prog 42 #[.slice (some ⟨w.heap.size, 0, none⟩) 2 2] (w.alloc (.cells #[.int .i64 m, .int .i64 n] t)) fun e w' => e = .returned (.bool (inB 0 23 m && inB 0 23 n)) ∧ w.alloc (.cells #[.int .i64 m, .int .i64 n] t) = w' :=
  (isTurn_c _ 2 [m, n] _ (ints2 w m n t)).mono fun e w' ⟨he, hw⟩ => ⟨by rw [he]; simp [allTurn], hw⟩

set_option maxHeartbeats 400000 in
theorem Compose_ok (a b : Nat) (ha : a < 24) (hb : b < 24) (w : World) :
    Calls Tryz.prog 21 #[.int .i64 a, .int .i64 b] w fun e w' => e = .returned (.tuple #[.int .i64 (compT a b), .int .i64 0]) ∧ Ext w w' := by
  have hi : (inB 0 23 (a : Int) && inB 0 23 (b : Int)) = true := by rw [inB_iff.2 (by omega), inB_iff.2 (by omega)]; rfl
  go_enter Tryz.func21, Tryz.ntmps21
  go_wp2_with fail
  refine (isTurn2_c w a b _).mono ?_
  rintro e w2 ⟨rfl, rfl⟩
  go_wp2_with fail
  refine (compose_c a b ha hb _).mono ?_
  rintro e w1 ⟨rfl, E1⟩
  go_wp2_with fail
  go_ret2
  exact ⟨rfl, ((Ext.refl w).alloc _).trans E1⟩
set_option maxHeartbeats 400000 in
theorem Compose_bad (a b : Int) (hb : ¬ ((0 ≤ a ∧ a < 24) ∧ 0 ≤ b ∧ b < 24)) (w : World) :
    Calls Tryz.prog 21 #[.int .i64 a, .int .i64 b] w fun e w' => e = .returned (.tuple #[.int .i64 0, .int .i64 2]) ∧ Ext w w' := by
  have hi : (inB 0 23 (a : Int) && inB 0 23 (b : Int)) = false := by
    cases ha : inB 0 23 a
    · rfl
    · exact inB_not.2 (fun h => hb ⟨by have := inB_iff.1 ha; omega, by omega⟩)
  clear hb
  go_enter Tryz.func21, Tryz.ntmps21
  go_wp2_with fail
  refine (isTurn2_c w a b _).mono ?_
  rintro e w2 ⟨rfl, rfl⟩
  go_wp2_with fail
  go_ret2
  exact ⟨rfl, (Ext.refl w).alloc _⟩
theorem blocks3 (w : World) (a b c : Array Value) (t u v : TypeId) : ∃ W, ((w.alloc (.cells a t)).alloc (.cells b u)).alloc (.cells c v) = W ∧ W.heap.size = w.heap.size + 1 + 1 + 1 ∧
    Blk W w.heap.size t a ∧ Blk W (w.heap.size + 1) u b ∧ Blk W (w.heap.size + 1 + 1) v c ∧ Ext w W := by
  refine ⟨_, rfl, by simp, ((Blk.new _ _ _).alloc _).alloc _, ?_, ?_, (((Ext.refl w).alloc _).alloc _).alloc _⟩
  · have := (Blk.new (w.alloc (.cells a t)) b u).alloc (.cells c v)
    rwa [World.size_alloc] at this
  · have := Blk.new ((w.alloc (.cells a t)).alloc (.cells b u)) c v
    rwa [World.size_alloc, World.size_alloc] at this
theorem kept2 {V w : World} {g h : Nat} {t u : TypeId} {a b c d : Value} (hg : Blk V g t #[a]) (hh : Blk V h u #[b]) (hne : g ≠ h) (hE : Ext w V) (h1 : w.heap.size ≤ g) (h2 : w.heap.size ≤ h) :
    ∃ V', (V.setCell ⟨g, 0, none⟩ c).setCell ⟨h, 0, none⟩ d = V' ∧ Blk V' g t #[c] ∧ Blk V' h u #[d] ∧ Ext w V' ∧ KeepsOthers V V' :=
  ⟨_, rfl, (hg.set_ 0 c).far hne _, (hh.far (fun e => hne e.symm) _).set_ 0 d, (hE.setCell h1 _).setCell h2 _, (KeepsOthers.setCell _ _ _).trans (KeepsOthers.setCell _ _ _)⟩

set_option maxHeartbeats 400000 in
theorem Invert_bad (a : Int) (ha : ¬ (0 ≤ a ∧ a < 24)) (w : World) :
    Calls Tryz.prog 22 #[.int .i64 a] w fun e w' => e = .returned (.tuple #[.int .i64 0, .int .i64 2]) ∧ Ext w w' := by
  have hi : inB 0 23 a = false := inB_not.2 (by omega)
  refine (callsIn_wide (n := 5)).1 ?_
  refine callsIn_of_wp_marks Tryz.func22 rfl trivial ?_ rfl
  simp only [Tryz.ntmps22, List.size_toArray, List.length_cons, List.length_nil, Nat.reduceAdd, Nat.reduceSub, Array.replicate_succ, Array.replicate_zero, List.push_toArray, List.append_toArray, List.nil_append, List.cons_append]
  gi_wp2_with fail
  refine ⟨trivial, ?_⟩
  obtain ⟨W, hW, hz, -, B2, B3, E⟩ := blocks3 w #[.int .i64 a] #[.int .i64 0] #[.int .i64 0] 3 3 30
  rw [hW, ← hz]
  clear hW
  refine (callsIn_wide.2 (isTurn1_c W a _)).mono ?_
  rintro e w2 ⟨rfl, rfl⟩
  obtain ⟨V, hV⟩ : ∃ V, W.alloc (.cells #[.int .i64 a] 3) = V := ⟨_, rfl⟩
  have C2 := B2.alloc (.cells #[.int .i64 a] 3)
  have C3 := B3.alloc (.cells #[.int .i64 a] 3)
  have E' := E.alloc (.cells #[.int .i64 a] 3)
  rw [hV] at C2 C3 E' ⊢
  clear hV
  have c2 := C2.cell
  have f2 := C2.frozen
  have c3 := C3.cell
  have f3 := C3.frozen
  gi_wp2_with fail
  obtain ⟨V', hV', D2, D3, F, -⟩ := kept2 (c := .int .i64 0) (d := .int .i64 2) C2 C3 (by omega) E' (by omega) (by omega)
  rw [hV']
  clear hV'
  have d2 := D2.cell
  have d3 := D3.cell
  exact ⟨.tuple #[.int .i64 0, .int .i64 2], by simp [results, Tryz.results22, go_sem, d2, d3], rfl, F⟩

set_option maxRecDepth 100000 in
set_option maxHeartbeats 1000000 in
theorem Invert_ok (a : Nat) (ha : a < 24) (w : World) :
    Calls Tryz.prog 22 #[.int .i64 a] w fun e w' => e = .returned (.tuple #[.int .i64 (invT a), .int .i64 0]) ∧ Ext w w' := by
  have hi : inB 0 23 (a : Int) = true := inB_iff.2 (by omega)
  have Hs := Lib.hid (invT_spec a ha)
  refine (callsIn_wide (n := 5)).1 ?_
  refine callsIn_of_wp_marks Tryz.func22 rfl trivial ?_ rfl
  simp only [Tryz.ntmps22, List.size_toArray, List.length_cons, List.length_nil, Nat.reduceAdd, Nat.reduceSub, Array.replicate_succ, Array.replicate_zero, List.push_toArray, List.append_toArray, List.nil_append, List.cons_append]
  gi_wp2_with fail
  refine ⟨trivial, ?_⟩
  obtain ⟨W, hW, hz, B1, B2, B3, E⟩ := blocks3 w #[.int .i64 a] #[.int .i64 0] #[.int .i64 0] 3 3 30
  rw [hW, ← hz]
  clear hW
  refine (callsIn_wide.2 (isTurn1_c W a _)).mono ?_
  rintro e w2 ⟨rfl, rfl⟩
  obtain ⟨V, hV⟩ : ∃ V, W.alloc (.cells #[.int .i64 a] 3) = V := ⟨_, rfl⟩
  have hzV : V.heap.size = W.heap.size + 1 := by rw [← hV]; simp
  have C1 := B1.alloc (.cells #[.int .i64 a] 3)
  have C2 := B2.alloc (.cells #[.int .i64 a] 3)
  have C3 := B3.alloc (.cells #[.int .i64 a] 3)
  have E' := E.alloc (.cells #[.int .i64 a] 3)
  rw [hV] at C1 C2 C3 E' ⊢
  clear hV B1 B2 B3
  gi_wp2_with (refine ⟨trivial, ?_⟩; gi_at_call 54; refine (callsIn_wide.2 (which_c _)).mono ?_; rintro e w3 ⟨rfl, hw3⟩; subst w3)
  refine wpIn_rangeFunc_ownH rfl (by omega) (gf := 82) (lb := #[]) rfl trivial (enters_of Tryz.func82 (by kernel_rfl) rfl)
    (which_stops _ (by omega) (fun _ _ => True) V) (fun _ _ => trivial) (fun _ _ _ _ _ _ _ _ => trivial) (Below.refl _ _) (fun _ => rfl)
    (fun pre X => (((Blk X w.heap.size 3 #[.int .i64 a] ∧ Blk X (w.heap.size + 1) 3 #[.int .i64 0]) ∧ Blk X (w.heap.size + 1 + 1) 30 #[.int .i64 0]) ∧ Ext w X) ∧ ∀ y ∈ pre, turnS (turnS p123 y.val) a ≠ p123)
    (fun c _ X => (∃ x : Fin 24, (Blk X (w.heap.size + 1) 3 #[.int .i64 (x.val : Int)] ∧ Blk X (w.heap.size + 1 + 1) 30 #[.int .i64 0]) ∧ turnS (turnS p123 x.val) a = p123 ∧ c = .ret) ∧ Ext w X)
    (OwnFrom.and (OwnFrom.and (OwnFrom.and (OwnFrom.and (Own.from (blk_own _ _ _) _) (Own.from (blk_own _ _ _) _)) (Own.from (blk_own _ _ _) _)) (ownFrom_below (Nat.le_refl _) (by omega))) (ownFrom_pure _ _))
    (fun c => OwnFrom.and (fun s X Y row hs hg hr => by
      obtain ⟨x, ⟨h, k⟩, h'⟩ := hs
      exact ⟨x, ⟨blk_own _ _ _ () X Y row h hg (fun r e => (hr r e).2), blk_own _ _ _ () X Y row k hg (fun r e => (hr r e).2)⟩, h'⟩) (ownFrom_below (Nat.le_refl _) (by omega)))
    ⟨⟨⟨⟨C1, C2⟩, C3⟩, E'⟩, fun _ h => by cases h⟩
    (fun x a' X => ∃ g, Blk X g 27 #[.int .i64 (turnS p123 x.val).x, .int .i64 (turnS p123 x.val).y, .int .i64 (turnS p123 x.val).z] ∧
      a' = { tmps := #[.int .i64 a, .pointer (some ⟨w.heap.size, 0, none⟩), .pointer (some ⟨w.heap.size + 1, 0, none⟩), .pointer (some ⟨w.heap.size + 1 + 1, 0, none⟩), .int .i64 (x.val : Int), .pointer (some ⟨g, 0, none⟩), .int .i64 a,
        .slice (some ⟨w.heap.size + 1 + 1 + 1, 0, none⟩) 1 1, .bool true, .bool false, .func (.func 82) #[] #[], .int .i64 (x.val : Int), at123 x.val, undef, undef, undef, undef, undef, undef], defers := [] })
    (fun x a' _ X Y row hs hg hr => by
      obtain ⟨g, h2, h3⟩ := hs
      exact ⟨g, blk_own _ _ _ () X Y row h2 hg (fun r e => (hr r e).2), h3⟩)
    ?assign ?body ?done ?stop
  case assign =>
    rintro l pre x X K ⟨⟨⟨⟨C1, C2⟩, C3⟩, hE⟩, hne⟩ hK
    have h4 := hE.size
    dsimp only [encW, at123]
    gi_wp2
    have h3 := C3.lt
    exact hK _ _ ((KeepsOthers.alloc _ _).from _) trivial ⟨⟨⟨⟨C1.alloc _, C2.alloc _⟩, C3.alloc _⟩, hE.alloc _⟩, hne⟩ ⟨X.heap.size, Blk.new _ _ _, rfl⟩
  case body =>
    rintro l pre x a' X hl - ⟨⟨⟨⟨C1, C2⟩, C3⟩, hE⟩, hne⟩ ⟨g, C5, rfl⟩ -
    have Hne := Lib.hid hne
    clear hne
    obtain ⟨p, hp⟩ : ∃ p, turnS p123 x.val = p := ⟨_, rfl⟩
    have hpo : p.ok := by rw [← hp]; exact ok_at123
    have Hp := Lib.hid hp
    rw [hp] at C5
    have hat : at123 x.val = .agg #[.int .i64 p.x, .int .i64 p.y, .int .i64 p.z] := by rw [← hp]; rfl
    rw [hat]
    clear hat hp
    have c1 := C1.cell
    have c5 := C5.cell
    gi_wp2_with fail
    refine ⟨trivial, ?_⟩
    gi_at_call 45
    refine (CallsIn.inRound l (callsIn_wide.2 (turn_c p.x p.y p.z a _ ha hpo))).mono ?_
    rintro e X2 ⟨rfl, E2⟩
    obtain ⟨r, hr⟩ : ∃ r, turnS ⟨p.x, p.y, p.z⟩ a = r := ⟨_, rfl⟩
    have Hr := Lib.hid hr
    rw [hr]
    clear hr
    have D1 := C1.ext E2
    have D2 := C2.ext E2
    have D3 := C3.ext E2
    have c2 := D2.cell
    have f2 := D2.frozen
    have c3 := D3.cell
    have f3 := D3.frozen
    have hq : ∀ w, (binOp .eql 27 (.agg #[.int .i64 r.x, .int .i64 r.y, .int .i64 r.z]) (.agg #[.int .i64 1, .int .i64 2, .int .i64 3])).run Tryz.prog w = .ok (.bool (Pt.eqB r p123)) w := fun w => pt_eql _ _ _ _ _ _ _
    by_cases h : Pt.eqB r p123 = true
    · rw [h] at hq
      gi_wp2
      obtain ⟨X', hX', F2, F3, F, hk⟩ := kept2 (c := .int .i64 (x.val : Int)) (d := .int .i64 0) D2 D3 (by omega) (hE.trans E2) (by omega) (by omega)
      rw [hX']
      exact ⟨((ext_keeps E2).trans hk).from _, ⟨x, ⟨F2, F3⟩, by rw [Hp.out]; exact Hr.out.trans (Pt.eqB_iff.1 h), rfl⟩, F⟩
    · have h' : Pt.eqB r p123 = false := by simpa using h
      rw [h'] at hq
      gi_wp2
      refine ⟨(ext_keeps E2).from _, trivial, ⟨⟨⟨D1, D2⟩, D3⟩, hE.trans E2⟩, fun y hy => ?_⟩
      rcases List.mem_append.1 hy with hy | hy
      · exact Hne.out y hy
      · obtain rfl : y = x := by simpa using hy
        rw [Hp.out]
        exact fun e => h (Pt.eqB_iff.2 (Hr.out.symm.trans e))
  case done =>
    rintro D ys X hD rfl ⟨-, hne⟩ hK
    obtain ⟨h1, h2⟩ := Hs.out
    exact absurd h1 (hne ⟨invT a, h2⟩ (mem_upto _))
  case stop =>
    rintro D c pre X hD hpre ⟨⟨x, ⟨C2, C3⟩, hx, rfl⟩, hE⟩ hK
    gi_wp2
    refine ⟨by simp, .inl ⟨_, _, rfl, run_takeDeferred hK, ?_⟩⟩
    have C2' : Blk (X.putObj D (.deferred none)) (w.heap.size + 1) 3 #[.int .i64 (x.val : Int)] := C2.grown (grownBy_putObj' X D _) (fun e => by cases e; rw [show X.heap[w.heap.size + 1]? = _ from C2] at hK; cases hK)
    have C3' : Blk (X.putObj D (.deferred none)) (w.heap.size + 1 + 1) 30 #[.int .i64 0] := C3.grown (grownBy_putObj' X D _) (fun e => by cases e; rw [show X.heap[w.heap.size + 1 + 1]? = _ from C3] at hK; cases hK)
    have c2 := C2'.cell
    have c3 := C3'.cell
    refine ⟨.tuple #[.int .i64 (x.val : Int), .int .i64 0], by simp [results, Tryz.results22, go_sem, c2, c3], ?_, Below.trans hE (belowK_b (w := w) (Nat.le_refl _) X D _ _ (by omega) hK rfl rfl)⟩
    rw [inv123_inj a ha x.val x.isLt hx]
end Go.Proofs.YtjacbhomhjoolaaGreat
