/- near, Near, isTurn, IsTurn. step, Step, direction: the six directions. What a world that has only grown keeps, as rules for the walk. cmp.Compare at int and uint8, cmp.Or at int; the order of cells, in the program and in the reference. No conditions. Lists of cells in memory; plus, minus; whether a list has a cell: slices.Contains in the program, Has in the reference. No conditions but on the size of sums. A block that holds rows of one width: read, stored into, made. Contracts of the shelf, laid at this program in plain declarations (written by program): slices.SortFunc[[]studwork/api.Cell,studwork/api.Cell]. -/
import Derived.Test.YtenigkngmdofiaaLk1
import Derived.Deep.CutRange
import Derived.Deep.DeepCutAuto
import Derived.BigQuiet
import Derived.Laws.MakeOwn
import Derived.Shelf.SlLaysF0
import Derived.Test.YtenigkngmdofiaaProg

namespace Go.Proofs.Ytenigkngmdofiaa
open Go.RowKit

def inB (lo hi n : Int) : Bool := decide (lo ≤ n) && decide (n ≤ hi)
theorem inB_iff {lo hi n : Int} : inB lo hi n = true ↔ lo ≤ n ∧ n ≤ hi := by simp [inB]
theorem inB_not {lo hi n : Int} : inB lo hi n = false ↔ ¬ (lo ≤ n ∧ n ≤ hi) := by
  rw [← inB_iff]; simp
/-- A cell's coordinates are in a range. -/
def nearB (p : Pt) (lo hi : Int) : Bool := inB lo hi p.x && (inB lo hi p.y && inB lo hi p.z)
theorem nearB_iff {p : Pt} {lo hi : Int} : nearB p lo hi = true ↔ (lo ≤ p.x ∧ p.x ≤ hi) ∧ (lo ≤ p.y ∧ p.y ≤ hi) ∧ (lo ≤ p.z ∧ p.z ≤ hi) := by
  simp [nearB, inB]
theorem nearB_not {p : Pt} {lo hi : Int} : nearB p lo hi = false ↔ ¬ ((lo ≤ p.x ∧ p.x ≤ hi) ∧ (lo ≤ p.y ∧ p.y ≤ hi) ∧ (lo ≤ p.z ∧ p.z ≤ hi)) := by
  rw [← nearB_iff]; simp

set_option maxHeartbeats 400000 in
theorem within_c (n lo hi : Int) (w : World) :
    Calls Try.prog 49 #[.int .i64 n, .int .i64 lo, .int .i64 hi] w fun e w' => e = .returned (.bool (inB lo hi n)) ∧ w = w' := by
  by_cases h : lo ≤ n
  · go_enter Try.func49, Try.ntmps49
    go_wp2
    go_ret
    exact ⟨by simp [h, inB], rfl⟩
  · go_enter Try.func49, Try.ntmps49
    go_wp2
    go_ret
    exact ⟨by simp [inB]; omega, rfl⟩

set_option maxHeartbeats 400000 in
theorem risTurn_c (n : Int) (w : World) :
    Calls Try.prog 45 #[.int .i64 n] w fun e w' => e = .returned (.bool (inB 0 23 n)) ∧ w = w' := by
  go_enter Try.func45, Try.ntmps45
  go_wp2_with (go_at_call 49; refine (within_c _ _ _ _).mono ?_; rintro e w' ⟨rfl, rfl⟩)
  go_ret
  exact ⟨rfl, rfl⟩

set_option maxHeartbeats 400000 in
theorem rnear_c (x y z lo hi : Int) (w : World) :
    Calls Try.prog 44 #[.agg #[.int .i64 x, .int .i64 y, .int .i64 z], .int .i64 lo, .int .i64 hi] w fun e w' => e = .returned (.bool (nearB ⟨x, y, z⟩ lo hi)) ∧ Ext w w' := by
  unfold nearB
  cases h1 : inB lo hi x
  · go_enter Try.func44, Try.ntmps44
    go_wp2_with (go_at_call 49; refine (within_c _ _ _ _).mono ?_; rintro e w' ⟨rfl, rfl⟩)
    go_ret
    exact ⟨rfl, by apply_rules [Ext.refl, Ext.alloc]⟩
  · cases h2 : inB lo hi y
    · go_enter Try.func44, Try.ntmps44
      go_wp2_with (go_at_call 49; refine (within_c _ _ _ _).mono ?_; rintro e w' ⟨rfl, rfl⟩)
      go_ret
      exact ⟨rfl, by apply_rules [Ext.refl, Ext.alloc]⟩
    · go_enter Try.func44, Try.ntmps44
      go_wp2_with (go_at_call 49; refine (within_c _ _ _ _).mono ?_; rintro e w' ⟨rfl, rfl⟩)
      go_ret
      exact ⟨rfl, by apply_rules [Ext.refl, Ext.alloc]⟩

theorem ret_bool {a b : Bool} (h : a = true ↔ b = true) : Ending.returned (.bool a) = .returned (.bool b) := by rw [Bool.eq_iff_iff.2 h]

set_option maxHeartbeats 800000 in
theorem near_c (x y z lo hi : Int) (w : World) :
    Calls Try.prog 41 #[.agg #[.int .i64 x, .int .i64 y, .int .i64 z], .int .i64 lo, .int .i64 hi] w fun e w' => e = .returned (.bool (nearB ⟨x, y, z⟩ lo hi)) ∧ Ext w w' := by
  by_cases h1 : lo ≤ min (min x y) z
  · go_enter Try.func41, Try.ntmps41
    go_wp2
    all_goals
      go_ret
      refine ⟨ret_bool ?_, by apply_rules [Ext.refl, Ext.alloc]⟩
      rw [nearB_iff]
      simp
      omega
  · go_enter Try.func41, Try.ntmps41
    go_wp2
    all_goals
      go_ret
      refine ⟨ret_bool ?_, by apply_rules [Ext.refl, Ext.alloc]⟩
      rw [nearB_iff]
      simp
      try omega

def allTurn (xs : List Int) : Bool := xs.all fun n => inB 0 23 n
set_option maxHeartbeats 800000 in
theorem isTurn_c (A : Option Addr) (cap : Nat) (xs : List Int) (w : World) (hs : SliceIs w A xs.length cap 1 (xs.map fun n => [.int .i64 n])) :
    Calls Try.prog 42 #[.slice A xs.length cap] w fun e w' => e = .returned (.bool (allTurn xs)) ∧ w = w' := by
  have hl : xs.length ≤ 9223372036854775807 := by have := hs.le; have := hs.small; unfold maxLen at this; omega
  go_enter Try.func42, Try.ntmps42
  go_wp2
  go_loop [7] (fun i => ∃ k : Nat, k ≤ xs.length ∧ i = .int .i64 k ∧ ∀ j, j < k → inB 0 23 (xs.getD j 0) = true) (fun i => xs.length - (intOf i).toNat)
  case atStart => exact ⟨0, by omega, rfl, fun j hj => by omega⟩
  case round =>
    obtain ⟨k, hk, rfl, hj⟩ := hrel
    have Hj := Lib.hid hj
    clear hj
    by_cases hlt : k < xs.length
    · obtain ⟨b, off, rfl, hb, hc⟩ := hs.cells (by omega)
      obtain ⟨n, hn⟩ : ∃ n, xs[k]? = some n := ⟨_, List.getElem?_eq_getElem hlt⟩
      have hc0 := hc k [.int .i64 n] (by rw [List.getElem?_map, hn]; rfl) 0 _ rfl
      have hgd : xs.getD k 0 = n := by simp [hn]
      have Hgd := Lib.hid hgd
      have hmem : n ∈ xs := List.mem_of_getElem? hn
      clear hgd hn hc
      simp only [Nat.mul_one, Nat.add_zero] at hc0
      by_cases h1 : n < 0
      · have ha : allTurn xs = false := by
          rw [allTurn, List.all_eq_false]
          exact ⟨n, hmem, by simp [inB]; omega⟩
        have Ha := Lib.hid ha
        clear ha
        go_wp2
        go_ret
        exact ⟨by rw [Ha.out]; rfl, rfl⟩
      · by_cases h2 : 24 ≤ n
        · have ha : allTurn xs = false := by
            rw [allTurn, List.all_eq_false]
            exact ⟨n, hmem, by simp [inB]; omega⟩
          have Ha := Lib.hid ha
          clear ha
          go_wp2
          go_ret
          exact ⟨by rw [Ha.out]; rfl, rfl⟩
        · go_wp2
          go_round
          case rel =>
            refine ⟨k + 1, by omega, by go_num, fun j hj => ?_⟩
            rcases Nat.lt_or_ge j k with h | h
            · exact Hj.out j h
            · obtain rfl : j = k := by omega
              rw [Hgd.out]
              exact inB_iff.2 ⟨by omega, by omega⟩
          case measure => simp [intOf]; omega
    · obtain rfl : xs.length = k := by omega
      have ha : allTurn xs = true := by
        rw [allTurn, List.all_eq_true]
        intro n hn
        obtain ⟨i, hi⟩ := List.getElem?_of_mem hn
        have hil : i < xs.length := by
          rcases Nat.lt_or_ge i xs.length with h | h
          · exact h
          · rw [List.getElem?_eq_none h] at hi; cases hi
        have := Hj.out i hil
        simpa [hi] using this
      have Ha := Lib.hid ha
      clear ha
      go_wp2
      go_ret
      exact ⟨by rw [Ha.out]; rfl, rfl⟩
end Go.Proofs.Ytenigkngmdofiaa

namespace Go.Proofs.Ytenigkngmdofiaa
open Go.RowKit

/-- The step along a direction. -/
def stepS (d : Nat) : Pt :=
  match d with
  | 0 => ⟨1, 0, 0⟩
  | 1 => ⟨-1, 0, 0⟩
  | 2 => ⟨0, 1, 0⟩
  | 3 => ⟨0, -1, 0⟩
  | 4 => ⟨0, 0, 1⟩
  | _ => ⟨0, 0, -1⟩
theorem stepS_ok (d : Nat) : (stepS d).ok := by
  unfold stepS
  split <;> (unfold Pt.ok CB; simp)

def Pt.eqB (a b : Pt) : Bool := a.x == b.x && (a.y == b.y && a.z == b.z)
theorem Pt.eqB_iff {a b : Pt} : a.eqB b = true ↔ a = b := by
  cases a
  cases b
  simp [Pt.eqB]
theorem pt_eql (a b c d e f : Int) (w : World) : (binOp .eql 23 (.agg #[.int .i64 a, .int .i64 b, .int .i64 c]) (.agg #[.int .i64 d, .int .i64 e, .int .i64 f])).run Try.prog w = .ok (.bool (Pt.eqB ⟨a, b, c⟩ ⟨d, e, f⟩)) w := by
  unfold Pt.eqB
  by_cases h1 : a = d <;> by_cases h2 : b = e <;> by_cases h3 : c = f <;> simp [go_sem, h1, h2, h3]
theorem pt_neq (a b c d e f : Int) (w : World) : (binOp .neq 23 (.agg #[.int .i64 a, .int .i64 b, .int .i64 c]) (.agg #[.int .i64 d, .int .i64 e, .int .i64 f])).run Try.prog w = .ok (.bool (!Pt.eqB ⟨a, b, c⟩ ⟨d, e, f⟩)) w := by
  unfold Pt.eqB
  by_cases h1 : a = d <;> by_cases h2 : b = e <;> by_cases h3 : c = f <;> simp [go_sem, h1, h2, h3]
theorem stepS_inj {a b : Nat} (ha : a < 6) (hb : b < 6) (h : stepS a = stepS b) : a = b := by
  have e1 : a = 0 ∨ a = 1 ∨ a = 2 ∨ a = 3 ∨ a = 4 ∨ a = 5 := by omega
  have e2 : b = 0 ∨ b = 1 ∨ b = 2 ∨ b = 3 ∨ b = 4 ∨ b = 5 := by omega
  rcases e1 with rfl | rfl | rfl | rfl | rfl | rfl <;> rcases e2 with rfl | rfl | rfl | rfl | rfl | rfl <;> first | rfl | (exfalso; simp [stepS] at h)

set_option maxHeartbeats 1600000 in
theorem step_c (d : Nat) (hd : d < 6) (w : World) :
    Calls Try.prog 48 #[.int .i64 d] w fun e w' => e = .returned (.agg #[.int .i64 (stepS d).x, .int .i64 (stepS d).y, .int .i64 (stepS d).z]) ∧ Ext w w' := by
  have hi : ∀ (a b c : Int) (w : World), (Instr.index 137 (.agg #[.int .i64 a, .int .i64 0, .int .i64 0, .int .i64 0, .int .i64 b, .int .i64 0, .int .i64 0, .int .i64 0, .int .i64 c]) (.int .i64 0)).run Try.prog w = .ok (.agg #[.int .i64 a, .int .i64 0, .int .i64 0]) w := fun _ _ _ _ => by kernel_rfl
  have hj : ∀ (a b c : Int) (w : World), (Instr.index 137 (.agg #[.int .i64 a, .int .i64 0, .int .i64 0, .int .i64 0, .int .i64 b, .int .i64 0, .int .i64 0, .int .i64 0, .int .i64 c]) (.int .i64 1)).run Try.prog w = .ok (.agg #[.int .i64 0, .int .i64 b, .int .i64 0]) w := fun _ _ _ _ => by kernel_rfl
  have hk : ∀ (a b c : Int) (w : World), (Instr.index 137 (.agg #[.int .i64 a, .int .i64 0, .int .i64 0, .int .i64 0, .int .i64 b, .int .i64 0, .int .i64 0, .int .i64 0, .int .i64 c]) (.int .i64 2)).run Try.prog w = .ok (.agg #[.int .i64 0, .int .i64 0, .int .i64 c]) w := fun _ _ _ _ => by kernel_rfl
  have e1 : d = 0 ∨ d = 1 ∨ d = 2 ∨ d = 3 ∨ d = 4 ∨ d = 5 := by omega
  rcases e1 with rfl | rfl | rfl | rfl | rfl | rfl
  all_goals
    go_enter Try.func48, Try.ntmps48
    go_wp2
    refine bodyPost_ret (v := .agg #[.int .i64 (stepS _).x, .int .i64 (stepS _).y, .int .i64 (stepS _).z]) ?_ rfl ⟨rfl, by apply_rules [Ext.refl, Ext.alloc]⟩
    simp [results, Try.results48, go_sem, stepS]

set_option maxHeartbeats 1600000 in
theorem rstep_c (d : Nat) (hd : d < 6) (w : World) :
    Calls Try.prog 81 #[.int .i64 d] w fun e w' => e = .returned (.agg #[.int .i64 (stepS d).x, .int .i64 (stepS d).y, .int .i64 (stepS d).z]) ∧ Ext w w' := by
  have e1 : d = 0 ∨ d = 1 ∨ d = 2 ∨ d = 3 ∨ d = 4 ∨ d = 5 := by omega
  rcases e1 with rfl | rfl | rfl | rfl | rfl | rfl
  all_goals
    go_enter Try.func81, Try.ntmps81
    go_wp2
    refine bodyPost_ret (v := .agg #[.int .i64 (stepS _).x, .int .i64 (stepS _).y, .int .i64 (stepS _).z]) ?_ rfl ⟨rfl, by apply_rules [Ext.refl, Ext.alloc]⟩
    simp [results, Try.results81, go_sem, stepS]

set_option maxHeartbeats 1600000 in
theorem direction_c (d : Nat) (hd : d < 6) (w : World) :
    Calls Try.prog 47 #[.agg #[.int .i64 (stepS d).x, .int .i64 (stepS d).y, .int .i64 (stepS d).z]] w fun e w' => e = .returned (.int .i64 d) ∧ Ext w w' := by
  obtain ⟨W, hW, E, ba, hz⟩ := boxes1 w #[.int .i64 (stepS d).x, .int .i64 (stepS d).y, .int .i64 (stepS d).z] 23
  have B : Blk W w.heap.size 23 #[.int .i64 (stepS d).x, .int .i64 (stepS d).y, .int .i64 (stepS d).z] := by rw [← hW]; exact Blk.new _ _ _
  go_enter Try.func47, Try.ntmps47
  go_wp2
  go_loopw [4] (fun i wr => ∃ k : Nat, k ≤ d ∧ i = .int .i64 k ∧ Ext W wr) (fun i _ => 6 - (intOf i).toNat)
  case atStart => exact ⟨0, by omega, rfl, Ext.refl _⟩
  case round =>
    obtain ⟨k, hk, rfl, E1⟩ := hrel
    have c := (B.ext E1).cell
    have hq : ∀ w, (binOp .eql 23 (.agg #[.int .i64 (stepS k).x, .int .i64 (stepS k).y, .int .i64 (stepS k).z]) (.agg #[.int .i64 (stepS d).x, .int .i64 (stepS d).y, .int .i64 (stepS d).z])).run Try.prog w = .ok (.bool (decide (k = d))) w := fun w => by
      rw [pt_eql]
      have : Pt.eqB (stepS k) (stepS d) = decide (k = d) := by
        by_cases h : k = d
        · subst h
          simp [Pt.eqB]
        · simp only [h, decide_false]
          rw [Bool.eq_false_iff]
          intro h'
          exact h (stepS_inj (by omega) hd (Pt.eqB_iff.1 h'))
      exact congrArg (fun b => Result.ok (Value.bool b) w) this
    by_cases hkd : k = d
    · have hkd' : decide (k = d) = true := by simp [hkd]
      simp only [hkd'] at hq
      clear hkd'
      have Hkd := Lib.hid hkd
      clear hkd
      go_wp2
      refine wp_region_grow (by kernel_rfl) (by kernel_rfl) ?_
      repeat (go_big_quiet_step ((go_at_call 48; exact quiet_ext (step_c k (by omega) _))))
      refine wpQuiet_nil ?_
      intro W2 hW2
      have E2 : Ext wr W2 := by
        obtain ⟨x, rfl⟩ := hW2
        exact (Ext.refl _).grow x
      clear hW2
      go_wp2
      go_ret
      exact ⟨by rw [Hkd.out]; rfl, (E.trans E1).trans E2⟩
    · have hkd' : decide (k = d) = false := by simp [hkd]
      simp only [hkd'] at hq
      clear hkd'
      go_wp2
      refine wp_region_grow (by kernel_rfl) (by kernel_rfl) ?_
      repeat (go_big_quiet_step ((go_at_call 48; exact quiet_ext (step_c k (by omega) _))))
      refine wpQuiet_nil ?_
      intro W2 hW2
      have E2 : Ext wr W2 := by
        obtain ⟨x, rfl⟩ := hW2
        exact (Ext.refl _).grow x
      clear hW2
      go_wp2
      go_roundw
      case rel => exact ⟨k + 1, by omega, by go_num, E1.trans E2⟩
      case measure => simp [intOf]; omega
end Go.Proofs.Ytenigkngmdofiaa

namespace Go.Proofs.Ytenigkngmdofiaa
open Go.RowKit

theorem ext_facts {w w' : World} (E : Ext w w') :
    (∀ a, (w.cell? a).isSome = true → w'.cell? a = w.cell? a) ∧ (∀ a, (w.cell? a).isSome = true → w'.frozen? a = w.frozen? a) ∧ w.heap.size ≤ w'.heap.size := by
  refine ⟨fun a h => ?_, fun a h => ?_, E.size⟩
  · obtain ⟨u, hu⟩ := Option.isSome_iff_exists.1 h
    rw [hu]
    exact E.cell hu
  · obtain ⟨u, hu⟩ := Option.isSome_iff_exists.1 h
    exact E.frozen (World.block_lt_of_cell? w a hu)

/-! A loop that may leave early, as a fold that may fail. -/
section
variable {α : Type}
/-- k rounds of a step that may fail. -/
def runs (f : Nat → α → Option α) : Nat → α → Option α
  | 0, a => some a
  | k + 1, a => (runs f k a).bind (f k)
theorem runs_none {f : Nat → α → Option α} {a : α} {k n : Nat} (h : runs f k a = none) (hk : k ≤ n) : runs f n a = none := by
  induction n with
  | zero =>
    obtain rfl : k = 0 := by omega
    exact h
  | succ n ih =>
    rcases Nat.lt_or_ge n k with h' | h'
    · obtain rfl : k = n + 1 := by omega
      exact h
    · show (runs f n a).bind (f n) = none
      rw [ih h']
      rfl
theorem runs_fail {f : Nat → α → Option α} {a b : α} {k n : Nat} (h : runs f k a = some b) (hf : f k b = none) (hk : k < n) : runs f n a = none :=
  runs_none (k := k + 1) (by show (runs f k a).bind (f k) = none; rw [h]; exact hf) hk
theorem runs_succ {f : Nat → α → Option α} {a b : α} {k : Nat} (h : runs f k a = some b) : runs f (k + 1) a = f k b := by
  show (runs f k a).bind (f k) = _
  rw [h]
  rfl
theorem runs_prefix {f : Nat → α → Option α} {a b : α} {k n : Nat} (h : runs f n a = some b) (hk : k ≤ n) : ∃ c, runs f k a = some c := by
  cases hc : runs f k a with
  | some c => exact ⟨c, rfl⟩
  | none => rw [runs_none hc hk] at h; cases h
end
end Go.Proofs.Ytenigkngmdofiaa

namespace Go.Proofs.Ytenigkngmdofiaa
open Go.RowKit

/-- A block made: the new world under one name. -/
theorem mk_ (w : World) (ca : Array Value) (ta : TypeId) : ∃ W, w.alloc (.cells ca ta) = W ∧ Ext w W ∧ Blk W w.heap.size ta ca ∧ W.heap.size = w.heap.size + 1 :=
  ⟨_, rfl, (Ext.refl w).alloc _, Blk.new _ _ _, by simp⟩

def ordZ (a b : Int) : Int := if a < b then -1 else if b < a then 1 else 0
theorem ordZ_lt {a b : Int} (h : a < b) : ordZ a b = -1 := if_pos h
theorem ordZ_gt {a b : Int} (h : b < a) : ordZ a b = 1 := by rw [ordZ, if_neg (by omega), if_pos h]
theorem ordZ_eq {a b : Int} (h : a = b) : ordZ a b = 0 := by rw [ordZ, if_neg (by omega), if_neg (by omega)]
theorem nanZ_c (a : Int) (w : World) : Calls Try.prog 103 #[.int .i64 a] w fun e w' => e = .returned (.bool false) ∧ w = w' := by
  go_enter Try.func103, Try.ntmps103
  go_wp2
  go_ret
  exact ⟨by simp, rfl⟩
theorem nanU_c (a : Int) (w : World) : Calls Try.prog 85 #[.int .u8 a] w fun e w' => e = .returned (.bool false) ∧ w = w' := by
  go_enter Try.func85, Try.ntmps85
  go_wp2
  go_ret
  exact ⟨by simp, rfl⟩
set_option maxHeartbeats 400000 in
theorem cmpZ_c (a b : Int) (w : World) : Calls Try.prog 83 #[.int .i64 a, .int .i64 b] w fun e w' => e = .returned (.int .i64 (ordZ a b)) ∧ w = w' := by
  by_cases h1 : a < b
  · have Hc := Lib.hid (ordZ_lt h1)
    go_enter Try.func83, Try.ntmps83
    go_wp2_with (go_at_call 103; refine (nanZ_c _ _).mono ?_; rintro e w' ⟨rfl, rfl⟩)
    go_ret
    exact ⟨by rw [Hc.out]; rfl, rfl⟩
  · by_cases h2 : b < a
    · have Hc := Lib.hid (ordZ_gt h2)
      go_enter Try.func83, Try.ntmps83
      go_wp2_with (go_at_call 103; refine (nanZ_c _ _).mono ?_; rintro e w' ⟨rfl, rfl⟩)
      go_ret
      exact ⟨by rw [Hc.out]; rfl, rfl⟩
    · have Hc := Lib.hid (ordZ_eq (show a = b by omega))
      go_enter Try.func83, Try.ntmps83
      go_wp2_with (go_at_call 103; refine (nanZ_c _ _).mono ?_; rintro e w' ⟨rfl, rfl⟩)
      go_ret
      exact ⟨by rw [Hc.out]; rfl, rfl⟩
set_option maxHeartbeats 400000 in
theorem cmpU_c (a b : Int) (w : World) : Calls Try.prog 59 #[.int .u8 a, .int .u8 b] w fun e w' => e = .returned (.int .i64 (ordZ a b)) ∧ w = w' := by
  by_cases h1 : a < b
  · have Hc := Lib.hid (ordZ_lt h1)
    go_enter Try.func59, Try.ntmps59
    go_wp2_with (go_at_call 85; refine (nanU_c _ _).mono ?_; rintro e w' ⟨rfl, rfl⟩)
    go_ret
    exact ⟨by rw [Hc.out]; rfl, rfl⟩
  · by_cases h2 : b < a
    · have Hc := Lib.hid (ordZ_gt h2)
      go_enter Try.func59, Try.ntmps59
      go_wp2_with (go_at_call 85; refine (nanU_c _ _).mono ?_; rintro e w' ⟨rfl, rfl⟩)
      go_ret
      exact ⟨by rw [Hc.out]; rfl, rfl⟩
    · have Hc := Lib.hid (ordZ_eq (show a = b by omega))
      go_enter Try.func59, Try.ntmps59
      go_wp2_with (go_at_call 85; refine (nanU_c _ _).mono ?_; rintro e w' ⟨rfl, rfl⟩)
      go_ret
      exact ⟨by rw [Hc.out]; rfl, rfl⟩
/-- The first one that is not 0. -/
def orL : List Int → Int
  | [] => 0
  | x :: xs => if x = 0 then orL xs else x
theorem orL_drop {xs : List Int} {k : Nat} {n : Int} (h : xs[k]? = some n) : orL (xs.drop k) = if n = 0 then orL (xs.drop (k + 1)) else n := by
  obtain ⟨hk, hn⟩ := List.getElem?_eq_some_iff.1 h
  rw [List.drop_eq_getElem_cons hk, hn]
  rfl
set_option maxHeartbeats 800000 in
theorem orL_c (A : Option Addr) (cap : Nat) (xs : List Int) (w : World) (hs : SliceIs w A xs.length cap 1 (xs.map fun n => [.int .i64 n])) :
    Calls Try.prog 58 #[.slice A xs.length cap] w fun e w' => e = .returned (.int .i64 (orL xs)) ∧ w = w' := by
  have hl : xs.length ≤ 9223372036854775807 := by have := hs.le; have := hs.small; unfold maxLen at this; omega
  go_enter Try.func58, Try.ntmps58
  go_wp2
  go_loop [8] (fun i => ∃ k : Nat, k ≤ xs.length ∧ i = .int .i64 k ∧ orL xs = orL (xs.drop k)) (fun i => xs.length - (intOf i).toNat)
  case atStart => exact ⟨0, by omega, rfl, rfl⟩
  case round =>
    obtain ⟨k, hk, rfl, hj⟩ := hrel
    have Hj := Lib.hid hj
    clear hj
    by_cases hlt : k < xs.length
    · obtain ⟨b, off, rfl, hb, hc⟩ := hs.cells (by omega)
      obtain ⟨n, hn⟩ : ∃ n, xs[k]? = some n := ⟨_, List.getElem?_eq_getElem hlt⟩
      have hc0 := hc k [.int .i64 n] (by rw [List.getElem?_map, hn]; rfl) 0 _ rfl
      have Hd := Lib.hid (orL_drop hn)
      clear hn hc
      simp only [Nat.mul_one, Nat.add_zero] at hc0
      by_cases h1 : n = 0
      · subst h1
        go_wp2
        go_round
        case rel => exact ⟨k + 1, by omega, by go_num, by rw [Hj.out, Hd.out, if_pos rfl]⟩
        case measure => simp [intOf]; omega
      · have h2 : (n != 0) = true := by simpa using h1
        have Hn := Lib.hid h1
        clear h1
        go_wp2
        go_ret
        exact ⟨by rw [Hj.out, Hd.out, if_neg Hn.out]; rfl, rfl⟩
    · obtain rfl : xs.length = k := by omega
      go_wp2
      go_ret
      exact ⟨by rw [Hj.out, List.drop_length]; rfl, rfl⟩
/-- Numbers in a new block, as a list of numbers. -/
theorem ints_new (w : World) (xs : List Int) (t : TypeId) (h : xs.length ≤ 100) : SliceIs (w.alloc (.cells (xs.map (Value.int .i64)).toArray t)) (some ⟨w.heap.size, 0, none⟩) xs.length xs.length 1 (xs.map fun n => [.int .i64 n]) := by
  refine ⟨by simp, Nat.le_refl _, by unfold maxLen; omega, by simp, fun _ => ⟨_, 0, rfl, by simp, fun i r hr j u hu => ?_⟩⟩
  rw [List.getElem?_map] at hr
  obtain ⟨n, hn, rfl⟩ := Option.map_eq_some_iff.1 hr
  have hj : j = 0 := by
    rcases Nat.eq_zero_or_pos j with h | h
    · exact h
    · rw [List.getElem?_eq_none (by simp; omega)] at hu; cases hu
  subst hj
  simp at hu
  subst hu
  rw [cell_new]
  simp [hn]
theorem or2_c (a b : Int) (w : World) (t : TypeId) : Calls Try.prog 58 #[.slice (some ⟨w.heap.size, 0, none⟩) 2 2] (w.alloc (.cells #[.int .i64 a, .int .i64 b] t)) fun e w' => e = .returned (.int .i64 (orL [a, b])) ∧ w.alloc (.cells #[.int .i64 a, .int .i64 b] t) = w' :=
  orL_c _ 2 [a, b] _ (ints_new w [a, b] t (by simp))
theorem or3_c (a b c : Int) (w : World) (t : TypeId) : Calls Try.prog 58 #[.slice (some ⟨w.heap.size, 0, none⟩) 3 3] (w.alloc (.cells #[.int .i64 a, .int .i64 b, .int .i64 c] t)) fun e w' => e = .returned (.int .i64 (orL [a, b, c])) ∧ w.alloc (.cells #[.int .i64 a, .int .i64 b, .int .i64 c] t) = w' :=
  orL_c _ 3 [a, b, c] _ (ints_new w [a, b, c] t (by simp))

/-! The order of cells. -/
def ltP (p q : Pt) : Bool := decide (p.z < q.z) || (decide (p.z = q.z) && (decide (p.y < q.y) || (decide (p.y = q.y) && decide (p.x < q.x))))
theorem ltP_iff {p q : Pt} : ltP p q = true ↔ p.z < q.z ∨ (p.z = q.z ∧ (p.y < q.y ∨ (p.y = q.y ∧ p.x < q.x))) := by simp [ltP]
theorem ltP_not {p q : Pt} : ltP p q = false ↔ ¬ (p.z < q.z ∨ (p.z = q.z ∧ (p.y < q.y ∨ (p.y = q.y ∧ p.x < q.x)))) := by rw [← ltP_iff, Bool.not_eq_true]
def ordP (p q : Pt) : Int := orL [ordZ p.z q.z, ordZ p.y q.y, ordZ p.x q.x]
theorem ordP_cases (p q : Pt) : (ltP p q = true ∧ ordP p q = -1) ∨ (p = q ∧ ordP p q = 0) ∨ (ltP q p = true ∧ ordP p q = 1) := by
  obtain ⟨a, b, c⟩ := p
  obtain ⟨d, e, f⟩ := q
  rw [ltP_iff, ltP_iff]
  unfold ordP orL
  rcases Int.lt_trichotomy c f with h | h | h
  · left
    rw [ordZ_lt h]
    exact ⟨Or.inl h, rfl⟩
  · rw [ordZ_eq h, if_pos rfl]
    unfold orL
    rcases Int.lt_trichotomy b e with h2 | h2 | h2
    · left
      rw [ordZ_lt h2]
      exact ⟨Or.inr ⟨h, Or.inl h2⟩, rfl⟩
    · rw [ordZ_eq h2, if_pos rfl]
      unfold orL
      rcases Int.lt_trichotomy a d with h3 | h3 | h3
      · left
        rw [ordZ_lt h3]
        exact ⟨Or.inr ⟨h, Or.inr ⟨h2, h3⟩⟩, rfl⟩
      · right; left
        rw [ordZ_eq h3]
        subst h h2 h3
        exact ⟨rfl, rfl⟩
      · right; right
        rw [ordZ_gt h3]
        exact ⟨Or.inr ⟨h.symm, Or.inr ⟨h2.symm, h3⟩⟩, rfl⟩
    · right; right
      rw [ordZ_gt h2]
      exact ⟨Or.inr ⟨h.symm, Or.inl h2⟩, rfl⟩
  · right; right
    rw [ordZ_gt h]
    exact ⟨Or.inl h, rfl⟩
theorem ltP_irrefl (p : Pt) : ltP p p = false := by rw [ltP_not]; omega
theorem ltP_trans {p q r : Pt} (h : ltP p q = true) (k : ltP q r = true) : ltP p r = true := by rw [ltP_iff] at *; omega
theorem ltP_anti {p q : Pt} (h : ltP p q = true) : ltP q p = false := by rw [ltP_iff] at h; rw [ltP_not]; omega
theorem ordP_neg (p q : Pt) : ordP p q < 0 ↔ ltP p q = true := by
  rcases ordP_cases p q with ⟨h, e⟩ | ⟨rfl, e⟩ | ⟨h, e⟩
  · rw [e]; simp [h]
  · rw [e, ltP_irrefl]; simp
  · rw [e, ltP_anti h]; simp
theorem ordP_zero (p q : Pt) : ordP p q = 0 ↔ p = q := by
  rcases ordP_cases p q with ⟨h, e⟩ | ⟨rfl, e⟩ | ⟨h, e⟩
  · rw [e]
    refine ⟨(fun h => by cases h), fun h' => ?_⟩
    subst h'
    rw [ltP_irrefl] at h
    cases h
  · simp [e]
  · rw [e]
    refine ⟨(fun h => by cases h), fun h' => ?_⟩
    subst h'
    rw [ltP_irrefl] at h
    cases h
set_option maxHeartbeats 1600000 in
theorem order_c (a b c d e f : Int) (w : World) :
    Calls Try.prog 55 #[.agg #[.int .i64 a, .int .i64 b, .int .i64 c], .agg #[.int .i64 d, .int .i64 e, .int .i64 f]] w fun v w' => v = .returned (.int .i64 (ordP ⟨a, b, c⟩ ⟨d, e, f⟩)) ∧ Ext w w' := by
  obtain ⟨W1, hW1, E1, B1, hz1⟩ := mk_ w #[.int .i64 a, .int .i64 b, .int .i64 c] 23
  obtain ⟨W2, hW2, E2, B2, hz2⟩ := mk_ W1 #[.int .i64 d, .int .i64 e, .int .i64 f] 23
  have B1' := B1.ext E2
  rw [hz1] at B2
  have b1 := B1'.cell
  have b2 := B2.cell
  have E := E1.trans E2
  go_enter Try.func55, Try.ntmps55
  go_upto_region 1 with (fail)
  clear hW1 hW2 hz1 hz2 B1 E1 E2
  refine wp_region_tail 15 (by kernel_rfl) (by kernel_rfl) ?_
  simp only [List.take_succ_cons, List.take_zero, List.drop_succ_cons, List.drop_zero]
  repeat (go_big_quiet_step (((go_at_call 83; exact quiet_grow_same (cmpZ_c _ _ _)))))
  refine wpQuiet_nil ?_
  intro W3 hW3
  have E3 : Ext W2 W3 := by
    obtain ⟨x, rfl⟩ := hW3
    exact (Ext.refl _).grow x
  clear hW3
  obtain ⟨hcW3, hfW3, hzW3⟩ := ext_facts E3
  go_wp2_with fail
  refine (or3_c _ _ _ _ _).mono ?_
  rintro v w4 ⟨rfl, rfl⟩
  go_wp2_with fail
  go_ret
  exact ⟨rfl, (E.trans E3).alloc _⟩
set_option maxHeartbeats 1600000 in
theorem rBefore_c (a b c d e f : Int) (w : World) :
    Calls Try.prog 86 #[.agg #[.int .i64 a, .int .i64 b, .int .i64 c], .agg #[.int .i64 d, .int .i64 e, .int .i64 f]] w fun v w' => v = .returned (.bool (ltP ⟨a, b, c⟩ ⟨d, e, f⟩)) ∧ Ext w w' := by
  obtain ⟨W1, hW1, E1, B1, hz1⟩ := mk_ w #[.int .i64 a, .int .i64 b, .int .i64 c] 23
  obtain ⟨W2, hW2, E2, B2, hz2⟩ := mk_ W1 #[.int .i64 d, .int .i64 e, .int .i64 f] 23
  have B1' := B1.ext E2
  rw [hz1] at B2
  have b1 := B1'.cell
  have b2 := B2.cell
  have E := E1.trans E2
  by_cases h1 : c < f
  · have Hv := Lib.hid (show ltP ⟨a, b, c⟩ ⟨d, e, f⟩ = true from ltP_iff.2 (Or.inl h1))
    go_enter Try.func86, Try.ntmps86
    go_wp2_with fail
    go_ret
    exact ⟨by rw [Hv.out]; rfl, E⟩
  by_cases h2 : c = f
  rotate_left
  · have Hv := Lib.hid (show ltP ⟨a, b, c⟩ ⟨d, e, f⟩ = false from ltP_not.2 (by show ¬ (c < f ∨ (c = f ∧ _)); omega))
    go_enter Try.func86, Try.ntmps86
    go_wp2_with fail
    go_ret
    exact ⟨by rw [Hv.out]; rfl, E⟩
  subst h2
  by_cases h3 : b < e
  · have Hv := Lib.hid (show ltP ⟨a, b, c⟩ ⟨d, e, c⟩ = true from ltP_iff.2 (Or.inr ⟨rfl, Or.inl h3⟩))
    go_enter Try.func86, Try.ntmps86
    go_wp2_with fail
    go_ret
    exact ⟨by rw [Hv.out]; rfl, E⟩
  by_cases h4 : b = e
  rotate_left
  · have Hv := Lib.hid (show ltP ⟨a, b, c⟩ ⟨d, e, c⟩ = false from ltP_not.2 (by show ¬ (c < c ∨ (c = c ∧ (b < e ∨ (b = e ∧ _)))); omega))
    go_enter Try.func86, Try.ntmps86
    go_wp2_with fail
    go_ret
    exact ⟨by rw [Hv.out]; rfl, E⟩
  subst h4
  by_cases h5 : a < d
  · have Hv := Lib.hid (show ltP ⟨a, b, c⟩ ⟨d, b, c⟩ = true from ltP_iff.2 (Or.inr ⟨rfl, Or.inr ⟨rfl, h5⟩⟩))
    go_enter Try.func86, Try.ntmps86
    go_wp2_with fail
    go_ret
    exact ⟨by rw [Hv.out]; rfl, E⟩
  · have Hv := Lib.hid (show ltP ⟨a, b, c⟩ ⟨d, b, c⟩ = false from ltP_not.2 (by show ¬ (c < c ∨ (c = c ∧ (b < b ∨ (b = b ∧ a < d)))); omega))
    go_enter Try.func86, Try.ntmps86
    go_wp2_with fail
    go_ret
    exact ⟨by rw [Hv.out]; rfl, E⟩
end Go.Proofs.Ytenigkngmdofiaa

namespace Go.Proofs.Ytenigkngmdofiaa
open Go.RowKit

def Pt.cs (p : Pt) : List Value := [.int .i64 p.x, .int .i64 p.y, .int .i64 p.z]
def Cells (w : World) (A : Option Addr) (cap : Nat) (l : List Pt) : Prop := SliceIs w A l.length cap 3 (l.map Pt.cs)
theorem Cells.ext {w w' : World} {A : Option Addr} {cap : Nat} {l : List Pt} (h : Cells w A cap l) (e : Ext w w') : Cells w' A cap l := SliceIs.ext h e
theorem Cells.len {w : World} {A : Option Addr} {cap : Nat} {l : List Pt} (h : Cells w A cap l) : l.length ≤ maxLen := Nat.le_trans h.le h.small
theorem Cells.at_ {w : World} {A : Option Addr} {cap : Nat} {l : List Pt} (h : Cells w A cap l) {k : Nat} (hk : k < l.length) :
    ∃ b off p, A = some ⟨b, off, none⟩ ∧ l[k]? = some p ∧ b < w.heap.size ∧ w.cell? ⟨b, off + k * 3, none⟩ = some (.int .i64 p.x) ∧ w.cell? ⟨b, off + k * 3 + 1, none⟩ = some (.int .i64 p.y) ∧
      w.cell? ⟨b, off + k * 3 + 2, none⟩ = some (.int .i64 p.z) := by
  obtain ⟨b, off, hA, hb, hc⟩ := SliceIs.cells h (by omega)
  have hget : l[k]? = some l[k] := List.getElem?_eq_getElem hk
  have hr : (l.map Pt.cs)[k]? = some l[k].cs := by rw [List.getElem?_map, hget]; rfl
  exact ⟨b, off, l[k], hA, hget, hb, hc k _ hr 0 _ rfl, hc k _ hr 1 _ rfl, hc k _ hr 2 _ rfl⟩

def addP (p q : Pt) : Pt := ⟨p.x + q.x, p.y + q.y, p.z + q.z⟩
def subP (p q : Pt) : Pt := ⟨p.x - q.x, p.y - q.y, p.z - q.z⟩
set_option maxHeartbeats 1600000 in
theorem plus_c (a b c d e f : Int) (w : World) (hp : Pt.ok ⟨a, b, c⟩) (hq : Pt.ok ⟨d, e, f⟩) :
    Calls Try.prog 57 #[.agg #[.int .i64 a, .int .i64 b, .int .i64 c], .agg #[.int .i64 d, .int .i64 e, .int .i64 f]] w fun v w' => v = .returned (.agg #[.int .i64 (a + d), .int .i64 (b + e), .int .i64 (c + f)]) ∧ Ext w w' := by
  obtain ⟨h1, h2, h3⟩ := hp
  obtain ⟨k1, k2, k3⟩ := hq
  unfold CB at *
  simp only at h1 h2 h3 k1 k2 k3
  go_enter Try.func57, Try.ntmps57
  go_wp2
  refine bodyPost_ret (v := .agg #[.int .i64 (a + d), .int .i64 (b + e), .int .i64 (c + f)]) ?_ rfl ⟨rfl, by apply_rules [Ext.refl, Ext.alloc]⟩
  simp [results, Try.results57, go_sem]
set_option maxHeartbeats 1600000 in
theorem minus_c (a b c d e f : Int) (w : World) (hp : Pt.ok ⟨a, b, c⟩) (hq : Pt.ok ⟨d, e, f⟩) :
    Calls Try.prog 88 #[.agg #[.int .i64 a, .int .i64 b, .int .i64 c], .agg #[.int .i64 d, .int .i64 e, .int .i64 f]] w fun v w' => v = .returned (.agg #[.int .i64 (a - d), .int .i64 (b - e), .int .i64 (c - f)]) ∧ Ext w w' := by
  obtain ⟨h1, h2, h3⟩ := hp
  obtain ⟨k1, k2, k3⟩ := hq
  unfold CB at *
  simp only at h1 h2 h3 k1 k2 k3
  go_enter Try.func88, Try.ntmps88
  go_wp2
  refine bodyPost_ret (v := .agg #[.int .i64 (a - d), .int .i64 (b - e), .int .i64 (c - f)]) ?_ rfl ⟨rfl, by apply_rules [Ext.refl, Ext.alloc]⟩
  simp [results, Try.results88, go_sem]
set_option maxHeartbeats 1600000 in
theorem rPlus_c (a b c d e f : Int) (w : World) (hp : Pt.ok ⟨a, b, c⟩) (hq : Pt.ok ⟨d, e, f⟩) :
    Calls Try.prog 76 #[.agg #[.int .i64 a, .int .i64 b, .int .i64 c], .agg #[.int .i64 d, .int .i64 e, .int .i64 f]] w fun v w' => v = .returned (.agg #[.int .i64 (a + d), .int .i64 (b + e), .int .i64 (c + f)]) ∧ Ext w w' := by
  obtain ⟨h1, h2, h3⟩ := hp
  obtain ⟨k1, k2, k3⟩ := hq
  unfold CB at *
  simp only at h1 h2 h3 k1 k2 k3
  go_enter Try.func76, Try.ntmps76
  go_wp2
  refine bodyPost_ret (v := .agg #[.int .i64 (a + d), .int .i64 (b + e), .int .i64 (c + f)]) ?_ rfl ⟨rfl, by apply_rules [Ext.refl, Ext.alloc]⟩
  simp [results, Try.results76, go_sem]

def hasP (l : List Pt) (p : Pt) : Bool := l.any fun q => q.eqB p
theorem hasP_iff {l : List Pt} {p : Pt} : hasP l p = true ↔ p ∈ l := by
  unfold hasP
  rw [List.any_eq_true]
  exact ⟨fun ⟨q, h, e⟩ => Pt.eqB_iff.1 e ▸ h, fun h => ⟨p, h, Pt.eqB_iff.2 rfl⟩⟩
theorem hasP_drop {l : List Pt} {p q : Pt} {k : Nat} (h : l[k]? = some q) : hasP (l.drop k) p = (q.eqB p || hasP (l.drop (k + 1)) p) := by
  obtain ⟨hk, hn⟩ := List.getElem?_eq_some_iff.1 h
  rw [List.drop_eq_getElem_cons hk, hn]
  rfl
theorem Pt.eqB_comm (p q : Pt) : p.eqB q = q.eqB p := by rw [Bool.eq_iff_iff, Pt.eqB_iff, Pt.eqB_iff]; exact eq_comm
set_option maxHeartbeats 1600000 in
theorem rHas_c (A : Option Addr) (cap : Nat) (l : List Pt) (a b c : Int) (w : World) (hs : Cells w A cap l) :
    Calls Try.prog 104 #[.slice A l.length cap, .agg #[.int .i64 a, .int .i64 b, .int .i64 c]] w fun e w' => e = .returned (.bool (hasP l ⟨a, b, c⟩)) ∧ Ext w w' := by
  have hl : l.length ≤ 9223372036854775807 := by have := hs.len; unfold maxLen at this; omega
  obtain ⟨W1, hW1, E1, B1, hz1⟩ := mk_ w #[.int .i64 a, .int .i64 b, .int .i64 c] 23
  have heq := pt_eql
  go_enter Try.func104, Try.ntmps104
  go_wp2_with fail
  clear hW1 hz1
  go_loopw [5] (fun i wr => ∃ k : Nat, k ≤ l.length ∧ i = .int .i64 k ∧ Hid (hasP l ⟨a, b, c⟩ = hasP (l.drop k) ⟨a, b, c⟩) ∧ Ext w wr ∧ Blk wr w.heap.size 23 #[.int .i64 a, .int .i64 b, .int .i64 c]) (fun i _ => l.length - (intOf i).toNat)
  case atStart => exact ⟨0, by omega, rfl, Lib.hid rfl, E1, B1⟩
  case round =>
    obtain ⟨k, hk, rfl, Hj, E, B⟩ := hrel
    clear B1 E1
    have b1 := B.cell
    by_cases hlt : k < l.length
    · obtain ⟨g, off, q, rfl, hq, hg, c0, c1, c2⟩ := hs.at_ hlt
      have e0 := E.cell c0
      have e1 := E.cell c1
      have e2 := E.cell c2
      clear c0 c1 c2
      have Hd := Lib.hid (hasP_drop (p := ⟨a, b, c⟩) hq)
      clear hq
      have i1 : (0 : Int) ≤ k := by omega
      have i2 : (k : Int) < l.length := by omega
      go_upto_region 4 with (fail)
      refine wp_region_grow (by kernel_rfl) (by kernel_rfl) ?_
      repeat (go_big_quiet_step (fail))
      refine wpQuiet_nil ?_
      intro W3 hW3
      have E3 : Ext wr W3 := by
        obtain ⟨x, rfl⟩ := hW3
        exact (Ext.refl _).grow x
      clear hW3
      obtain ⟨hcW3, hfW3, hzW3⟩ := ext_facts E3
      replace E := E.trans E3
      replace B := B.ext E3
      clear hcW3 hfW3 hzW3 E3 b1 e0 e1 e2
      obtain ⟨r, hr⟩ : ∃ r, Pt.eqB ⟨q.x, q.y, q.z⟩ ⟨a, b, c⟩ = r := ⟨_, rfl⟩
      rw [hr]
      have Hr := Lib.hid hr
      clear hr
      cases r
      · go_wp2_with fail
        go_roundw
        case rel => exact ⟨k + 1, by omega, by go_num, Lib.hid (by rw [Hj.out, Hd.out, show q.eqB ⟨a, b, c⟩ = false from Hr.out]; rfl), E, B⟩
        case measure => simp [intOf]; omega
      · go_wp2_with fail
        go_ret
        exact ⟨by rw [Hj.out, Hd.out, show q.eqB ⟨a, b, c⟩ = true from Hr.out]; rfl, E⟩
    · obtain rfl : l.length = k := by omega
      go_wp2_with fail
      go_ret
      exact ⟨by rw [Hj.out, List.drop_length]; rfl, E⟩
/-- What slices.Index answers: a number that is not negative just if the list has it. -/
def IdxIs (b : Bool) (w : World) (e : Ending) (w' : World) : Prop := ∃ v : Int, e = .returned (.int .i64 v) ∧ decide (0 ≤ v) = b ∧ Ext w w'
set_option maxHeartbeats 1600000 in
theorem idx_c (A : Option Addr) (cap : Nat) (l : List Pt) (a b c : Int) (w : World) (hs : Cells w A cap l) :
    Calls Try.prog 84 #[.slice A l.length cap, .agg #[.int .i64 a, .int .i64 b, .int .i64 c]] w (IdxIs (hasP l ⟨a, b, c⟩) w) := by
  have hl : l.length ≤ 9223372036854775807 := by have := hs.len; unfold maxLen at this; omega
  obtain ⟨W1, hW1, E1, B1, hz1⟩ := mk_ w #[.int .i64 a, .int .i64 b, .int .i64 c] 23
  have heq := pt_eql
  go_enter Try.func84, Try.ntmps84
  go_wp2_with fail
  clear hW1 hz1
  go_loopw [8] (fun i wr => ∃ k : Nat, k ≤ l.length ∧ i = .int .i64 k ∧ Hid (hasP l ⟨a, b, c⟩ = hasP (l.drop k) ⟨a, b, c⟩) ∧ Ext w wr ∧ Blk wr w.heap.size 23 #[.int .i64 a, .int .i64 b, .int .i64 c]) (fun i _ => l.length - (intOf i).toNat)
  case atStart => exact ⟨0, by omega, rfl, Lib.hid rfl, E1, B1⟩
  case round =>
    obtain ⟨k, hk, rfl, Hj, E, B⟩ := hrel
    clear B1 E1
    have b1 := B.cell
    by_cases hlt : k < l.length
    · obtain ⟨g, off, q, rfl, hq, hg, c0, c1, c2⟩ := hs.at_ hlt
      have e0 := E.cell c0
      have e1 := E.cell c1
      have e2 := E.cell c2
      clear c0 c1 c2
      have Hd := Lib.hid (hasP_drop (p := ⟨a, b, c⟩) hq)
      clear hq
      have i1 : (0 : Int) ≤ k := by omega
      have i2 : (k : Int) < l.length := by omega
      go_upto_region 4 with (fail)
      refine wp_region_grow (by kernel_rfl) (by kernel_rfl) ?_
      repeat (go_big_quiet_step (fail))
      refine wpQuiet_nil ?_
      intro W3 hW3
      have E3 : Ext wr W3 := by
        obtain ⟨x, rfl⟩ := hW3
        exact (Ext.refl _).grow x
      clear hW3
      obtain ⟨hcW3, hfW3, hzW3⟩ := ext_facts E3
      replace E := E.trans E3
      replace B := B.ext E3
      clear hcW3 hfW3 hzW3 E3 b1 e0 e1 e2
      obtain ⟨r, hr⟩ : ∃ r, Pt.eqB ⟨a, b, c⟩ ⟨q.x, q.y, q.z⟩ = r := ⟨_, rfl⟩
      rw [hr]
      have Hr := Lib.hid hr
      clear hr
      cases r
      · go_wp2_with fail
        go_roundw
        case rel => exact ⟨k + 1, by omega, by go_num, Lib.hid (by rw [Hj.out, Hd.out, Pt.eqB_comm, show Pt.eqB ⟨a, b, c⟩ q = false from Hr.out]; rfl), E, B⟩
        case measure => simp [intOf]; omega
      · go_wp2_with fail
        go_ret
        exact ⟨k, rfl, by rw [Hj.out, Hd.out, Pt.eqB_comm, show Pt.eqB ⟨a, b, c⟩ q = true from Hr.out]; simp, E⟩
    · obtain rfl : l.length = k := by omega
      go_wp2_with fail
      go_ret
      exact ⟨-1, rfl, by rw [Hj.out, List.drop_length]; rfl, E⟩
set_option maxHeartbeats 800000 in
theorem contains_c (A : Option Addr) (cap : Nat) (l : List Pt) (a b c : Int) (w : World) (hs : Cells w A cap l) :
    Calls Try.prog 56 #[.slice A l.length cap, .agg #[.int .i64 a, .int .i64 b, .int .i64 c]] w fun e w' => e = .returned (.bool (hasP l ⟨a, b, c⟩)) ∧ Ext w w' := by
  obtain ⟨W1, hW1, E1, B1, hz1⟩ := mk_ w #[.int .i64 a, .int .i64 b, .int .i64 c] 23
  have b1 := B1.cell
  go_enter Try.func56, Try.ntmps56
  go_wp2_with fail
  refine (idx_c A cap l a b c _ (hs.ext E1)).mono ?_
  rintro e w2 ⟨v, rfl, hv, E2⟩
  have Hv := Lib.hid hv
  clear hv
  go_wp2_with fail
  go_ret
  exact ⟨by rw [← Hv.out]; rfl, E1.trans E2⟩
end Go.Proofs.Ytenigkngmdofiaa

namespace Go.Proofs.Ytenigkngmdofiaa
open Go.RowKit

theorem rowsF_get {sz : Nat} : ∀ {rows : List (List Value)}, (∀ r ∈ rows, r.length = sz) → ∀ {i j : Nat}, j < sz → rows.flatten[i * sz + j]? = (rows[i]?).bind (·[j]?)
  | [], _, i, j, _ => by simp
  | r :: rs, hw, i, j, hj => by
    have hr := hw r (List.mem_cons_self ..)
    rw [List.flatten_cons]
    cases i with
    | zero =>
      rw [Nat.zero_mul, Nat.zero_add, List.getElem?_append_left (by omega)]
      rfl
    | succ i =>
      rw [List.getElem?_append_right (by rw [hr, Nat.succ_mul]; omega), hr, show (i + 1) * sz + j - sz = i * sz + j by rw [Nat.succ_mul]; omega, rowsF_get (fun r h => hw r (List.mem_cons_of_mem _ h)) hj]
      rfl
theorem rowsF_len {sz : Nat} : ∀ {rows : List (List Value)}, (∀ r ∈ rows, r.length = sz) → rows.flatten.length = rows.length * sz
  | [], _ => by simp
  | r :: rs, hw => by
    rw [List.flatten_cons, List.length_append, hw r (List.mem_cons_self ..), rowsF_len (fun r h => hw r (List.mem_cons_of_mem _ h)), List.length_cons, Nat.succ_mul, Nat.add_comm]
/-- The cells of rows, one behind the other. -/
def rowsA (rows : List (List Value)) : Array Value := rows.flatten.toArray
theorem rowsA_get {sz : Nat} {rows : List (List Value)} (hw : ∀ r ∈ rows, r.length = sz) {i j : Nat} {r : List Value} {u : Value} (hr : rows[i]? = some r) (hu : r[j]? = some u) : (rowsA rows)[i * sz + j]? = some u := by
  have hj : j < sz := by
    have := (List.getElem?_eq_some_iff.1 hu).1
    rw [hw r (List.mem_of_getElem? hr)] at this
    exact this
  unfold rowsA
  rw [List.getElem?_toArray, rowsF_get hw hj, hr]
  exact hu
theorem rowsA_size {sz : Nat} {rows : List (List Value)} (hw : ∀ r ∈ rows, r.length = sz) : (rowsA rows).size = rows.length * sz := by
  unfold rowsA
  rw [List.size_toArray, rowsF_len hw]
/-- Two blocks of rows are one if they read alike. -/
theorem rowsA_ext {sz : Nat} {rows : List (List Value)} {c : Array Value} (hw : ∀ r ∈ rows, r.length = sz) (hs : c.size = rows.length * sz) (h : ∀ i j r u, rows[i]? = some r → r[j]? = some u → c[i * sz + j]? = some u) : c = rowsA rows := by
  refine Array.ext_getElem? fun t => ?_
  rcases Nat.lt_or_ge t (rows.length * sz) with ht | ht
  · have hz : 0 < sz := by
      rcases Nat.eq_zero_or_pos sz with e | e
      · subst e
        rw [Nat.mul_zero] at ht
        omega
      · exact e
    have hi : t / sz < rows.length := Nat.div_lt_of_lt_mul (by rwa [Nat.mul_comm])
    have hj : t % sz < sz := Nat.mod_lt _ hz
    have hr : rows[t / sz]? = some rows[t / sz] := List.getElem?_eq_getElem hi
    have hlen : rows[t / sz].length = sz := hw _ (List.getElem_mem hi)
    have hu : rows[t / sz][t % sz]? = some (rows[t / sz][t % sz]'(by rw [hlen]; exact hj)) := List.getElem?_eq_getElem _
    have e : t / sz * sz + t % sz = t := Nat.div_add_mod' t sz
    have h1 := h _ _ _ _ hr hu
    have h2 := rowsA_get hw hr hu
    rw [e] at h1 h2
    rw [h1, h2]
  · rw [Array.getElem?_eq_none (by omega), Array.getElem?_eq_none (by rw [rowsA_size hw]; exact ht)]
theorem rowsA_made {sz n : Nat} {zs : Array Value} (hz : zs.size = sz) (_hp : 0 < sz) : madeCells zs (n * sz) = rowsA (List.replicate n zs.toList) := by
  refine rowsA_ext (sz := sz) (fun r h => by rw [List.eq_of_mem_replicate h]; simpa using hz) (by simp [size_madeCells]) fun i j r u hr hu => ?_
  rw [List.getElem?_replicate] at hr
  split at hr
  · rename_i hi
    cases hr
    have hj : j < sz := by
      have := (List.getElem?_eq_some_iff.1 hu).1
      simpa [hz] using this
    have hlt : i * sz + j < n * sz := by
      have : (i + 1) * sz ≤ n * sz := Nat.mul_le_mul_right _ hi
      rw [Nat.succ_mul] at this
      omega
    have hm : (i * sz + j) % sz = j := by rw [Nat.mul_comm, Nat.mul_add_mod]; exact Nat.mod_eq_of_lt hj
    have hu' : zs[j]? = some u := by simpa using hu
    simp [madeCells, hlt, hz, hm]
    rw [getElem!_def, hu']
  · cases hr
/-- Three cells of a row stored. -/
theorem Blk.row3 {w : World} {g : Nat} {t : TypeId} {rows : List (List Value)} (h : Blk w g t (rowsA rows)) (hw : ∀ r ∈ rows, r.length = 3) {k : Nat} (hk : k < rows.length) (a b c : Value) :
    ∃ w2, ((w.setCell ⟨g, k * 3, none⟩ a).setCell ⟨g, k * 3 + 1, none⟩ b).setCell ⟨g, k * 3 + 2, none⟩ c = w2 ∧ Blk w2 g t (rowsA (rows.set k [a, b, c])) ∧
    (∀ k t' cs', k ≠ g → Blk w k t' cs' → Blk w2 k t' cs') ∧ (∀ w0, Ext w0 w → w0.heap.size ≤ g → Ext w0 w2) ∧ w2.heap.size = w.heap.size := by
  refine ⟨_, rfl, ?_, fun k t' cs' hk hb => ((hb.far hk _).far hk _).far hk _, fun w0 hE hg => ((hE.setCell hg _).setCell hg _).setCell hg _, by simp [World.setCell]⟩
  have e := ((h.set_ (k * 3) a).set_ (k * 3 + 1) b).set_ (k * 3 + 2) c
  have hw' : ∀ r ∈ rows.set k [a, b, c], r.length = 3 := fun r hr => by
    rcases List.mem_or_eq_of_mem_set hr with h | h
    · exact hw r h
    · rw [h]
      rfl
  have q : (((rowsA rows).setIfInBounds (k * 3) a).setIfInBounds (k * 3 + 1) b).setIfInBounds (k * 3 + 2) c = rowsA (rows.set k [a, b, c]) := rowsA_ext (sz := 3) hw' (by simp [rowsA_size hw]) fun i j r u hr hu => by
    have hj : j < 3 := by
      have := (List.getElem?_eq_some_iff.1 hu).1
      rwa [hw' r (List.mem_of_getElem? hr)] at this
    rw [List.getElem?_set] at hr
    by_cases hik : k = i
    · subst hik
      rw [if_pos rfl, if_pos hk] at hr
      cases hr
      have hsz : k * 3 + 2 < (rowsA rows).size := by
        rw [rowsA_size hw]
        omega
      have h3 : j = 0 ∨ j = 1 ∨ j = 2 := by omega
      rcases h3 with rfl | rfl | rfl
      · simp only [List.getElem?_cons_zero, Option.some.injEq] at hu
        subst hu
        simp [show k * 3 < (rowsA rows).size by omega]
      · simp only [List.getElem?_cons_succ, List.getElem?_cons_zero, Option.some.injEq] at hu
        subst hu
        simp [show k * 3 + 1 < (rowsA rows).size by omega]
      · simp only [List.getElem?_cons_succ, List.getElem?_cons_zero, Option.some.injEq] at hu
        subst hu
        simp [hsz]
    · rw [if_neg hik] at hr
      rw [Array.getElem?_setIfInBounds, if_neg (by omega), Array.getElem?_setIfInBounds, if_neg (by omega), Array.getElem?_setIfInBounds, if_neg (by omega)]
      exact rowsA_get hw hr hu
  rwa [q] at e
/-- Stores one behind the other. -/
def setsW (w : World) (g : Nat) : Nat → List Value → World
  | _, [] => w
  | o, v :: vs => setsW (w.setCell ⟨g, o, none⟩ v) g (o + 1) vs
def setsA (c : Array Value) : Nat → List Value → Array Value
  | _, [] => c
  | o, v :: vs => setsA (c.setIfInBounds o v) (o + 1) vs
theorem setsA_size : ∀ (vs : List Value) (c : Array Value) (o : Nat), (setsA c o vs).size = c.size
  | [], _, _ => rfl
  | v :: vs, c, o => by
    unfold setsA
    rw [setsA_size vs, Array.size_setIfInBounds]
theorem setsA_get : ∀ (vs : List Value) (c : Array Value) (o t : Nat), o + vs.length ≤ c.size → (setsA c o vs)[t]? = if o ≤ t ∧ t < o + vs.length then vs[t - o]? else c[t]?
  | [], c, o, t, _ => by
    have : ¬ (o ≤ t ∧ t < o + ([] : List Value).length) := by
      show ¬ (o ≤ t ∧ t < o + 0)
      omega
    rw [if_neg this]
    rfl
  | v :: vs, c, o, t, h => by
    have hl : (v :: vs).length = vs.length + 1 := rfl
    unfold setsA
    rw [setsA_get vs _ _ _ (by rw [Array.size_setIfInBounds]; omega), Array.getElem?_setIfInBounds]
    by_cases h1 : o = t
    · subst h1
      rw [if_neg (by omega), if_pos rfl, if_pos (by omega), if_pos (by omega), Nat.sub_self]
      rfl
    · by_cases h2 : o + 1 ≤ t ∧ t < o + 1 + vs.length
      · rw [if_pos h2, if_pos (by omega), show t - o = (t - (o + 1)) + 1 by omega]
        rfl
      · rw [if_neg h2, if_neg h1, if_neg (by omega)]
theorem setsW_blk : ∀ (vs : List Value) {w : World} {g : Nat} {t : TypeId} {c : Array Value} (o : Nat), Blk w g t c → Blk (setsW w g o vs) g t (setsA c o vs)
  | [], _, _, _, _, _, h => h
  | v :: vs, _, _, _, _, o, h => setsW_blk vs (o + 1) (h.set_ o v)
theorem setsW_far : ∀ (vs : List Value) {w : World} {g k : Nat} {t : TypeId} {c : Array Value} (o : Nat), k ≠ g → Blk w k t c → Blk (setsW w g o vs) k t c
  | [], _, _, _, _, _, _, _, h => h
  | v :: vs, _, _, _, _, _, o, hk, h => setsW_far vs (o + 1) hk (h.far hk v)
theorem setsW_ext : ∀ (vs : List Value) {w0 w : World} {g : Nat} (o : Nat), Ext w0 w → w0.heap.size ≤ g → Ext w0 (setsW w g o vs)
  | [], _, _, _, _, h, _ => h
  | v :: vs, _, _, _, o, h, hg => setsW_ext vs (o + 1) (h.setCell hg v) hg
/-- A row stored. -/
theorem Blk.rowN {w : World} {g : Nat} {t : TypeId} {rows : List (List Value)} {sz : Nat} (h : Blk w g t (rowsA rows)) (hw : ∀ r ∈ rows, r.length = sz) {k : Nat} (hk : k < rows.length) (vs : List Value) (hv : vs.length = sz) :
    Blk (setsW w g (k * sz) vs) g t (rowsA (rows.set k vs)) := by
  have e := setsW_blk vs (k * sz) h
  have hw' : ∀ r ∈ rows.set k vs, r.length = sz := fun r hr => by
    rcases List.mem_or_eq_of_mem_set hr with h | h
    · exact hw r h
    · rw [h]
      exact hv
  have hsz : k * sz + vs.length ≤ (rowsA rows).size := by
    rw [rowsA_size hw, hv]
    have : (k + 1) * sz ≤ rows.length * sz := Nat.mul_le_mul_right _ hk
    rwa [Nat.succ_mul] at this
  have q : setsA (rowsA rows) (k * sz) vs = rowsA (rows.set k vs) := rowsA_ext (sz := sz) hw' (by rw [setsA_size, rowsA_size hw, List.length_set]) fun i j r u hr hu => by
    have hj : j < sz := by
      have := (List.getElem?_eq_some_iff.1 hu).1
      rwa [hw' r (List.mem_of_getElem? hr)] at this
    rw [List.getElem?_set] at hr
    rw [setsA_get _ _ _ _ hsz]
    by_cases hik : k = i
    · subst hik
      rw [if_pos rfl, if_pos hk] at hr
      cases hr
      rw [if_pos (by omega), show k * sz + j - k * sz = j by omega]
      exact hu
    · rw [if_neg hik] at hr
      rw [if_neg (by
        rcases Nat.lt_or_ge i k with h | h
        · have : (i + 1) * sz ≤ k * sz := Nat.mul_le_mul_right _ h
          rw [Nat.succ_mul] at this
          omega
        · have : (k + 1) * sz ≤ i * sz := Nat.mul_le_mul_right _ (by omega)
          rw [Nat.succ_mul] at this
          omega)]
      exact rowsA_get hw hr hu
  rwa [q] at e
/-- Five cells of a row stored. -/
theorem Blk.row5 {w : World} {g : Nat} {t : TypeId} {rows : List (List Value)} (h : Blk w g t (rowsA rows)) (hw : ∀ r ∈ rows, r.length = 5) {k : Nat} (hk : k < rows.length) (a b c d e : Value) :
    ∃ w2, ((((w.setCell ⟨g, k * 5, none⟩ a).setCell ⟨g, k * 5 + 1, none⟩ b).setCell ⟨g, k * 5 + 2, none⟩ c).setCell ⟨g, k * 5 + 3, none⟩ d).setCell ⟨g, k * 5 + 4, none⟩ e = w2 ∧ Blk w2 g t (rowsA (rows.set k [a, b, c, d, e])) ∧
    (∀ k t' cs', k ≠ g → Blk w k t' cs' → Blk w2 k t' cs') ∧ (∀ w0, Ext w0 w → w0.heap.size ≤ g → Ext w0 w2) :=
  ⟨_, rfl, h.rowN hw hk [a, b, c, d, e] rfl, fun _ _ _ hk' hb => setsW_far [a, b, c, d, e] (k * 5) hk' hb, fun _ hE hg => setsW_ext [a, b, c, d, e] (k * 5) hE hg⟩
/-- A block of rows, as a slice. -/
theorem Blk.slice {w : World} {g : Nat} {t : TypeId} {rows : List (List Value)} {sz : Nat} (h : Blk w g t (rowsA rows)) (hw : ∀ r ∈ rows, r.length = sz) (hn : rows.length ≤ 100000) : SliceIs w (some ⟨g, 0, none⟩) rows.length rows.length sz rows :=
  ⟨rfl, Nat.le_refl _, by unfold maxLen; omega, hw, fun _ => ⟨g, 0, rfl, h.lt, fun i r hr j u hu => by
    rw [Nat.zero_add, h.cell]
    exact rowsA_get hw hr hu⟩⟩

/-! A row of the call's own, behind which its block may hold more. -/
def RowX (w : World) (g : Nat) (t : TypeId) (rows : List (List Value)) : Prop := ∃ ex, Blk w g t (rowsA rows ++ ex)
theorem RowX.ext {w w' : World} {g : Nat} {t : TypeId} {rows : List (List Value)} (h : RowX w g t rows) (e : Ext w w') : RowX w' g t rows := by
  obtain ⟨ex, hb⟩ := h
  exact ⟨ex, hb.ext e⟩
theorem RowX.drew {w : World} {g : Nat} {t : TypeId} {rows : List (List Value)} (h : RowX w g t rows) : RowX w.drew g t rows := h
theorem RowX.lt {w : World} {g : Nat} {t : TypeId} {rows : List (List Value)} (h : RowX w g t rows) : g < w.heap.size := by
  obtain ⟨ex, hb⟩ := h
  exact hb.lt
theorem RowX.frozen {w : World} {g : Nat} {t : TypeId} {rows : List (List Value)} (h : RowX w g t rows) (i : Nat) : w.frozen? ⟨g, i, none⟩ = false := by
  obtain ⟨ex, hb⟩ := h
  exact hb.frozen i
theorem RowX.cell {w : World} {g : Nat} {t : TypeId} {rows : List (List Value)} {sz : Nat} (h : RowX w g t rows) (hw : ∀ r ∈ rows, r.length = sz) {i j : Nat} {r : List Value} {u : Value} (hr : rows[i]? = some r) (hu : r[j]? = some u) : w.cell? ⟨g, i * sz + j, none⟩ = some u := by
  obtain ⟨ex, hb⟩ := h
  have h1 := rowsA_get hw hr hu
  have hlt := (Array.getElem?_eq_some_iff.1 h1).1
  rw [hb.cell, Array.getElem?_append_left hlt]
  exact h1
theorem RowX.of_own {w : World} {base g n cap : Nat} {e : TypeId} {sz : Nat} {rows : List (List Value)} (h : w.ownsRow base e sz (.slice (some ⟨g, 0, none⟩) n cap) n rows.flatten) : RowX w g e rows ∧ base ≤ g ∧ n ≤ cap ∧ cap ≤ maxLen := by
  rcases h.2 with ⟨h0, _⟩ | ⟨g', cap', cur, hv, hg, hb, h1, h2, _, h4⟩
  · cases h0
  · cases hv
    refine ⟨⟨(cur.toList.drop (n * sz)).toArray, ?_⟩, hg, h1, h2⟩
    have e : rowsA rows ++ (cur.toList.drop (n * sz)).toArray = cur := by
      unfold rowsA
      rw [← h4]
      simp
    rw [e]
    exact hb
theorem setsA_append : ∀ (vs : List Value) (c ex : Array Value) (o : Nat), o + vs.length ≤ c.size → setsA (c ++ ex) o vs = setsA c o vs ++ ex
  | [], _, _, _, _ => rfl
  | v :: vs, c, ex, o, h => by
    have hl : (v :: vs).length = vs.length + 1 := rfl
    unfold setsA
    rw [show (c ++ ex).setIfInBounds o v = c.setIfInBounds o v ++ ex from by
      rw [Array.setIfInBounds_append, if_pos (by omega)]]
    exact setsA_append vs _ ex (o + 1) (by rw [Array.size_setIfInBounds]; omega)
theorem rowsA_sets {rows : List (List Value)} {sz : Nat} (hw : ∀ r ∈ rows, r.length = sz) {k : Nat} (hk : k < rows.length) {vs : List Value} (hv : vs.length = sz) : setsA (rowsA rows) (k * sz) vs = rowsA (rows.set k vs) ∧ k * sz + vs.length ≤ (rowsA rows).size := by
  have w0 : World := default
  have hsz : k * sz + vs.length ≤ (rowsA rows).size := by
    rw [rowsA_size hw, hv]
    have : (k + 1) * sz ≤ rows.length * sz := Nat.mul_le_mul_right _ hk
    rwa [Nat.succ_mul] at this
  have hB := Blk.new w0 (rowsA rows) 0
  have h1 := hB.rowN hw hk vs hv
  have h2 := setsW_blk vs (k * sz) hB
  unfold Blk at h1 h2
  rw [h1] at h2
  injection h2 with h2
  injection h2 with h2
  exact ⟨h2.symm, hsz⟩
theorem RowX.store {w : World} {g : Nat} {t : TypeId} {rows : List (List Value)} {sz : Nat} (h : RowX w g t rows) (hw : ∀ r ∈ rows, r.length = sz) {k : Nat} (hk : k < rows.length) (vs : List Value) (hv : vs.length = sz) : RowX (setsW w g (k * sz) vs) g t (rows.set k vs) := by
  obtain ⟨ex, hb⟩ := h
  obtain ⟨q1, q2⟩ := rowsA_sets hw hk hv
  refine ⟨ex, ?_⟩
  have := setsW_blk vs (k * sz) hb
  rwa [setsA_append _ _ _ _ q2, q1] at this
theorem RowX.slice {w : World} {g : Nat} {t : TypeId} {rows : List (List Value)} {sz n cap : Nat} (h : RowX w g t rows) (hw : ∀ r ∈ rows, r.length = sz) (hn : rows.length = n) (h1 : n ≤ cap) (h2 : cap ≤ maxLen) : SliceIs w (some ⟨g, 0, none⟩) n cap sz rows :=
  ⟨hn, h1, h2, hw, fun _ => ⟨g, 0, rfl, h.lt, fun i r hr j u hu => by
    rw [Nat.zero_add]
    exact h.cell hw hr hu⟩⟩
/-- A slice that is not empty, cell by cell. -/
theorem SliceIs.adds {w : World} {A : Option Addr} {n cap sz : Nat} {rows : List (List Value)} (h : SliceIs w A n cap sz rows) (hn : 0 < n) (hsz : 0 < sz) : ∃ b off, A = some ⟨b, off, none⟩ ∧ ∀ j u, rows.flatten[j]? = some u → w.cell? ((⟨b, off, none⟩ : Addr).add j) = some u := by
  obtain ⟨b, off, hA, _, hc⟩ := h.cells hn
  refine ⟨b, off, hA, fun j u hu => ?_⟩
  have e : j / sz * sz + j % sz = j := Nat.div_add_mod' j sz
  rw [← e, rowsF_get h.wide (Nat.mod_lt _ hsz)] at hu
  obtain ⟨r, hr, hu⟩ := Option.bind_eq_some_iff.1 hu
  have := hc _ _ hr _ _ hu
  rw [Nat.add_assoc, e] at this
  unfold Addr.add
  split
  · subst_vars
    exact this
  · exact this
end Go.Proofs.Ytenigkngmdofiaa

namespace Go.Proofs.Ytenigkngmdofiaa
open Go.Shelf

def sortCells_ren : Go.Shelf.Ren := ⟨fun | 6 => 92 | 15 => 95 | 14 => 106 | 28 => 115 | 29 => 116 | 20 => 117 | 21 => 118 | 22 => 119 | 23 => 120 | 24 => 121 | 25 => 122 | 26 => 123 | 27 => 124 | 46 => 130 | 47 => 126 | 48 => 127 | 49 => 131 | 50 => 132 | 57 => 134 | n => n, fun | 22 => 36 | 24 => 23 | 25 => 107 | 3 => 3 | 39 => 148 | 0 => 0 | 53 => 160 | 55 => 162 | 4 => 4 | 46 => 153 | 45 => 152 | 50 => 157 | 5 => 5 | 9 => 9 | 66 => 168 | 70 => 172 | 76 => 176 | 77 => 31 | n => n, fun | n => n⟩
theorem sortCells : SlLaysF0.n6 Try.prog sortCells_ren := {
  mixed := by kernel_rfl,
  f6 := ⟨Try.f92.name, by decide, Try.func92.trans (congrArg some (by kernel_rfl))⟩,
  f14 := ⟨Try.f106.name, by decide, Try.func106.trans (congrArg some (by kernel_rfl))⟩,
  f15 := Try.func95.trans (congrArg some (by kernel_rfl)),
  f20 := ⟨Try.f117.name, by decide, Try.func117.trans (congrArg some (by kernel_rfl))⟩,
  f21 := ⟨Try.f118.name, by decide, Try.func118.trans (congrArg some (by kernel_rfl))⟩,
  f22 := ⟨Try.f119.name, by decide, Try.func119.trans (congrArg some (by kernel_rfl))⟩,
  f23 := ⟨Try.f120.name, by decide, Try.func120.trans (congrArg some (by kernel_rfl))⟩,
  f24 := ⟨Try.f121.name, by decide, Try.func121.trans (congrArg some (by kernel_rfl))⟩,
  f25 := ⟨Try.f122.name, by decide, Try.func122.trans (congrArg some (by kernel_rfl))⟩,
  f26 := ⟨Try.f123.name, by decide, Try.func123.trans (congrArg some (by kernel_rfl))⟩,
  f27 := ⟨Try.f124.name, by decide, Try.func124.trans (congrArg some (by kernel_rfl))⟩,
  f28 := Try.func115.trans (congrArg some (by kernel_rfl)),
  f29 := Try.func116.trans (congrArg some (by kernel_rfl)),
  f46 := ⟨Try.f130.name, by decide, Try.func130.trans (congrArg some (by kernel_rfl))⟩,
  f47 := Try.func126.trans (congrArg some (by kernel_rfl)),
  f48 := Try.func127.trans (congrArg some (by kernel_rfl)),
  f49 := ⟨Try.f131.name, by decide, Try.func131.trans (congrArg some (by kernel_rfl))⟩,
  f50 := ⟨Try.f132.name, by decide, Try.func132.trans (congrArg some (by kernel_rfl))⟩,
  f57 := ⟨Try.f134.name, by decide, Try.func134.trans (congrArg some (by kernel_rfl))⟩,
  t0 := Try.underlying0,
  a0 := Try.isAgg0,
  z0 := Try.sizeOf0,
  v0 := Try.zeroValue0,
  t3 := Try.underlying3,
  a3 := Try.isAgg3,
  z3 := Try.sizeOf3,
  v3 := Try.zeroValue3,
  t4 := Try.underlying4,
  a4 := Try.isAgg4,
  z4 := Try.sizeOf4,
  v4 := Try.zeroValue4,
  t5 := Try.underlying5,
  a5 := Try.isAgg5,
  z5 := Try.sizeOf5,
  v5 := Try.zeroValue5,
  t9 := Try.underlying9,
  a9 := Try.isAgg9,
  z9 := Try.sizeOf9,
  v9 := Try.zeroValue9,
  t22 := Try.underlying36,
  a22 := Try.isAgg36,
  z22 := Try.sizeOf36,
  v22 := Try.zeroValue36,
  t25 := Try.underlying107,
  a25 := Try.isAgg107,
  z25 := Try.sizeOf107,
  v25 := Try.zeroValue107,
  t39 := Try.underlying148,
  a39 := Try.isAgg148,
  z39 := Try.sizeOf148,
  v39 := Try.zeroValue148,
  t45 := Try.underlying152,
  a45 := Try.isAgg152,
  z45 := Try.sizeOf152,
  v45 := Try.zeroValue152,
  t46 := Try.underlying153,
  a46 := Try.isAgg153,
  z46 := Try.sizeOf153,
  v46 := Try.zeroValue153,
  t50 := Try.underlying157,
  a50 := Try.isAgg157,
  z50 := Try.sizeOf157,
  v50 := Try.zeroValue157,
  t53 := Try.underlying160,
  a53 := Try.isAgg160,
  z53 := Try.sizeOf160,
  v53 := Try.zeroValue160,
  t55 := Try.underlying162,
  a55 := Try.isAgg162,
  z55 := Try.sizeOf162,
  v55 := Try.zeroValue162,
  t66 := Try.underlying168,
  a66 := Try.isAgg168,
  z66 := Try.sizeOf168,
  v66 := Try.zeroValue168,
  t70 := Try.underlying172,
  a70 := Try.isAgg172,
  z70 := Try.sizeOf172,
  v70 := Try.zeroValue172,
  t76 := Try.underlying176,
  a76 := Try.isAgg176,
  z76 := Try.sizeOf176,
  v76 := Try.zeroValue176,
  t77 := Try.underlying31,
  a77 := Try.isAgg31,
  z77 := Try.sizeOf31,
  v77 := Try.zeroValue31 }
end Go.Proofs.Ytenigkngmdofiaa
