/- step, Step, direction: the six directions. What a world that has only grown keeps, as rules for the walk. cmp.Compare at int and uint8, cmp.Or at int; the order of cells, in the program and in the reference. No conditions. Lists of cells in memory; plus, minus; whether a list has a cell: slices.Contains in the program, Has in the reference. No conditions but on the size of sums. Kinds, in memory and by themselves: which are valid. CheckKind of the program: the error of a kind. No conditions. -/
import Derived.Test.YtenigkngmdofiaaLm1
import Derived.Deep.CutRange
import Derived.Deep.DeepCutAuto
import Derived.BigQuiet

namespace Go.Proofs.Ytenigkngmdofiaa
open Go.RowKit

/-- The step along a direction. -/
def stepS (d : Nat) : Pt :=
  match d with
  | 0 => ⟨1, 0, 0⟩
  | 1 => ⟨-1, 0, 0⟩
  | 2 => ⟨0, 1, 0⟩
  | 3 => ⟨0, -1, 0⟩
  | 4 => ⟨0, 0, 1⟩
  | _ => ⟨0, 0, -1⟩
theorem stepS_ok (d : Nat) : (stepS d).ok := by
  unfold stepS
  split <;> (unfold Pt.ok CB; simp)

def Pt.eqB (a b : Pt) : Bool := a.x == b.x && (a.y == b.y && a.z == b.z)
theorem Pt.eqB_iff {a b : Pt} : a.eqB b = true ↔ a = b := by
  cases a
  cases b
  simp [Pt.eqB]
theorem pt_eql (a b c d e f : Int) (w : World) : (binOp .eql 23 (.agg #[.int .i64 a, .int .i64 b, .int .i64 c]) (.agg #[.int .i64 d, .int .i64 e, .int .i64 f])).run Try.prog w = .ok (.bool (Pt.eqB ⟨a, b, c⟩ ⟨d, e, f⟩)) w := by
  unfold Pt.eqB
  by_cases h1 : a = d <;> by_cases h2 : b = e <;> by_cases h3 : c = f <;> simp [go_sem, h1, h2, h3]
theorem pt_neq (a b c d e f : Int) (w : World) : (binOp .neq 23 (.agg #[.int .i64 a, .int .i64 b, .int .i64 c]) (.agg #[.int .i64 d, .int .i64 e, .int .i64 f])).run Try.prog w = .ok (.bool (!Pt.eqB ⟨a, b, c⟩ ⟨d, e, f⟩)) w := by
  unfold Pt.eqB
  by_cases h1 : a = d <;> by_cases h2 : b = e <;> by_cases h3 : c = f <;> simp [go_sem, h1, h2, h3]
theorem stepS_inj {a b : Nat} (ha : a < 6) (hb : b < 6) (h : stepS a = stepS b) : a = b := by
  have e1 : a = 0 ∨ a = 1 ∨ a = 2 ∨ a = 3 ∨ a = 4 ∨ a = 5 := by omega
  have e2 : b = 0 ∨ b = 1 ∨ b = 2 ∨ b = 3 ∨ b = 4 ∨ b = 5 := by omega
  rcases e1 with rfl | rfl | rfl | rfl | rfl | rfl <;> rcases e2 with rfl | rfl | rfl | rfl | rfl | rfl <;> first | rfl | (exfalso; simp [stepS] at h)

set_option maxHeartbeats 1600000 in
theorem step_c (d : Nat) (hd : d < 6) (w : World) :
    Calls Try.prog 48 #[.int .i64 d] w fun e w' => e = .returned (.agg #[.int .i64 (stepS d).x, .int .i64 (stepS d).y, .int .i64 (stepS d).z]) ∧ Ext w w' := by
  have hi : ∀ (a b c : Int) (w : World), (Instr.index 137 (.agg #[.int .i64 a, .int .i64 0, .int .i64 0, .int .i64 0, .int .i64 b, .int .i64 0, .int .i64 0, .int .i64 0, .int .i64 c]) (.int .i64 0)).run Try.prog w = .ok (.agg #[.int .i64 a, .int .i64 0, .int .i64 0]) w := fun _ _ _ _ => by kernel_rfl
  have hj : ∀ (a b c : Int) (w : World), (Instr.index 137 (.agg #[.int .i64 a, .int .i64 0, .int .i64 0, .int .i64 0, .int .i64 b, .int .i64 0, .int .i64 0, .int .i64 0, .int .i64 c]) (.int .i64 1)).run Try.prog w = .ok (.agg #[.int .i64 0, .int .i64 b, .int .i64 0]) w := fun _ _ _ _ => by kernel_rfl
  have hk : ∀ (a b c : Int) (w : World), (Instr.index 137 (.agg #[.int .i64 a, .int .i64 0, .int .i64 0, .int .i64 0, .int .i64 b, .int .i64 0, .int .i64 0, .int .i64 0, .int .i64 c]) (.int .i64 2)).run Try.prog w = .ok (.agg #[.int .i64 0, .int .i64 0, .int .i64 c]) w := fun _ _ _ _ => by kernel_rfl
  have e1 : d = 0 ∨ d = 1 ∨ d = 2 ∨ d = 3 ∨ d = 4 ∨ d = 5 := by omega
  rcases e1 with rfl | rfl | rfl | rfl | rfl | rfl
  all_goals
    go_enter Try.func48, Try.ntmps48
    go_wp2
    refine bodyPost_ret (v := .agg #[.int .i64 (stepS _).x, .int .i64 (stepS _).y, .int .i64 (stepS _).z]) ?_ rfl ⟨rfl, by apply_rules [Ext.refl, Ext.alloc]⟩
    simp [results, Try.results48, go_sem, stepS]

set_option maxHeartbeats 1600000 in
theorem rstep_c (d : Nat) (hd : d < 6) (w : World) :
    Calls Try.prog 81 #[.int .i64 d] w fun e w' => e = .returned (.agg #[.int .i64 (stepS d).x, .int .i64 (stepS d).y, .int .i64 (stepS d).z]) ∧ Ext w w' := by
  have e1 : d = 0 ∨ d = 1 ∨ d = 2 ∨ d = 3 ∨ d = 4 ∨ d = 5 := by omega
  rcases e1 with rfl | rfl | rfl | rfl | rfl | rfl
  all_goals
    go_enter Try.func81, Try.ntmps81
    go_wp2
    refine bodyPost_ret (v := .agg #[.int .i64 (stepS _).x, .int .i64 (stepS _).y, .int .i64 (stepS _).z]) ?_ rfl ⟨rfl, by apply_rules [Ext.refl, Ext.alloc]⟩
    simp [results, Try.results81, go_sem, stepS]

set_option maxHeartbeats 1600000 in
theorem direction_c (d : Nat) (hd : d < 6) (w : World) :
    Calls Try.prog 47 #[.agg #[.int .i64 (stepS d).x, .int .i64 (stepS d).y, .int .i64 (stepS d).z]] w fun e w' => e = .returned (.int .i64 d) ∧ Ext w w' := by
  obtain ⟨W, hW, E, ba, hz⟩ := boxes1 w #[.int .i64 (stepS d).x, .int .i64 (stepS d).y, .int .i64 (stepS d).z] 23
  have B : Blk W w.heap.size 23 #[.int .i64 (stepS d).x, .int .i64 (stepS d).y, .int .i64 (stepS d).z] := by rw [← hW]; exact Blk.new _ _ _
  go_enter Try.func47, Try.ntmps47
  go_wp2
  go_loopw [4] (fun i wr => ∃ k : Nat, k ≤ d ∧ i = .int .i64 k ∧ Ext W wr) (fun i _ => 6 - (intOf i).toNat)
  case atStart => exact ⟨0, by omega, rfl, Ext.refl _⟩
  case round =>
    obtain ⟨k, hk, rfl, E1⟩ := hrel
    have c := (B.ext E1).cell
    have hq : ∀ w, (binOp .eql 23 (.agg #[.int .i64 (stepS k).x, .int .i64 (stepS k).y, .int .i64 (stepS k).z]) (.agg #[.int .i64 (stepS d).x, .int .i64 (stepS d).y, .int .i64 (stepS d).z])).run Try.prog w = .ok (.bool (decide (k = d))) w := fun w => by
      rw [pt_eql]
      have : Pt.eqB (stepS k) (stepS d) = decide (k = d) := by
        by_cases h : k = d
        · subst h
          simp [Pt.eqB]
        · simp only [h, decide_false]
          rw [Bool.eq_false_iff]
          intro h'
          exact h (stepS_inj (by omega) hd (Pt.eqB_iff.1 h'))
      exact congrArg (fun b => Result.ok (Value.bool b) w) this
    by_cases hkd : k = d
    · have hkd' : decide (k = d) = true := by simp [hkd]
      simp only [hkd'] at hq
      clear hkd'
      have Hkd := Lib.hid hkd
      clear hkd
      go_wp2
      refine wp_region_grow (by kernel_rfl) (by kernel_rfl) ?_
      repeat (go_big_quiet_step ((go_at_call 48; exact quiet_ext (step_c k (by omega) _))))
      refine wpQuiet_nil ?_
      intro W2 hW2
      have E2 : Ext wr W2 := by
        obtain ⟨x, rfl⟩ := hW2
        exact (Ext.refl _).grow x
      clear hW2
      go_wp2
      go_ret
      exact ⟨by rw [Hkd.out]; rfl, (E.trans E1).trans E2⟩
    · have hkd' : decide (k = d) = false := by simp [hkd]
      simp only [hkd'] at hq
      clear hkd'
      go_wp2
      refine wp_region_grow (by kernel_rfl) (by kernel_rfl) ?_
      repeat (go_big_quiet_step ((go_at_call 48; exact quiet_ext (step_c k (by omega) _))))
      refine wpQuiet_nil ?_
      intro W2 hW2
      have E2 : Ext wr W2 := by
        obtain ⟨x, rfl⟩ := hW2
        exact (Ext.refl _).grow x
      clear hW2
      go_wp2
      go_roundw
      case rel => exact ⟨k + 1, by omega, by go_num, E1.trans E2⟩
      case measure => simp [intOf]; omega
end Go.Proofs.Ytenigkngmdofiaa

namespace Go.Proofs.Ytenigkngmdofiaa
open Go.RowKit

theorem ext_facts {w w' : World} (E : Ext w w') :
    (∀ a, (w.cell? a).isSome = true → w'.cell? a = w.cell? a) ∧ (∀ a, (w.cell? a).isSome = true → w'.frozen? a = w.frozen? a) ∧ w.heap.size ≤ w'.heap.size := by
  refine ⟨fun a h => ?_, fun a h => ?_, E.size⟩
  · obtain ⟨u, hu⟩ := Option.isSome_iff_exists.1 h
    rw [hu]
    exact E.cell hu
  · obtain ⟨u, hu⟩ := Option.isSome_iff_exists.1 h
    exact E.frozen (World.block_lt_of_cell? w a hu)

/-! A loop that may leave early, as a fold that may fail. -/
section
variable {α : Type}
/-- k rounds of a step that may fail. -/
def runs (f : Nat → α → Option α) : Nat → α → Option α
  | 0, a => some a
  | k + 1, a => (runs f k a).bind (f k)
theorem runs_none {f : Nat → α → Option α} {a : α} {k n : Nat} (h : runs f k a = none) (hk : k ≤ n) : runs f n a = none := by
  induction n with
  | zero =>
    obtain rfl : k = 0 := by omega
    exact h
  | succ n ih =>
    rcases Nat.lt_or_ge n k with h' | h'
    · obtain rfl : k = n + 1 := by omega
      exact h
    · show (runs f n a).bind (f n) = none
      rw [ih h']
      rfl
theorem runs_fail {f : Nat → α → Option α} {a b : α} {k n : Nat} (h : runs f k a = some b) (hf : f k b = none) (hk : k < n) : runs f n a = none :=
  runs_none (k := k + 1) (by show (runs f k a).bind (f k) = none; rw [h]; exact hf) hk
theorem runs_succ {f : Nat → α → Option α} {a b : α} {k : Nat} (h : runs f k a = some b) : runs f (k + 1) a = f k b := by
  show (runs f k a).bind (f k) = _
  rw [h]
  rfl
theorem runs_prefix {f : Nat → α → Option α} {a b : α} {k n : Nat} (h : runs f n a = some b) (hk : k ≤ n) : ∃ c, runs f k a = some c := by
  cases hc : runs f k a with
  | some c => exact ⟨c, rfl⟩
  | none => rw [runs_none hc hk] at h; cases h
end
end Go.Proofs.Ytenigkngmdofiaa

namespace Go.Proofs.Ytenigkngmdofiaa
open Go.RowKit

/-- A block made: the new world under one name. -/
theorem mk_ (w : World) (ca : Array Value) (ta : TypeId) : ∃ W, w.alloc (.cells ca ta) = W ∧ Ext w W ∧ Blk W w.heap.size ta ca ∧ W.heap.size = w.heap.size + 1 :=
  ⟨_, rfl, (Ext.refl w).alloc _, Blk.new _ _ _, by simp⟩

def ordZ (a b : Int) : Int := if a < b then -1 else if b < a then 1 else 0
theorem ordZ_lt {a b : Int} (h : a < b) : ordZ a b = -1 := if_pos h
theorem ordZ_gt {a b : Int} (h : b < a) : ordZ a b = 1 := by rw [ordZ, if_neg (by omega), if_pos h]
theorem ordZ_eq {a b : Int} (h : a = b) : ordZ a b = 0 := by rw [ordZ, if_neg (by omega), if_neg (by omega)]
theorem nanZ_c (a : Int) (w : World) : Calls Try.prog 103 #[.int .i64 a] w fun e w' => e = .returned (.bool false) ∧ w = w' := by
  go_enter Try.func103, Try.ntmps103
  go_wp2
  go_ret
  exact ⟨by simp, rfl⟩
theorem nanU_c (a : Int) (w : World) : Calls Try.prog 85 #[.int .u8 a] w fun e w' => e = .returned (.bool false) ∧ w = w' := by
  go_enter Try.func85, Try.ntmps85
  go_wp2
  go_ret
  exact ⟨by simp, rfl⟩
set_option maxHeartbeats 400000 in
theorem cmpZ_c (a b : Int) (w : World) : Calls Try.prog 83 #[.int .i64 a, .int .i64 b] w fun e w' => e = .returned (.int .i64 (ordZ a b)) ∧ w = w' := by
  by_cases h1 : a < b
  · have Hc := Lib.hid (ordZ_lt h1)
    go_enter Try.func83, Try.ntmps83
    go_wp2_with (go_at_call 103; refine (nanZ_c _ _).mono ?_; rintro e w' ⟨rfl, rfl⟩)
    go_ret
    exact ⟨by rw [Hc.out]; rfl, rfl⟩
  · by_cases h2 : b < a
    · have Hc := Lib.hid (ordZ_gt h2)
      go_enter Try.func83, Try.ntmps83
      go_wp2_with (go_at_call 103; refine (nanZ_c _ _).mono ?_; rintro e w' ⟨rfl, rfl⟩)
      go_ret
      exact ⟨by rw [Hc.out]; rfl, rfl⟩
    · have Hc := Lib.hid (ordZ_eq (show a = b by omega))
      go_enter Try.func83, Try.ntmps83
      go_wp2_with (go_at_call 103; refine (nanZ_c _ _).mono ?_; rintro e w' ⟨rfl, rfl⟩)
      go_ret
      exact ⟨by rw [Hc.out]; rfl, rfl⟩
set_option maxHeartbeats 400000 in
theorem cmpU_c (a b : Int) (w : World) : Calls Try.prog 59 #[.int .u8 a, .int .u8 b] w fun e w' => e = .returned (.int .i64 (ordZ a b)) ∧ w = w' := by
  by_cases h1 : a < b
  · have Hc := Lib.hid (ordZ_lt h1)
    go_enter Try.func59, Try.ntmps59
    go_wp2_with (go_at_call 85; refine (nanU_c _ _).mono ?_; rintro e w' ⟨rfl, rfl⟩)
    go_ret
    exact ⟨by rw [Hc.out]; rfl, rfl⟩
  · by_cases h2 : b < a
    · have Hc := Lib.hid (ordZ_gt h2)
      go_enter Try.func59, Try.ntmps59
      go_wp2_with (go_at_call 85; refine (nanU_c _ _).mono ?_; rintro e w' ⟨rfl, rfl⟩)
      go_ret
      exact ⟨by rw [Hc.out]; rfl, rfl⟩
    · have Hc := Lib.hid (ordZ_eq (show a = b by omega))
      go_enter Try.func59, Try.ntmps59
      go_wp2_with (go_at_call 85; refine (nanU_c _ _).mono ?_; rintro e w' ⟨rfl, rfl⟩)
      go_ret
      exact ⟨by rw [Hc.out]; rfl, rfl⟩
/-- The first one that is not 0. -/
def orL : List Int → Int
  | [] => 0
  | x :: xs => if x = 0 then orL xs else x
theorem orL_drop {xs : List Int} {k : Nat} {n : Int} (h : xs[k]? = some n) : orL (xs.drop k) = if n = 0 then orL (xs.drop (k + 1)) else n := by
  obtain ⟨hk, hn⟩ := List.getElem?_eq_some_iff.1 h
  rw [List.drop_eq_getElem_cons hk, hn]
  rfl
set_option maxHeartbeats 800000 in
theorem orL_c (A : Option Addr) (cap : Nat) (xs : List Int) (w : World) (hs : SliceIs w A xs.length cap 1 (xs.map fun n => [.int .i64 n])) :
    Calls Try.prog 58 #[.slice A xs.length cap] w fun e w' => e = .returned (.int .i64 (orL xs)) ∧ w = w' := by
  have hl : xs.length ≤ 9223372036854775807 := by have := hs.le; have := hs.small; unfold maxLen at this; omega
  go_enter Try.func58, Try.ntmps58
  go_wp2
  go_loop [8] (fun i => ∃ k : Nat, k ≤ xs.length ∧ i = .int .i64 k ∧ orL xs = orL (xs.drop k)) (fun i => xs.length - (intOf i).toNat)
  case atStart => exact ⟨0, by omega, rfl, rfl⟩
  case round =>
    obtain ⟨k, hk, rfl, hj⟩ := hrel
    have Hj := Lib.hid hj
    clear hj
    by_cases hlt : k < xs.length
    · obtain ⟨b, off, rfl, hb, hc⟩ := hs.cells (by omega)
      obtain ⟨n, hn⟩ : ∃ n, xs[k]? = some n := ⟨_, List.getElem?_eq_getElem hlt⟩
      have hc0 := hc k [.int .i64 n] (by rw [List.getElem?_map, hn]; rfl) 0 _ rfl
      have Hd := Lib.hid (orL_drop hn)
      clear hn hc
      simp only [Nat.mul_one, Nat.add_zero] at hc0
      by_cases h1 : n = 0
      · subst h1
        go_wp2
        go_round
        case rel => exact ⟨k + 1, by omega, by go_num, by rw [Hj.out, Hd.out, if_pos rfl]⟩
        case measure => simp [intOf]; omega
      · have h2 : (n != 0) = true := by simpa using h1
        have Hn := Lib.hid h1
        clear h1
        go_wp2
        go_ret
        exact ⟨by rw [Hj.out, Hd.out, if_neg Hn.out]; rfl, rfl⟩
    · obtain rfl : xs.length = k := by omega
      go_wp2
      go_ret
      exact ⟨by rw [Hj.out, List.drop_length]; rfl, rfl⟩
/-- Numbers in a new block, as a list of numbers. -/
theorem ints_new (w : World) (xs : List Int) (t : TypeId) (h : xs.length ≤ 100) : SliceIs (w.alloc (.cells (xs.map (Value.int .i64)).toArray t)) (some ⟨w.heap.size, 0, none⟩) xs.length xs.length 1 (xs.map fun n => [.int .i64 n]) := by
  refine ⟨by simp, Nat.le_refl _, by unfold maxLen; omega, by simp, fun _ => ⟨_, 0, rfl, by simp, fun i r hr j u hu => ?_⟩⟩
  rw [List.getElem?_map] at hr
  obtain ⟨n, hn, rfl⟩ := Option.map_eq_some_iff.1 hr
  have hj : j = 0 := by
    rcases Nat.eq_zero_or_pos j with h | h
    · exact h
    · rw [List.getElem?_eq_none (by simp; omega)] at hu; cases hu
  subst hj
  simp at hu
  subst hu
  rw [cell_new]
  simp [hn]
theorem or2_c (a b : Int) (w : World) (t : TypeId) : Calls Try.prog 58 #[.slice (some ⟨w.heap.size, 0, none⟩) 2 2] (w.alloc (.cells #[.int .i64 a, .int .i64 b] t)) fun e w' => e = .returned (.int .i64 (orL [a, b])) ∧ w.alloc (.cells #[.int .i64 a, .int .i64 b] t) = w' :=
  orL_c _ 2 [a, b] _ (ints_new w [a, b] t (by simp))
theorem or3_c (a b c : Int) (w : World) (t : TypeId) : Calls Try.prog 58 #[.slice (some ⟨w.heap.size, 0, none⟩) 3 3] (w.alloc (.cells #[.int .i64 a, .int .i64 b, .int .i64 c] t)) fun e w' => e = .returned (.int .i64 (orL [a, b, c])) ∧ w.alloc (.cells #[.int .i64 a, .int .i64 b, .int .i64 c] t) = w' :=
  orL_c _ 3 [a, b, c] _ (ints_new w [a, b, c] t (by simp))

/-! The order of cells. -/
def ltP (p q : Pt) : Bool := decide (p.z < q.z) || (decide (p.z = q.z) && (decide (p.y < q.y) || (decide (p.y = q.y) && decide (p.x < q.x))))
theorem ltP_iff {p q : Pt} : ltP p q = true ↔ p.z < q.z ∨ (p.z = q.z ∧ (p.y < q.y ∨ (p.y = q.y ∧ p.x < q.x))) := by simp [ltP]
theorem ltP_not {p q : Pt} : ltP p q = false ↔ ¬ (p.z < q.z ∨ (p.z = q.z ∧ (p.y < q.y ∨ (p.y = q.y ∧ p.x < q.x)))) := by rw [← ltP_iff, Bool.not_eq_true]
def ordP (p q : Pt) : Int := orL [ordZ p.z q.z, ordZ p.y q.y, ordZ p.x q.x]
theorem ordP_cases (p q : Pt) : (ltP p q = true ∧ ordP p q = -1) ∨ (p = q ∧ ordP p q = 0) ∨ (ltP q p = true ∧ ordP p q = 1) := by
  obtain ⟨a, b, c⟩ := p
  obtain ⟨d, e, f⟩ := q
  rw [ltP_iff, ltP_iff]
  unfold ordP orL
  rcases Int.lt_trichotomy c f with h | h | h
  · left
    rw [ordZ_lt h]
    exact ⟨Or.inl h, rfl⟩
  · rw [ordZ_eq h, if_pos rfl]
    unfold orL
    rcases Int.lt_trichotomy b e with h2 | h2 | h2
    · left
      rw [ordZ_lt h2]
      exact ⟨Or.inr ⟨h, Or.inl h2⟩, rfl⟩
    · rw [ordZ_eq h2, if_pos rfl]
      unfold orL
      rcases Int.lt_trichotomy a d with h3 | h3 | h3
      · left
        rw [ordZ_lt h3]
        exact ⟨Or.inr ⟨h, Or.inr ⟨h2, h3⟩⟩, rfl⟩
      · right; left
        rw [ordZ_eq h3]
        subst h h2 h3
        exact ⟨rfl, rfl⟩
      · right; right
        rw [ordZ_gt h3]
        exact ⟨Or.inr ⟨h.symm, Or.inr ⟨h2.symm, h3⟩⟩, rfl⟩
    · right; right
      rw [ordZ_gt h2]
      exact ⟨Or.inr ⟨h.symm, Or.inl h2⟩, rfl⟩
  · right; right
    rw [ordZ_gt h]
    exact ⟨Or.inl h, rfl⟩
theorem ltP_irrefl (p : Pt) : ltP p p = false := by rw [ltP_not]; omega
theorem ltP_trans {p q r : Pt} (h : ltP p q = true) (k : ltP q r = true) : ltP p r = true := by rw [ltP_iff] at *; omega
theorem ltP_anti {p q : Pt} (h : ltP p q = true) : ltP q p = false := by rw [ltP_iff] at h; rw [ltP_not]; omega
theorem ordP_neg (p q : Pt) : ordP p q < 0 ↔ ltP p q = true := by
  rcases ordP_cases p q with ⟨h, e⟩ | ⟨rfl, e⟩ | ⟨h, e⟩
  · rw [e]; simp [h]
  · rw [e, ltP_irrefl]; simp
  · rw [e, ltP_anti h]; simp
theorem ordP_zero (p q : Pt) : ordP p q = 0 ↔ p = q := by
  rcases ordP_cases p q with ⟨h, e⟩ | ⟨rfl, e⟩ | ⟨h, e⟩
  · rw [e]
    refine ⟨(fun h => by cases h), fun h' => ?_⟩
    subst h'
    rw [ltP_irrefl] at h
    cases h
  · simp [e]
  · rw [e]
    refine ⟨(fun h => by cases h), fun h' => ?_⟩
    subst h'
    rw [ltP_irrefl] at h
    cases h
set_option maxHeartbeats 1600000 in
theorem order_c (a b c d e f : Int) (w : World) :
    Calls Try.prog 55 #[.agg #[.int .i64 a, .int .i64 b, .int .i64 c], .agg #[.int .i64 d, .int .i64 e, .int .i64 f]] w fun v w' => v = .returned (.int .i64 (ordP ⟨a, b, c⟩ ⟨d, e, f⟩)) ∧ Ext w w' := by
  obtain ⟨W1, hW1, E1, B1, hz1⟩ := mk_ w #[.int .i64 a, .int .i64 b, .int .i64 c] 23
  obtain ⟨W2, hW2, E2, B2, hz2⟩ := mk_ W1 #[.int .i64 d, .int .i64 e, .int .i64 f] 23
  have B1' := B1.ext E2
  rw [hz1] at B2
  have b1 := B1'.cell
  have b2 := B2.cell
  have E := E1.trans E2
  go_enter Try.func55, Try.ntmps55
  go_upto_region 1 with (fail)
  clear hW1 hW2 hz1 hz2 B1 E1 E2
  refine wp_region_tail 15 (by kernel_rfl) (by kernel_rfl) ?_
  simp only [List.take_succ_cons, List.take_zero, List.drop_succ_cons, List.drop_zero]
  repeat (go_big_quiet_step (((go_at_call 83; exact quiet_grow_same (cmpZ_c _ _ _)))))
  refine wpQuiet_nil ?_
  intro W3 hW3
  have E3 : Ext W2 W3 := by
    obtain ⟨x, rfl⟩ := hW3
    exact (Ext.refl _).grow x
  clear hW3
  obtain ⟨hcW3, hfW3, hzW3⟩ := ext_facts E3
  go_wp2_with fail
  refine (or3_c _ _ _ _ _).mono ?_
  rintro v w4 ⟨rfl, rfl⟩
  go_wp2_with fail
  go_ret
  exact ⟨rfl, (E.trans E3).alloc _⟩
set_option maxHeartbeats 1600000 in
theorem rBefore_c (a b c d e f : Int) (w : World) :
    Calls Try.prog 86 #[.agg #[.int .i64 a, .int .i64 b, .int .i64 c], .agg #[.int .i64 d, .int .i64 e, .int .i64 f]] w fun v w' => v = .returned (.bool (ltP ⟨a, b, c⟩ ⟨d, e, f⟩)) ∧ Ext w w' := by
  obtain ⟨W1, hW1, E1, B1, hz1⟩ := mk_ w #[.int .i64 a, .int .i64 b, .int .i64 c] 23
  obtain ⟨W2, hW2, E2, B2, hz2⟩ := mk_ W1 #[.int .i64 d, .int .i64 e, .int .i64 f] 23
  have B1' := B1.ext E2
  rw [hz1] at B2
  have b1 := B1'.cell
  have b2 := B2.cell
  have E := E1.trans E2
  by_cases h1 : c < f
  · have Hv := Lib.hid (show ltP ⟨a, b, c⟩ ⟨d, e, f⟩ = true from ltP_iff.2 (Or.inl h1))
    go_enter Try.func86, Try.ntmps86
    go_wp2_with fail
    go_ret
    exact ⟨by rw [Hv.out]; rfl, E⟩
  by_cases h2 : c = f
  rotate_left
  · have Hv := Lib.hid (show ltP ⟨a, b, c⟩ ⟨d, e, f⟩ = false from ltP_not.2 (by show ¬ (c < f ∨ (c = f ∧ _)); omega))
    go_enter Try.func86, Try.ntmps86
    go_wp2_with fail
    go_ret
    exact ⟨by rw [Hv.out]; rfl, E⟩
  subst h2
  by_cases h3 : b < e
  · have Hv := Lib.hid (show ltP ⟨a, b, c⟩ ⟨d, e, c⟩ = true from ltP_iff.2 (Or.inr ⟨rfl, Or.inl h3⟩))
    go_enter Try.func86, Try.ntmps86
    go_wp2_with fail
    go_ret
    exact ⟨by rw [Hv.out]; rfl, E⟩
  by_cases h4 : b = e
  rotate_left
  · have Hv := Lib.hid (show ltP ⟨a, b, c⟩ ⟨d, e, c⟩ = false from ltP_not.2 (by show ¬ (c < c ∨ (c = c ∧ (b < e ∨ (b = e ∧ _)))); omega))
    go_enter Try.func86, Try.ntmps86
    go_wp2_with fail
    go_ret
    exact ⟨by rw [Hv.out]; rfl, E⟩
  subst h4
  by_cases h5 : a < d
  · have Hv := Lib.hid (show ltP ⟨a, b, c⟩ ⟨d, b, c⟩ = true from ltP_iff.2 (Or.inr ⟨rfl, Or.inr ⟨rfl, h5⟩⟩))
    go_enter Try.func86, Try.ntmps86
    go_wp2_with fail
    go_ret
    exact ⟨by rw [Hv.out]; rfl, E⟩
  · have Hv := Lib.hid (show ltP ⟨a, b, c⟩ ⟨d, b, c⟩ = false from ltP_not.2 (by show ¬ (c < c ∨ (c = c ∧ (b < b ∨ (b = b ∧ a < d)))); omega))
    go_enter Try.func86, Try.ntmps86
    go_wp2_with fail
    go_ret
    exact ⟨by rw [Hv.out]; rfl, E⟩
end Go.Proofs.Ytenigkngmdofiaa

namespace Go.Proofs.Ytenigkngmdofiaa
open Go.RowKit

def Pt.cs (p : Pt) : List Value := [.int .i64 p.x, .int .i64 p.y, .int .i64 p.z]
def Cells (w : World) (A : Option Addr) (cap : Nat) (l : List Pt) : Prop := SliceIs w A l.length cap 3 (l.map Pt.cs)
theorem Cells.ext {w w' : World} {A : Option Addr} {cap : Nat} {l : List Pt} (h : Cells w A cap l) (e : Ext w w') : Cells w' A cap l := SliceIs.ext h e
theorem Cells.len {w : World} {A : Option Addr} {cap : Nat} {l : List Pt} (h : Cells w A cap l) : l.length ≤ maxLen := Nat.le_trans h.le h.small
theorem Cells.at_ {w : World} {A : Option Addr} {cap : Nat} {l : List Pt} (h : Cells w A cap l) {k : Nat} (hk : k < l.length) :
    ∃ b off p, A = some ⟨b, off, none⟩ ∧ l[k]? = some p ∧ b < w.heap.size ∧ w.cell? ⟨b, off + k * 3, none⟩ = some (.int .i64 p.x) ∧ w.cell? ⟨b, off + k * 3 + 1, none⟩ = some (.int .i64 p.y) ∧
      w.cell? ⟨b, off + k * 3 + 2, none⟩ = some (.int .i64 p.z) := by
  obtain ⟨b, off, hA, hb, hc⟩ := SliceIs.cells h (by omega)
  have hget : l[k]? = some l[k] := List.getElem?_eq_getElem hk
  have hr : (l.map Pt.cs)[k]? = some l[k].cs := by rw [List.getElem?_map, hget]; rfl
  exact ⟨b, off, l[k], hA, hget, hb, hc k _ hr 0 _ rfl, hc k _ hr 1 _ rfl, hc k _ hr 2 _ rfl⟩

def addP (p q : Pt) : Pt := ⟨p.x + q.x, p.y + q.y, p.z + q.z⟩
def subP (p q : Pt) : Pt := ⟨p.x - q.x, p.y - q.y, p.z - q.z⟩
set_option maxHeartbeats 1600000 in
theorem plus_c (a b c d e f : Int) (w : World) (hp : Pt.ok ⟨a, b, c⟩) (hq : Pt.ok ⟨d, e, f⟩) :
    Calls Try.prog 57 #[.agg #[.int .i64 a, .int .i64 b, .int .i64 c], .agg #[.int .i64 d, .int .i64 e, .int .i64 f]] w fun v w' => v = .returned (.agg #[.int .i64 (a + d), .int .i64 (b + e), .int .i64 (c + f)]) ∧ Ext w w' := by
  obtain ⟨h1, h2, h3⟩ := hp
  obtain ⟨k1, k2, k3⟩ := hq
  unfold CB at *
  simp only at h1 h2 h3 k1 k2 k3
  go_enter Try.func57, Try.ntmps57
  go_wp2
  refine bodyPost_ret (v := .agg #[.int .i64 (a + d), .int .i64 (b + e), .int .i64 (c + f)]) ?_ rfl ⟨rfl, by apply_rules [Ext.refl, Ext.alloc]⟩
  simp [results, Try.results57, go_sem]
set_option maxHeartbeats 1600000 in
theorem minus_c (a b c d e f : Int) (w : World) (hp : Pt.ok ⟨a, b, c⟩) (hq : Pt.ok ⟨d, e, f⟩) :
    Calls Try.prog 88 #[.agg #[.int .i64 a, .int .i64 b, .int .i64 c], .agg #[.int .i64 d, .int .i64 e, .int .i64 f]] w fun v w' => v = .returned (.agg #[.int .i64 (a - d), .int .i64 (b - e), .int .i64 (c - f)]) ∧ Ext w w' := by
  obtain ⟨h1, h2, h3⟩ := hp
  obtain ⟨k1, k2, k3⟩ := hq
  unfold CB at *
  simp only at h1 h2 h3 k1 k2 k3
  go_enter Try.func88, Try.ntmps88
  go_wp2
  refine bodyPost_ret (v := .agg #[.int .i64 (a - d), .int .i64 (b - e), .int .i64 (c - f)]) ?_ rfl ⟨rfl, by apply_rules [Ext.refl, Ext.alloc]⟩
  simp [results, Try.results88, go_sem]
set_option maxHeartbeats 1600000 in
theorem rPlus_c (a b c d e f : Int) (w : World) (hp : Pt.ok ⟨a, b, c⟩) (hq : Pt.ok ⟨d, e, f⟩) :
    Calls Try.prog 76 #[.agg #[.int .i64 a, .int .i64 b, .int .i64 c], .agg #[.int .i64 d, .int .i64 e, .int .i64 f]] w fun v w' => v = .returned (.agg #[.int .i64 (a + d), .int .i64 (b + e), .int .i64 (c + f)]) ∧ Ext w w' := by
  obtain ⟨h1, h2, h3⟩ := hp
  obtain ⟨k1, k2, k3⟩ := hq
  unfold CB at *
  simp only at h1 h2 h3 k1 k2 k3
  go_enter Try.func76, Try.ntmps76
  go_wp2
  refine bodyPost_ret (v := .agg #[.int .i64 (a + d), .int .i64 (b + e), .int .i64 (c + f)]) ?_ rfl ⟨rfl, by apply_rules [Ext.refl, Ext.alloc]⟩
  simp [results, Try.results76, go_sem]

def hasP (l : List Pt) (p : Pt) : Bool := l.any fun q => q.eqB p
theorem hasP_iff {l : List Pt} {p : Pt} : hasP l p = true ↔ p ∈ l := by
  unfold hasP
  rw [List.any_eq_true]
  exact ⟨fun ⟨q, h, e⟩ => Pt.eqB_iff.1 e ▸ h, fun h => ⟨p, h, Pt.eqB_iff.2 rfl⟩⟩
theorem hasP_drop {l : List Pt} {p q : Pt} {k : Nat} (h : l[k]? = some q) : hasP (l.drop k) p = (q.eqB p || hasP (l.drop (k + 1)) p) := by
  obtain ⟨hk, hn⟩ := List.getElem?_eq_some_iff.1 h
  rw [List.drop_eq_getElem_cons hk, hn]
  rfl
theorem Pt.eqB_comm (p q : Pt) : p.eqB q = q.eqB p := by rw [Bool.eq_iff_iff, Pt.eqB_iff, Pt.eqB_iff]; exact eq_comm
set_option maxHeartbeats 1600000 in
theorem rHas_c (A : Option Addr) (cap : Nat) (l : List Pt) (a b c : Int) (w : World) (hs : Cells w A cap l) :
    Calls Try.prog 104 #[.slice A l.length cap, .agg #[.int .i64 a, .int .i64 b, .int .i64 c]] w fun e w' => e = .returned (.bool (hasP l ⟨a, b, c⟩)) ∧ Ext w w' := by
  have hl : l.length ≤ 9223372036854775807 := by have := hs.len; unfold maxLen at this; omega
  obtain ⟨W1, hW1, E1, B1, hz1⟩ := mk_ w #[.int .i64 a, .int .i64 b, .int .i64 c] 23
  have heq := pt_eql
  go_enter Try.func104, Try.ntmps104
  go_wp2_with fail
  clear hW1 hz1
  go_loopw [5] (fun i wr => ∃ k : Nat, k ≤ l.length ∧ i = .int .i64 k ∧ Hid (hasP l ⟨a, b, c⟩ = hasP (l.drop k) ⟨a, b, c⟩) ∧ Ext w wr ∧ Blk wr w.heap.size 23 #[.int .i64 a, .int .i64 b, .int .i64 c]) (fun i _ => l.length - (intOf i).toNat)
  case atStart => exact ⟨0, by omega, rfl, Lib.hid rfl, E1, B1⟩
  case round =>
    obtain ⟨k, hk, rfl, Hj, E, B⟩ := hrel
    clear B1 E1
    have b1 := B.cell
    by_cases hlt : k < l.length
    · obtain ⟨g, off, q, rfl, hq, hg, c0, c1, c2⟩ := hs.at_ hlt
      have e0 := E.cell c0
      have e1 := E.cell c1
      have e2 := E.cell c2
      clear c0 c1 c2
      have Hd := Lib.hid (hasP_drop (p := ⟨a, b, c⟩) hq)
      clear hq
      have i1 : (0 : Int) ≤ k := by omega
      have i2 : (k : Int) < l.length := by omega
      go_upto_region 4 with (fail)
      refine wp_region_grow (by kernel_rfl) (by kernel_rfl) ?_
      repeat (go_big_quiet_step (fail))
      refine wpQuiet_nil ?_
      intro W3 hW3
      have E3 : Ext wr W3 := by
        obtain ⟨x, rfl⟩ := hW3
        exact (Ext.refl _).grow x
      clear hW3
      obtain ⟨hcW3, hfW3, hzW3⟩ := ext_facts E3
      replace E := E.trans E3
      replace B := B.ext E3
      clear hcW3 hfW3 hzW3 E3 b1 e0 e1 e2
      obtain ⟨r, hr⟩ : ∃ r, Pt.eqB ⟨q.x, q.y, q.z⟩ ⟨a, b, c⟩ = r := ⟨_, rfl⟩
      rw [hr]
      have Hr := Lib.hid hr
      clear hr
      cases r
      · go_wp2_with fail
        go_roundw
        case rel => exact ⟨k + 1, by omega, by go_num, Lib.hid (by rw [Hj.out, Hd.out, show q.eqB ⟨a, b, c⟩ = false from Hr.out]; rfl), E, B⟩
        case measure => simp [intOf]; omega
      · go_wp2_with fail
        go_ret
        exact ⟨by rw [Hj.out, Hd.out, show q.eqB ⟨a, b, c⟩ = true from Hr.out]; rfl, E⟩
    · obtain rfl : l.length = k := by omega
      go_wp2_with fail
      go_ret
      exact ⟨by rw [Hj.out, List.drop_length]; rfl, E⟩
/-- What slices.Index answers: a number that is not negative just if the list has it. -/
def IdxIs (b : Bool) (w : World) (e : Ending) (w' : World) : Prop := ∃ v : Int, e = .returned (.int .i64 v) ∧ decide (0 ≤ v) = b ∧ Ext w w'
set_option maxHeartbeats 1600000 in
theorem idx_c (A : Option Addr) (cap : Nat) (l : List Pt) (a b c : Int) (w : World) (hs : Cells w A cap l) :
    Calls Try.prog 84 #[.slice A l.length cap, .agg #[.int .i64 a, .int .i64 b, .int .i64 c]] w (IdxIs (hasP l ⟨a, b, c⟩) w) := by
  have hl : l.length ≤ 9223372036854775807 := by have := hs.len; unfold maxLen at this; omega
  obtain ⟨W1, hW1, E1, B1, hz1⟩ := mk_ w #[.int .i64 a, .int .i64 b, .int .i64 c] 23
  have heq := pt_eql
  go_enter Try.func84, Try.ntmps84
  go_wp2_with fail
  clear hW1 hz1
  go_loopw [8] (fun i wr => ∃ k : Nat, k ≤ l.length ∧ i = .int .i64 k ∧ Hid (hasP l ⟨a, b, c⟩ = hasP (l.drop k) ⟨a, b, c⟩) ∧ Ext w wr ∧ Blk wr w.heap.size 23 #[.int .i64 a, .int .i64 b, .int .i64 c]) (fun i _ => l.length - (intOf i).toNat)
  case atStart => exact ⟨0, by omega, rfl, Lib.hid rfl, E1, B1⟩
  case round =>
    obtain ⟨k, hk, rfl, Hj, E, B⟩ := hrel
    clear B1 E1
    have b1 := B.cell
    by_cases hlt : k < l.length
    · obtain ⟨g, off, q, rfl, hq, hg, c0, c1, c2⟩ := hs.at_ hlt
      have e0 := E.cell c0
      have e1 := E.cell c1
      have e2 := E.cell c2
      clear c0 c1 c2
      have Hd := Lib.hid (hasP_drop (p := ⟨a, b, c⟩) hq)
      clear hq
      have i1 : (0 : Int) ≤ k := by omega
      have i2 : (k : Int) < l.length := by omega
      go_upto_region 4 with (fail)
      refine wp_region_grow (by kernel_rfl) (by kernel_rfl) ?_
      repeat (go_big_quiet_step (fail))
      refine wpQuiet_nil ?_
      intro W3 hW3
      have E3 : Ext wr W3 := by
        obtain ⟨x, rfl⟩ := hW3
        exact (Ext.refl _).grow x
      clear hW3
      obtain ⟨hcW3, hfW3, hzW3⟩ := ext_facts E3
      replace E := E.trans E3
      replace B := B.ext E3
      clear hcW3 hfW3 hzW3 E3 b1 e0 e1 e2
      obtain ⟨r, hr⟩ : ∃ r, Pt.eqB ⟨a, b, c⟩ ⟨q.x, q.y, q.z⟩ = r := ⟨_, rfl⟩
      rw [hr]
      have Hr := Lib.hid hr
      clear hr
      cases r
      · go_wp2_with fail
        go_roundw
        case rel => exact ⟨k + 1, by omega, by go_num, Lib.hid (by rw [Hj.out, Hd.out, Pt.eqB_comm, show Pt.eqB ⟨a, b, c⟩ q = false from Hr.out]; rfl), E, B⟩
        case measure => simp [intOf]; omega
      · go_wp2_with fail
        go_ret
        exact ⟨k, rfl, by rw [Hj.out, Hd.out, Pt.eqB_comm, show Pt.eqB ⟨a, b, c⟩ q = true from Hr.out]; simp, E⟩
    · obtain rfl : l.length = k := by omega
      go_wp2_with fail
      go_ret
      exact ⟨-1, rfl, by rw [Hj.out, List.drop_length]; rfl, E⟩
set_option maxHeartbeats 800000 in
theorem contains_c (A : Option Addr) (cap : Nat) (l : List Pt) (a b c : Int) (w : World) (hs : Cells w A cap l) :
    Calls Try.prog 56 #[.slice A l.length cap, .agg #[.int .i64 a, .int .i64 b, .int .i64 c]] w fun e w' => e = .returned (.bool (hasP l ⟨a, b, c⟩)) ∧ Ext w w' := by
  obtain ⟨W1, hW1, E1, B1, hz1⟩ := mk_ w #[.int .i64 a, .int .i64 b, .int .i64 c] 23
  have b1 := B1.cell
  go_enter Try.func56, Try.ntmps56
  go_wp2_with fail
  refine (idx_c A cap l a b c _ (hs.ext E1)).mono ?_
  rintro e w2 ⟨v, rfl, hv, E2⟩
  have Hv := Lib.hid hv
  clear hv
  go_wp2_with fail
  go_ret
  exact ⟨by rw [← Hv.out]; rfl, E1.trans E2⟩
end Go.Proofs.Ytenigkngmdofiaa

namespace Go.Proofs.Ytenigkngmdofiaa
open Go.RowKit

structure Knb where
  at_ : Pt
  dir : Int
  sort : Int
def Knb.cs (x : Knb) : List Value := [.int .i64 x.at_.x, .int .i64 x.at_.y, .int .i64 x.at_.z, .int .u8 x.dir, .int .u8 x.sort]
def Knb.byte (x : Knb) : Prop := (0 ≤ x.dir ∧ x.dir ≤ 255) ∧ 0 ≤ x.sort ∧ x.sort ≤ 255
def Knobs (w : World) (A : Option Addr) (cap : Nat) (l : List Knb) : Prop := SliceIs w A l.length cap 5 (l.map Knb.cs) ∧ ∀ x ∈ l, x.byte
theorem Knobs.ext {w w' : World} {A : Option Addr} {cap : Nat} {l : List Knb} (h : Knobs w A cap l) (e : Ext w w') : Knobs w' A cap l := ⟨SliceIs.ext h.1 e, h.2⟩
theorem Knobs.len {w : World} {A : Option Addr} {cap : Nat} {l : List Knb} (h : Knobs w A cap l) : l.length ≤ maxLen := Nat.le_trans h.1.le h.1.small
theorem Knobs.at_ {w : World} {A : Option Addr} {cap : Nat} {l : List Knb} (h : Knobs w A cap l) {k : Nat} (hk : k < l.length) :
    ∃ b off p, A = some ⟨b, off, none⟩ ∧ l[k]? = some p ∧ p.byte ∧ b < w.heap.size ∧ w.cell? ⟨b, off + k * 5, none⟩ = some (.int .i64 p.at_.x) ∧ w.cell? ⟨b, off + k * 5 + 1, none⟩ = some (.int .i64 p.at_.y) ∧
      w.cell? ⟨b, off + k * 5 + 2, none⟩ = some (.int .i64 p.at_.z) ∧ w.cell? ⟨b, off + k * 5 + 3, none⟩ = some (.int .u8 p.dir) ∧ w.cell? ⟨b, off + k * 5 + 4, none⟩ = some (.int .u8 p.sort) := by
  obtain ⟨b, off, hA, hb, hc⟩ := SliceIs.cells h.1 (by omega)
  have hget : l[k]? = some l[k] := List.getElem?_eq_getElem hk
  have hr : (l.map Knb.cs)[k]? = some l[k].cs := by rw [List.getElem?_map, hget]; rfl
  exact ⟨b, off, l[k], hA, hget, h.2 _ (List.getElem_mem hk), hb, hc k _ hr 0 _ rfl, hc k _ hr 1 _ rfl, hc k _ hr 2 _ rfl, hc k _ hr 3 _ rfl, hc k _ hr 4 _ rfl⟩
structure Knd where
  cells : List Pt
  knobs : List Knb
  weight : Int
/-- Where a kind's two lists lie. -/
structure KAt where
  A : Option Addr
  ca : Nat
  B : Option Addr
  cb : Nat
def Knd.cs (k : Knd) (p : KAt) : List Value := [.slice p.A k.cells.length p.ca, .slice p.B k.knobs.length p.cb, .int .i64 k.weight]
/-- A kind, its lists lying in w where p says. -/
structure KindAt (w : World) (p : KAt) (k : Knd) : Prop where
  c : Cells w p.A p.ca k.cells
  n : Knobs w p.B p.cb k.knobs
theorem KindAt.ext {w w' : World} {p : KAt} {k : Knd} (h : KindAt w p k) (e : Ext w w') : KindAt w' p k := ⟨h.c.ext e, h.n.ext e⟩
/-- A list of kinds. -/
structure Kinds (w : World) (A : Option Addr) (cap : Nat) (qs : List (Knd × KAt)) : Prop where
  s : SliceIs w A qs.length cap 3 (qs.map fun q => q.1.cs q.2)
  k : ∀ q ∈ qs, KindAt w q.2 q.1
theorem Kinds.ext {w w' : World} {A : Option Addr} {cap : Nat} {qs : List (Knd × KAt)} (h : Kinds w A cap qs) (e : Ext w w') : Kinds w' A cap qs := ⟨h.s.ext e, fun q hq => (h.k q hq).ext e⟩
theorem Kinds.len {w : World} {A : Option Addr} {cap : Nat} {qs : List (Knd × KAt)} (h : Kinds w A cap qs) : qs.length ≤ maxLen := Nat.le_trans h.s.le h.s.small
theorem Kinds.at_ {w : World} {A : Option Addr} {cap : Nat} {qs : List (Knd × KAt)} (h : Kinds w A cap qs) {i : Nat} (hi : i < qs.length) :
    ∃ b off k p, A = some ⟨b, off, none⟩ ∧ qs[i]? = some (k, p) ∧ KindAt w p k ∧ b < w.heap.size ∧ w.cell? ⟨b, off + i * 3, none⟩ = some (.slice p.A k.cells.length p.ca) ∧ w.cell? ⟨b, off + i * 3 + 1, none⟩ = some (.slice p.B k.knobs.length p.cb) ∧
      w.cell? ⟨b, off + i * 3 + 2, none⟩ = some (.int .i64 k.weight) := by
  obtain ⟨b, off, hA, hb, hc⟩ := SliceIs.cells h.s (by omega)
  have hget : qs[i]? = some qs[i] := List.getElem?_eq_getElem hi
  have hr : (qs.map fun q => q.1.cs q.2)[i]? = some (qs[i].1.cs qs[i].2) := by rw [List.getElem?_map, hget]; rfl
  exact ⟨b, off, qs[i].1, qs[i].2, hA, hget, h.k _ (List.getElem_mem hi), hb, hc i _ hr 0 _ rfl, hc i _ hr 1 _ rfl, hc i _ hr 2 _ rfl⟩

/-! What holds at each of the first n places. -/
def allR (n : Nat) (f : Nat → Bool) : Bool := (List.range n).all f
theorem allR_bad {n k : Nat} {f : Nat → Bool} (hk : k < n) (h : f k = false) : allR n f = false := by
  rw [allR, List.all_eq_false]
  exact ⟨k, List.mem_range.2 hk, by simp [h]⟩
theorem allR_good {n : Nat} {f : Nat → Bool} (h : ∀ j, j < n → f j = true) : allR n f = true := by
  rw [allR, List.all_eq_true]
  exact fun j hj => h j (List.mem_range.1 hj)
theorem allR_at {n k : Nat} {f : Nat → Bool} (h : allR n f = true) (hk : k < n) : f k = true := by
  rw [allR, List.all_eq_true] at h
  exact h k (List.mem_range.2 hk)

/-! Valid kinds. -/
def ptAt (l : List Pt) (k : Nat) : Pt := l.getD k ⟨0, 0, 0⟩
def knbAt (l : List Knb) (k : Nat) : Knb := l.getD k ⟨⟨0, 0, 0⟩, 0, 0⟩
theorem ptAt_eq {l : List Pt} {k : Nat} {p : Pt} (h : l[k]? = some p) : ptAt l k = p := by simp [ptAt, h]
theorem knbAt_eq {l : List Knb} {k : Nat} {p : Knb} (h : l[k]? = some p) : knbAt l k = p := by simp [knbAt, h]
def cellOk (l : List Pt) (i : Nat) : Bool := nearB (ptAt l i) 0 15 && (decide (i = 0) || ltP (ptAt l (i - 1)) (ptAt l i))
def cellsB (l : List Pt) : Bool := allR l.length (cellOk l)
def Knb.lt (y x : Knb) : Bool := ltP y.at_ x.at_ || (y.at_.eqB x.at_ && decide (y.dir < x.dir))
def Knb.one (cs : List Pt) (x : Knb) : Bool := decide (x.dir ≤ 5) && (inB 1 6 x.sort && (hasP cs x.at_ && !hasP cs (addP x.at_ (stepS x.dir.toNat))))
def knobOk (cs : List Pt) (l : List Knb) (i : Nat) : Bool := (knbAt l i).one cs && (decide (i = 0) || (knbAt l (i - 1)).lt (knbAt l i))
def knobsB (cs : List Pt) (l : List Knb) : Bool := allR l.length (knobOk cs l)
def Knd.sized (k : Knd) : Bool := inB 1 24 k.cells.length && (decide (k.knobs.length ≤ 48) && inB 1 100 k.weight)
def Knd.valid (k : Knd) : Bool := k.sized && (cellsB k.cells && knobsB k.cells k.knobs)
def kindErr (k : Knd) : Int := if k.valid then 0 else 10
theorem kindErr_good {k : Knd} (h : k.valid = true) : kindErr k = 0 := if_pos h
theorem kindErr_bad {k : Knd} (h : k.valid = false) : kindErr k = 10 := by rw [kindErr, h]; rfl
theorem valid_bad0 {k : Knd} (h : k.sized = false) : k.valid = false := by rw [Knd.valid, h]; rfl
theorem valid_bad1 {k : Knd} (h : cellsB k.cells = false) : k.valid = false := by rw [Knd.valid, h, Bool.false_and, Bool.and_false]
theorem valid_bad2 {k : Knd} (h : knobsB k.cells k.knobs = false) : k.valid = false := by rw [Knd.valid, h, Bool.and_false, Bool.and_false]
theorem valid_good {k : Knd} (h0 : k.sized = true) (h1 : cellsB k.cells = true) (h2 : knobsB k.cells k.knobs = true) : k.valid = true := by rw [Knd.valid, h0, h1, h2]; rfl
theorem sized_iff {k : Knd} : k.sized = true ↔ (1 ≤ k.cells.length ∧ k.cells.length ≤ 24) ∧ k.knobs.length ≤ 48 ∧ 1 ≤ k.weight ∧ k.weight ≤ 100 := by
  rw [Knd.sized, Bool.and_eq_true, Bool.and_eq_true, inB_iff, inB_iff, decide_eq_true_eq]
  omega
/-- The comparison of knobs as the program makes it. -/
theorem knobLt_or (y x : Knb) : decide (0 ≤ orL [ordP y.at_ x.at_, ordZ y.dir x.dir]) = !y.lt x := by
  unfold Knb.lt orL
  rcases ordP_cases y.at_ x.at_ with ⟨h, e⟩ | ⟨h, e⟩ | ⟨h, e⟩
  · rw [e, h]
    rfl
  · rw [e, if_pos rfl, h, ltP_irrefl, Pt.eqB_iff.2 rfl]
    unfold orL orL
    rcases Int.lt_trichotomy y.dir x.dir with h3 | h3 | h3
    · rw [ordZ_lt h3]; simp [h3]
    · rw [ordZ_eq h3]; simp [h3]
    · rw [ordZ_gt h3]; simp; omega
  · rw [e, ltP_anti h]
    have : y.at_.eqB x.at_ = false := by
      cases hq : y.at_.eqB x.at_
      · rfl
      · rw [Pt.eqB_iff.1 hq, ltP_irrefl] at h
        cases h
    rw [this]
    rfl
def kindAt (l : List Knd) (i : Nat) : Knd := l.getD i ⟨[], [], 0⟩
def kindsErr (l : List Knd) : Int := if 16 < l.length then 4 else if allR l.length (fun i => (kindAt l i).valid) then 0 else 10
end Go.Proofs.Ytenigkngmdofiaa

namespace Go.Proofs.Ytenigkngmdofiaa
open Go.RowKit

theorem near_is {x y z lo hi : Int} {r : Bool} (h : nearB ⟨x, y, z⟩ lo hi = r) (w : World) :
    Calls Try.prog 41 #[.agg #[.int .i64 x, .int .i64 y, .int .i64 z], .int .i64 lo, .int .i64 hi] w fun e w' => e = .returned (.bool r) ∧ Ext w w' := by
  subst h
  exact near_c _ _ _ _ _ _
theorem order_is {a b c d e f n : Int} (h : ordP ⟨a, b, c⟩ ⟨d, e, f⟩ = n) (w : World) :
    Calls Try.prog 55 #[.agg #[.int .i64 a, .int .i64 b, .int .i64 c], .agg #[.int .i64 d, .int .i64 e, .int .i64 f]] w fun v w' => v = .returned (.int .i64 n) ∧ Ext w w' := by
  subst h
  exact order_c _ _ _ _ _ _ _
theorem contains_is {A : Option Addr} {cap : Nat} {l : List Pt} {a b c : Int} {r : Bool} (h : hasP l ⟨a, b, c⟩ = r) {w : World} (hs : Cells w A cap l) :
    Calls Try.prog 56 #[.slice A l.length cap, .agg #[.int .i64 a, .int .i64 b, .int .i64 c]] w fun e w' => e = .returned (.bool r) ∧ Ext w w' := by
  subst h
  exact contains_c _ _ _ _ _ _ _ hs
theorem cellOk_near {l : List Pt} {j : Nat} {q : Pt} (hq : l[j]? = some q) (h : nearB q 0 15 = false) : cellOk l j = false := by
  rw [cellOk, ptAt_eq hq, h]
  rfl
theorem cellOk_zero {l : List Pt} {q : Pt} (hq : l[0]? = some q) (h : nearB q 0 15 = true) : cellOk l 0 = true := by
  rw [cellOk, ptAt_eq hq, h]
  rfl
theorem cellOk_next {l : List Pt} {j : Nat} {q r : Pt} (hq : l[j]? = some q) (h : nearB q 0 15 = true) (hj : j ≠ 0) (hr : l[j - 1]? = some r) : cellOk l j = ltP r q := by
  rw [cellOk, ptAt_eq hq, ptAt_eq hr, h, decide_eq_false hj]
  rfl
theorem pt_near {q : Pt} (h : nearB q 0 15 = true) : q.ok := by
  rw [nearB_iff] at h
  exact ⟨⟨by omega, by omega⟩, ⟨by omega, by omega⟩, ⟨by omega, by omega⟩⟩
theorem knobOk_zero {cs : List Pt} {l : List Knb} {q : Knb} (hq : l[0]? = some q) : knobOk cs l 0 = q.one cs := by
  rw [knobOk, knbAt_eq hq]
  simp
theorem knobOk_next {cs : List Pt} {l : List Knb} {j : Nat} {q r : Knb} (hq : l[j]? = some q) (hj : j ≠ 0) (hr : l[j - 1]? = some r) : knobOk cs l j = (q.one cs && r.lt q) := by
  rw [knobOk, knbAt_eq hq, knbAt_eq hr, decide_eq_false hj]
  rfl
theorem knobOk_bad {cs : List Pt} {l : List Knb} {j : Nat} {q : Knb} (hq : l[j]? = some q) (h : q.one cs = false) : knobOk cs l j = false := by
  rw [knobOk, knbAt_eq hq, h]
  rfl
theorem Knb.one_iff {cs : List Pt} {x : Knb} : x.one cs = true ↔ x.dir ≤ 5 ∧ (1 ≤ x.sort ∧ x.sort ≤ 6) ∧ hasP cs x.at_ = true ∧ hasP cs (addP x.at_ (stepS x.dir.toNat)) = false := by
  simp only [Knb.one, Bool.and_eq_true, decide_eq_true_eq, inB_iff, Bool.not_eq_true']
set_option maxRecDepth 100000 in
set_option maxHeartbeats 16000000 in
theorem checkKind_c (cells : List Pt) (knobs : List Knb) (wt : Int) (A : Option Addr) (ca : Nat) (B : Option Addr) (cb : Nat) (w : World) (hc : Cells w A ca cells) (hn : Knobs w B cb knobs) :
    Calls Try.prog 16 #[.agg #[.slice A cells.length ca, .slice B knobs.length cb, .int .i64 wt]] w fun e w' => e = .returned (.int .i64 (kindErr ⟨cells, knobs, wt⟩)) ∧ Ext w w' := by
  have hl1 : cells.length ≤ 9223372036854775807 := by have := hc.len; unfold maxLen at this; omega
  have hl2 : knobs.length ≤ 9223372036854775807 := by have := hn.len; unfold maxLen at this; omega
  obtain ⟨W1, hW1, E1, B1, hz1⟩ := mk_ w #[.slice A cells.length ca, .slice B knobs.length cb, .int .i64 wt] 39
  have b1 := B1.cell
  by_cases a1 : (cells.length : Int) < 1
  · have Hb := Lib.hid (kindErr_bad (k := ⟨cells, knobs, wt⟩) (valid_bad0 (by
      rw [← Bool.not_eq_true, sized_iff]
      show ¬ ((1 ≤ cells.length ∧ cells.length ≤ 24) ∧ knobs.length ≤ 48 ∧ 1 ≤ wt ∧ wt ≤ 100)
      omega)))
    go_enter Try.func16, Try.ntmps16
    go_wp2_with fail
    go_ret
    exact ⟨by rw [Hb.out]; rfl, E1⟩
  by_cases a2 : (24 : Int) < cells.length
  · have Hb := Lib.hid (kindErr_bad (k := ⟨cells, knobs, wt⟩) (valid_bad0 (by
      rw [← Bool.not_eq_true, sized_iff]
      show ¬ ((1 ≤ cells.length ∧ cells.length ≤ 24) ∧ knobs.length ≤ 48 ∧ 1 ≤ wt ∧ wt ≤ 100)
      omega)))
    go_enter Try.func16, Try.ntmps16
    go_wp2_with fail
    go_ret
    exact ⟨by rw [Hb.out]; rfl, E1⟩
  by_cases a3 : (48 : Int) < knobs.length
  · have Hb := Lib.hid (kindErr_bad (k := ⟨cells, knobs, wt⟩) (valid_bad0 (by
      rw [← Bool.not_eq_true, sized_iff]
      show ¬ ((1 ≤ cells.length ∧ cells.length ≤ 24) ∧ knobs.length ≤ 48 ∧ 1 ≤ wt ∧ wt ≤ 100)
      omega)))
    go_enter Try.func16, Try.ntmps16
    go_wp2_with fail
    go_ret
    exact ⟨by rw [Hb.out]; rfl, E1⟩
  by_cases a4 : wt < 1
  · have Hb := Lib.hid (kindErr_bad (k := ⟨cells, knobs, wt⟩) (valid_bad0 (by
      rw [← Bool.not_eq_true, sized_iff]
      show ¬ ((1 ≤ cells.length ∧ cells.length ≤ 24) ∧ knobs.length ≤ 48 ∧ 1 ≤ wt ∧ wt ≤ 100)
      omega)))
    go_enter Try.func16, Try.ntmps16
    go_wp2_with fail
    go_ret
    exact ⟨by rw [Hb.out]; rfl, E1⟩
  by_cases a5 : 100 < wt
  · have Hb := Lib.hid (kindErr_bad (k := ⟨cells, knobs, wt⟩) (valid_bad0 (by
      rw [← Bool.not_eq_true, sized_iff]
      show ¬ ((1 ≤ cells.length ∧ cells.length ≤ 24) ∧ knobs.length ≤ 48 ∧ 1 ≤ wt ∧ wt ≤ 100)
      omega)))
    go_enter Try.func16, Try.ntmps16
    go_wp2_with fail
    go_ret
    exact ⟨by rw [Hb.out]; rfl, E1⟩
  have Hs := Lib.hid ((sized_iff (k := ⟨cells, knobs, wt⟩)).2 ⟨⟨by show 1 ≤ cells.length; omega, by show cells.length ≤ 24; omega⟩, by show knobs.length ≤ 48; omega, by show 1 ≤ wt; omega, by show wt ≤ 100; omega⟩)
  go_enter Try.func16, Try.ntmps16
  go_wp2_with fail
  clear hW1 hz1 a1 a4 a5
  go_loopw [36] (fun i wr => ∃ j : Nat, j ≤ cells.length ∧ i = .int .i64 j ∧ Ext w wr ∧ Blk wr w.heap.size 39 #[.slice A cells.length ca, .slice B knobs.length cb, .int .i64 wt] ∧ Hid (∀ i, i < j → cellOk cells i = true)) (fun i _ => cells.length - (intOf i).toNat)
  case atStart => exact ⟨0, by omega, rfl, E1, B1, Lib.hid (fun i hi => by omega)⟩
  case round =>
    obtain ⟨j, hj, rfl, E, BK, Hj⟩ := hrel
    clear b1 B1 E1
    have b1 := BK.cell
    by_cases hlt : j < cells.length
    · obtain ⟨g, off, q, rfl, hq, hg, c0, c1, c2⟩ := hc.at_ hlt
      have d0 := E.cell c0
      have d1 := E.cell c1
      have d2 := E.cell c2
      clear c0 c1 c2
      have Hq := Lib.hid hq
      clear hq
      have i1 : (0 : Int) ≤ j := by omega
      have i2 : (j : Int) < cells.length := by omega
      obtain ⟨W4, hW4, E4, B4, hz4⟩ := mk_ wr #[.int .i64 q.x, .int .i64 q.y, .int .i64 q.z] 23
      have b4 := B4.cell
      cases hnr : nearB ⟨q.x, q.y, q.z⟩ 0 15
      · have Hb := Lib.hid (kindErr_bad (k := ⟨cells, knobs, wt⟩) (valid_bad1 (allR_bad hlt (cellOk_near Hq.out hnr))))
        have N := fun W => near_is hnr W
        clear hnr
        go_upto_region 6 with (fail)
        refine wp_region_grow (by kernel_rfl) (by kernel_rfl) ?_
        repeat (go_big_quiet_step (((go_at_call 41; exact quiet_ext (N _)))))
        refine wpQuiet_nil ?_
        intro W5 hW5
        have E5 : Ext W4 W5 := by
          obtain ⟨x, rfl⟩ := hW5
          exact (Ext.refl _).grow x
        clear hW5
        obtain ⟨hcW5, hfW5, hzW5⟩ := ext_facts E5
        go_wp2_with fail
        go_ret
        exact ⟨by rw [Hb.out]; rfl, (E.trans E4).trans E5⟩
      · have N := fun W => near_is hnr W
        have Hnr := Lib.hid hnr
        clear hnr
        by_cases hj0 : j = 0
        · have z1 : decide ((0 : Int) < (j : Int)) = false := by simp; omega
          have z2 : decide (0 < j) = false := by simp; omega
          have hok : ∀ i, i < j + 1 → cellOk cells i = true := fun i hi => by
            obtain rfl : i = 0 := by omega
            subst hj0
            exact cellOk_zero Hq.out Hnr.out
          have Hok := Lib.hid hok
          clear hok hj0
          go_upto_region 6 with (fail)
          refine wp_region_grow (by kernel_rfl) (by kernel_rfl) ?_
          repeat (go_big_quiet_step (((go_at_call 41; exact quiet_ext (N _)))))
          refine wpQuiet_nil ?_
          intro W5 hW5
          have E5 : Ext W4 W5 := by
            obtain ⟨x, rfl⟩ := hW5
            exact (Ext.refl _).grow x
          clear hW5
          obtain ⟨hcW5, hfW5, hzW5⟩ := ext_facts E5
          go_wp2_with fail
          go_roundw
          case rel => exact ⟨j + 1, by omega, by go_num, (E.trans E4).trans E5, (BK.ext E4).ext E5, Hok⟩
          case measure => simp only [intOf]; omega
        · obtain ⟨g', off', r, hA', hr, hg', p0, p1, p2⟩ := (hc.ext (E.trans E4)).at_ (k := j - 1) (by omega)
          cases hA'
          have Hr := Lib.hid hr
          clear hr
          have z1 : decide ((0 : Int) < (j : Int)) = true := by simp; omega
          have z2 : decide (0 < j) = true := by simp; omega
          have hkc : (((j - 1 : Nat) : Nat) : Int) = (j : Int) - 1 := by omega
          have ht : ((j : Int) - 1).toNat = j - 1 := by omega
          have hk1 : (1 : Int) ≤ j := by omega
          have b1' := (BK.ext E4).cell
          have hok : cellOk cells j = ltP r q := cellOk_next Hq.out Hnr.out hj0 Hr.out
          have Hok := Lib.hid hok
          clear hok
          rcases ordP_cases r q with ⟨hl, ho⟩ | ⟨hl, ho⟩ | ⟨hl, ho⟩
          · have Hl := Lib.hid hl
            clear hl
            have O := fun W => order_is (a := r.x) (b := r.y) (c := r.z) (d := q.x) (e := q.y) (f := q.z) ho W
            clear ho
            go_upto_region 6 with (fail)
            refine wp_region_grow (by kernel_rfl) (by kernel_rfl) ?_
            repeat (go_big_quiet_step ((first | (go_at_call 41; exact quiet_ext (N _)) | (go_at_call 55; exact quiet_ext (O _)))))
            refine wpQuiet_nil ?_
            intro W5 hW5
            have E5 : Ext W4 W5 := by
              obtain ⟨x, rfl⟩ := hW5
              exact (Ext.refl _).grow x
            clear hW5
            obtain ⟨hcW5, hfW5, hzW5⟩ := ext_facts E5
            go_wp2_with fail
            go_roundw
            case rel => exact ⟨j + 1, by omega, by go_num, (E.trans E4).trans E5, (BK.ext E4).ext E5, Lib.hid (fun i hi => by
              rcases Nat.lt_or_ge i j with h' | h'
              · exact Hj.out i h'
              · obtain rfl : i = j := by omega
                rw [Hok.out, Hl.out])⟩
            case measure => simp only [intOf]; omega
          · have Hb := Lib.hid (kindErr_bad (k := ⟨cells, knobs, wt⟩) (valid_bad1 (allR_bad hlt (by rw [Hok.out, hl, ltP_irrefl]))))
            clear hl
            have O := fun W => order_is (a := r.x) (b := r.y) (c := r.z) (d := q.x) (e := q.y) (f := q.z) ho W
            clear ho
            go_upto_region 6 with (fail)
            refine wp_region_grow (by kernel_rfl) (by kernel_rfl) ?_
            repeat (go_big_quiet_step ((first | (go_at_call 41; exact quiet_ext (N _)) | (go_at_call 55; exact quiet_ext (O _)))))
            refine wpQuiet_nil ?_
            intro W5 hW5
            have E5 : Ext W4 W5 := by
              obtain ⟨x, rfl⟩ := hW5
              exact (Ext.refl _).grow x
            clear hW5
            obtain ⟨hcW5, hfW5, hzW5⟩ := ext_facts E5
            go_wp2_with fail
            go_ret
            exact ⟨by rw [Hb.out]; rfl, (E.trans E4).trans E5⟩
          · have Hb := Lib.hid (kindErr_bad (k := ⟨cells, knobs, wt⟩) (valid_bad1 (allR_bad hlt (by rw [Hok.out, ltP_anti hl]))))
            clear hl
            have O := fun W => order_is (a := r.x) (b := r.y) (c := r.z) (d := q.x) (e := q.y) (f := q.z) ho W
            clear ho
            go_upto_region 6 with (fail)
            refine wp_region_grow (by kernel_rfl) (by kernel_rfl) ?_
            repeat (go_big_quiet_step ((first | (go_at_call 41; exact quiet_ext (N _)) | (go_at_call 55; exact quiet_ext (O _)))))
            refine wpQuiet_nil ?_
            intro W5 hW5
            have E5 : Ext W4 W5 := by
              obtain ⟨x, rfl⟩ := hW5
              exact (Ext.refl _).grow x
            clear hW5
            obtain ⟨hcW5, hfW5, hzW5⟩ := ext_facts E5
            go_wp2_with fail
            go_ret
            exact ⟨by rw [Hb.out]; rfl, (E.trans E4).trans E5⟩
    · obtain rfl : cells.length = j := by omega
      have Hcells := Lib.hid (allR_good Hj.out)
      clear Hj
      go_wp2_with fail
      clear hlt b1
      go_loopw [63] (fun i wr => ∃ j : Nat, j ≤ knobs.length ∧ i = .int .i64 j ∧ Ext w wr ∧ Blk wr w.heap.size 39 #[.slice A cells.length ca, .slice B knobs.length cb, .int .i64 wt] ∧ Hid (∀ i, i < j → knobOk cells knobs i = true)) (fun i _ => knobs.length - (intOf i).toNat)
      case atStart => exact ⟨0, by omega, rfl, E, BK, Lib.hid (fun i hi => by omega)⟩
      case round =>
        clear E BK
        obtain ⟨j, hj, rfl, E, BK, Hj⟩ := hrel
        have b1 := BK.cell
        by_cases hlt : j < knobs.length
        · obtain ⟨g, off, ⟨⟨x, y, z⟩, dir, sort⟩, rfl, hq, ⟨⟨hd0, hd1⟩, hs0, hs1⟩, hg, c0, c1, c2, c3, c4⟩ := hn.at_ hlt
          simp only at c0 c1 c2 c3 c4 hd0 hd1 hs0 hs1
          obtain ⟨d, rfl⟩ : ∃ d : Nat, dir = d := ⟨dir.toNat, by omega⟩
          have d0 := E.cell c0
          have d1 := E.cell c1
          have d2 := E.cell c2
          have d3 := E.cell c3
          have d4 := E.cell c4
          clear c0 c1 c2 c3 c4
          have Hq := Lib.hid hq
          clear hq
          have i1 : (0 : Int) ≤ j := by omega
          have i2 : (j : Int) < knobs.length := by omega
          obtain ⟨W4, hW4, E4, B4, hz4⟩ := mk_ wr #[.int .i64 x, .int .i64 y, .int .i64 z, .int .u8 d, .int .u8 sort] 68
          have b4 := B4.cell
          have b1' := (BK.ext E4).cell
          have EE := E.trans E4
          have f1 : IntKind.i64.wrap (d : Int) = d := IntWalk.i64_in _ (by omega)
          have Hok1 : Hid (hasP cells ⟨x, y, z⟩ = true → Pt.ok ⟨x, y, z⟩) := Lib.hid fun h => by
            obtain ⟨i, hi⟩ := List.getElem?_of_mem (hasP_iff.1 h)
            have hil : i < cells.length := (List.getElem?_eq_some_iff.1 hi).1
            have := allR_at Hcells.out hil
            rw [cellOk, ptAt_eq hi, Bool.and_eq_true] at this
            exact pt_near this.1
          by_cases a1 : (5 : Int) < d
          · have Hb := Lib.hid (kindErr_bad (k := ⟨cells, knobs, wt⟩) (valid_bad2 (allR_bad hlt (knobOk_bad Hq.out (by
              rw [← Bool.not_eq_true, Knb.one_iff]
              exact fun h => by have : (d:Int) ≤ 5 := h.1; omega)))))
            go_upto_region 12 with (fail)
            refine wp_region_grow (by kernel_rfl) (by kernel_rfl) ?_
            repeat (go_big_quiet_step (fail))
            refine wpQuiet_nil ?_
            intro W5 hW5
            have E5 : Ext W4 W5 := by
              obtain ⟨x, rfl⟩ := hW5
              exact (Ext.refl _).grow x
            clear hW5
            obtain ⟨hcW5, hfW5, hzW5⟩ := ext_facts E5
            go_wp2_with fail
            go_ret
            exact ⟨by rw [Hb.out]; rfl, EE.trans E5⟩
          by_cases a2 : sort < 1
          · have Hb := Lib.hid (kindErr_bad (k := ⟨cells, knobs, wt⟩) (valid_bad2 (allR_bad hlt (knobOk_bad Hq.out (by
              rw [← Bool.not_eq_true, Knb.one_iff]
              exact fun h => by have : 1 ≤ sort := h.2.1.1; omega)))))
            go_upto_region 12 with (fail)
            refine wp_region_grow (by kernel_rfl) (by kernel_rfl) ?_
            repeat (go_big_quiet_step (fail))
            refine wpQuiet_nil ?_
            intro W5 hW5
            have E5 : Ext W4 W5 := by
              obtain ⟨x, rfl⟩ := hW5
              exact (Ext.refl _).grow x
            clear hW5
            obtain ⟨hcW5, hfW5, hzW5⟩ := ext_facts E5
            go_wp2_with fail
            go_ret
            exact ⟨by rw [Hb.out]; rfl, EE.trans E5⟩
          by_cases a3 : 6 < sort
          · have Hb := Lib.hid (kindErr_bad (k := ⟨cells, knobs, wt⟩) (valid_bad2 (allR_bad hlt (knobOk_bad Hq.out (by
              rw [← Bool.not_eq_true, Knb.one_iff]
              exact fun h => by have : sort ≤ 6 := h.2.1.2; omega)))))
            go_upto_region 12 with (fail)
            refine wp_region_grow (by kernel_rfl) (by kernel_rfl) ?_
            repeat (go_big_quiet_step (fail))
            refine wpQuiet_nil ?_
            intro W5 hW5
            have E5 : Ext W4 W5 := by
              obtain ⟨x, rfl⟩ := hW5
              exact (Ext.refl _).grow x
            clear hW5
            obtain ⟨hcW5, hfW5, hzW5⟩ := ext_facts E5
            go_wp2_with fail
            go_ret
            exact ⟨by rw [Hb.out]; rfl, EE.trans E5⟩
          cases hh : hasP cells ⟨x, y, z⟩
          · have Hb := Lib.hid (kindErr_bad (k := ⟨cells, knobs, wt⟩) (valid_bad2 (allR_bad hlt (knobOk_bad Hq.out (by
              rw [← Bool.not_eq_true, Knb.one_iff]
              exact fun h => by rw [h.2.2.1] at hh; cases hh)))))
            go_upto_region 12 with (fail)
            refine wp_region_grow (by kernel_rfl) (by kernel_rfl) ?_
            repeat (go_big_quiet_step (((go_at_call 56; exact quiet_ext (contains_c A ca cells _ _ _ _ (hc.ext (EE.grow _)))))))
            refine wpQuiet_nil ?_
            intro W5 hW5
            have E5 : Ext W4 W5 := by
              obtain ⟨x, rfl⟩ := hW5
              exact (Ext.refl _).grow x
            clear hW5
            obtain ⟨hcW5, hfW5, hzW5⟩ := ext_facts E5
            go_wp2_with fail
            go_ret
            exact ⟨by rw [Hb.out]; rfl, EE.trans E5⟩
          have hok1 := Hok1.out hh
          have Hok1' := Lib.hid hok1
          clear hok1
          cases hh2 : hasP cells ⟨x + (stepS d).x, y + (stepS d).y, z + (stepS d).z⟩
          rotate_left
          · have Hb := Lib.hid (kindErr_bad (k := ⟨cells, knobs, wt⟩) (valid_bad2 (allR_bad hlt (knobOk_bad Hq.out (by
              rw [← Bool.not_eq_true, Knb.one_iff]
              exact fun h => by rw [show hasP cells (addP ⟨x,y,z⟩ (stepS (d:Int).toNat)) = true from hh2] at h; cases h.2.2.2)))))
            go_upto_region 12 with (fail)
            refine wp_region_grow (by kernel_rfl) (by kernel_rfl) ?_
            repeat (go_big_quiet_step ((first | (go_at_call 56; exact quiet_ext (contains_c A ca cells _ _ _ _ (hc.ext (EE.grow _)))) | (go_at_call 48; exact quiet_ext (step_c d (by omega) _)) | (go_at_call 57; exact quiet_ext (plus_c _ _ _ _ _ _ _ Hok1'.out (stepS_ok d))))))
            refine wpQuiet_nil ?_
            intro W5 hW5
            have E5 : Ext W4 W5 := by
              obtain ⟨x, rfl⟩ := hW5
              exact (Ext.refl _).grow x
            clear hW5
            obtain ⟨hcW5, hfW5, hzW5⟩ := ext_facts E5
            go_wp2_with fail
            go_ret
            exact ⟨by rw [Hb.out]; rfl, EE.trans E5⟩
          have Hone := Lib.hid ((Knb.one_iff (cs := cells) (x := ⟨⟨x, y, z⟩, d, sort⟩)).2 ⟨by show (d : Int) ≤ 5; omega, ⟨by show 1 ≤ sort; omega, by show sort ≤ 6; omega⟩, hh, hh2⟩)
          by_cases hj0 : j = 0
          · have z1 : decide ((0 : Int) < (j : Int)) = false := by simp; omega
            have z2 : decide (0 < j) = false := by simp; omega
            have hok : ∀ i, i < j + 1 → knobOk cells knobs i = true := fun i hi => by
              obtain rfl : i = 0 := by omega
              subst hj0
              rw [knobOk_zero Hq.out]
              exact Hone.out
            have Hok := Lib.hid hok
            clear hok hj0
            go_upto_region 12 with (fail)
            refine wp_region_grow (by kernel_rfl) (by kernel_rfl) ?_
            repeat (go_big_quiet_step ((first | (go_at_call 56; exact quiet_ext (contains_c A ca cells _ _ _ _ (hc.ext (EE.grow _)))) | (go_at_call 48; exact quiet_ext (step_c d (by omega) _)) | (go_at_call 57; exact quiet_ext (plus_c _ _ _ _ _ _ _ Hok1'.out (stepS_ok d))))))
            refine wpQuiet_nil ?_
            intro W5 hW5
            have E5 : Ext W4 W5 := by
              obtain ⟨x, rfl⟩ := hW5
              exact (Ext.refl _).grow x
            clear hW5
            obtain ⟨hcW5, hfW5, hzW5⟩ := ext_facts E5
            go_upto_region 14 with (fail)
            refine wp_region_tail 23 (by kernel_rfl) (by kernel_rfl) ?_
            simp only [List.take_succ_cons, List.take_zero, List.drop_succ_cons, List.drop_zero]
            repeat (go_big_quiet_step (fail))
            refine wpQuiet_nil ?_
            intro W6 hW6
            have E6 : Ext W5 W6 := by
              obtain ⟨x, rfl⟩ := hW6
              exact (Ext.refl _).grow x
            clear hW6
            obtain ⟨hcW6, hfW6, hzW6⟩ := ext_facts E6
            go_wp2_with fail
            go_roundw
            case rel => exact ⟨j + 1, by omega, by go_num, (EE.trans E5).trans E6, ((BK.ext E4).ext E5).ext E6, Hok⟩
            case measure => simp only [intOf]; omega
          · obtain ⟨g', off', ⟨⟨rx, ry, rz⟩, rdir, rsort⟩, hA', hr, -, hg', p0, p1, p2, p3, -⟩ := (hn.ext EE).at_ (k := j - 1) (by omega)
            cases hA'
            simp only at p0 p1 p2 p3
            have Hr := Lib.hid hr
            clear hr
            have z1 : decide ((0 : Int) < (j : Int)) = true := by simp; omega
            have z2 : decide (0 < j) = true := by simp; omega
            have hkc : (((j - 1 : Nat) : Nat) : Int) = (j : Int) - 1 := by omega
            have ht : ((j : Int) - 1).toNat = j - 1 := by omega
            have hk1 : (1 : Int) ≤ j := by omega
            have hok : knobOk cells knobs j = Knb.lt ⟨⟨rx, ry, rz⟩, rdir, rsort⟩ ⟨⟨x, y, z⟩, d, sort⟩ := by rw [knobOk_next Hq.out hj0 Hr.out, Hone.out, Bool.true_and]
            have Hok := Lib.hid hok
            clear hok
            obtain ⟨r, hr⟩ : ∃ r, Knb.lt ⟨⟨rx, ry, rz⟩, rdir, rsort⟩ ⟨⟨x, y, z⟩, d, sort⟩ = r := ⟨_, rfl⟩
            have ho := knobLt_or ⟨⟨rx, ry, rz⟩, rdir, rsort⟩ ⟨⟨x, y, z⟩, d, sort⟩
            rw [hr] at ho
            simp only at ho
            have Hr' := Lib.hid hr
            clear hr
            cases r
            · have Hb := Lib.hid (kindErr_bad (k := ⟨cells, knobs, wt⟩) (valid_bad2 (allR_bad hlt (by rw [Hok.out, Hr'.out]))))
              go_upto_region 12 with (fail)
              refine wp_region_grow (by kernel_rfl) (by kernel_rfl) ?_
              repeat (go_big_quiet_step ((first | (go_at_call 56; exact quiet_ext (contains_c A ca cells _ _ _ _ (hc.ext (EE.grow _)))) | (go_at_call 48; exact quiet_ext (step_c d (by omega) _)) | (go_at_call 57; exact quiet_ext (plus_c _ _ _ _ _ _ _ Hok1'.out (stepS_ok d))))))
              refine wpQuiet_nil ?_
              intro W5 hW5
              have E5 : Ext W4 W5 := by
                obtain ⟨x, rfl⟩ := hW5
                exact (Ext.refl _).grow x
              clear hW5
              obtain ⟨hcW5, hfW5, hzW5⟩ := ext_facts E5
              go_upto_region 14 with (fail)
              refine wp_region_tail 23 (by kernel_rfl) (by kernel_rfl) ?_
              simp only [List.take_succ_cons, List.take_zero, List.drop_succ_cons, List.drop_zero]
              repeat (go_big_quiet_step ((first | (go_at_call 55; exact quiet_ext (order_c _ _ _ _ _ _ _)) | (go_at_call 59; exact quiet_grow_same (cmpU_c _ _ _)))))
              refine wpQuiet_nil ?_
              intro W6 hW6
              have E6 : Ext W5 W6 := by
                obtain ⟨x, rfl⟩ := hW6
                exact (Ext.refl _).grow x
              clear hW6
              obtain ⟨hcW6, hfW6, hzW6⟩ := ext_facts E6
              go_wp2_with fail
              refine (or2_c _ _ _ _).mono ?_
              rintro v w4 ⟨rfl, rfl⟩
              go_wp2_with fail
              go_ret
              exact ⟨by rw [Hb.out]; rfl, ((EE.trans E5).trans E6).alloc _⟩
            · go_upto_region 12 with (fail)
              refine wp_region_grow (by kernel_rfl) (by kernel_rfl) ?_
              repeat (go_big_quiet_step ((first | (go_at_call 56; exact quiet_ext (contains_c A ca cells _ _ _ _ (hc.ext (EE.grow _)))) | (go_at_call 48; exact quiet_ext (step_c d (by omega) _)) | (go_at_call 57; exact quiet_ext (plus_c _ _ _ _ _ _ _ Hok1'.out (stepS_ok d))))))
              refine wpQuiet_nil ?_
              intro W5 hW5
              have E5 : Ext W4 W5 := by
                obtain ⟨x, rfl⟩ := hW5
                exact (Ext.refl _).grow x
              clear hW5
              obtain ⟨hcW5, hfW5, hzW5⟩ := ext_facts E5
              go_upto_region 14 with (fail)
              refine wp_region_tail 23 (by kernel_rfl) (by kernel_rfl) ?_
              simp only [List.take_succ_cons, List.take_zero, List.drop_succ_cons, List.drop_zero]
              repeat (go_big_quiet_step ((first | (go_at_call 55; exact quiet_ext (order_c _ _ _ _ _ _ _)) | (go_at_call 59; exact quiet_grow_same (cmpU_c _ _ _)))))
              refine wpQuiet_nil ?_
              intro W6 hW6
              have E6 : Ext W5 W6 := by
                obtain ⟨x, rfl⟩ := hW6
                exact (Ext.refl _).grow x
              clear hW6
              obtain ⟨hcW6, hfW6, hzW6⟩ := ext_facts E6
              go_wp2_with fail
              refine (or2_c _ _ _ _).mono ?_
              rintro v w4 ⟨rfl, rfl⟩
              go_wp2_with fail
              go_roundw
              case rel => exact ⟨j + 1, by omega, by go_num, ((EE.trans E5).trans E6).alloc _, (((BK.ext E4).ext E5).ext E6).alloc _, Lib.hid (fun i hi => by
                rcases Nat.lt_or_ge i j with h' | h'
                · exact Hj.out i h'
                · obtain rfl : i = j := by omega
                  rw [Hok.out, Hr'.out])⟩
              case measure => simp only [intOf]; omega
        · obtain rfl : knobs.length = j := by omega
          have Hg := Lib.hid (kindErr_good (valid_good (k := ⟨cells, knobs, wt⟩) Hs.out Hcells.out (allR_good Hj.out)))
          go_wp2_with fail
          go_ret
          exact ⟨by rw [Hg.out]; rfl, E⟩
end Go.Proofs.Ytenigkngmdofiaa
