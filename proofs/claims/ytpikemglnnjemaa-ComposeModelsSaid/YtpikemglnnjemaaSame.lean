/- SameModel, sameKind at equal models and kinds. -/
import Derived.Test.YtpikemglnnjemaaModelS
import Derived.Laws.StructEq
namespace Go.Proofs.Ytpikemglnnjemaa
open Go.RowKit

theorem cell_same (a b c : Int) (w : World) : (binOp .neq 62 (.agg #[.int .i64 a, .int .i64 b, .int .i64 c]) (.agg #[.int .i64 a, .int .i64 b, .int .i64 c])).run Try.prog w = .ok (.bool false) w := by
  simp [go_sem]
theorem brick_same (a b c d e f : Int) (w : World) : (binOp .neq 66 (.agg #[.int .i64 a, .int .i64 b, .int .i64 c, .int .i64 d, .int .u8 e, .int .u8 f]) (.agg #[.int .i64 a, .int .i64 b, .int .i64 c, .int .i64 d, .int .u8 e, .int .u8 f])).run Try.prog w = .ok (.bool false) w := by
  simp [go_sem]
theorem knob_same (a b c d e : Int) (w : World) : (binOp .neq 75 (.agg #[.int .i64 a, .int .i64 b, .int .i64 c, .int .u8 d, .int .u8 e]) (.agg #[.int .i64 a, .int .i64 b, .int .i64 c, .int .u8 d, .int .u8 e])).run Try.prog w = .ok (.bool false) w := by
  simp [go_sem]

def BrickRow (r : List Value) : Prop := ∃ a b c d e f : Int, r = [.int .i64 a, .int .i64 b, .int .i64 c, .int .i64 d, .int .u8 e, .int .u8 f]
def CellRow (r : List Value) : Prop := ∃ a b c : Int, r = [.int .i64 a, .int .i64 b, .int .i64 c]
def KnobRow (r : List Value) : Prop := ∃ a b c d e : Int, r = [.int .i64 a, .int .i64 b, .int .i64 c, .int .u8 d, .int .u8 e]

set_option maxRecDepth 100000 in
set_option maxHeartbeats 1600000 in
theorem sameModel_c (A1 A2 : Option Addr) (n c1 c2 : Nat) (rows : List (List Value)) (hr : ∀ r ∈ rows, BrickRow r) (w : World) (h1 : SliceIs w A1 n c1 6 rows) (h2 : SliceIs w A2 n c2 6 rows) :
    Calls Try.prog 13 #[.agg #[.slice A1 n c1], .agg #[.slice A2 n c2]] w fun e w' => e = .returned (.bool true) ∧ Ext w w' := by
  obtain ⟨W1, hW1, E1, B1, hz1⟩ := box_ w #[.slice A1 n c1] 38
  obtain ⟨W2, hW2, E2, B2, hz2⟩ := box_ W1 #[.slice A2 n c2] 38
  have B1 := B1.ext E2
  rw [hz1] at B2
  have b1 := B1.cell
  have b2 := B2.cell
  have E12 := E1.trans E2
  have hn : n ≤ maxLen := Nat.le_trans h1.le h1.small
  unfold maxLen at hn
  go_enter Try.func13, Try.ntmps13
  go_wp2_with fail
  clear b1 b2
  go_loopw [5] (fun i wr => ∃ k : Nat, k ≤ n ∧ i = .int .i64 k ∧ Ext W2 wr) (fun i _ => n - (intOf i).toNat)
  case atStart => exact ⟨0, by omega, rfl, Ext.refl _⟩
  case round =>
    obtain ⟨k, hk, rfl, E⟩ := hrel
    have b1 := (B1.ext E).cell
    have b2 := (B2.ext E).cell
    by_cases hlt : k < n
    · have hk2 : k < rows.length := by rw [h1.len]; exact hlt
      have hg : rows[k]? = some rows[k] := List.getElem?_eq_getElem hk2
      obtain ⟨a, b, c, d, e, f, hrow⟩ := hr _ (List.mem_of_getElem? hg)
      rw [hrow] at hg
      clear hrow
      obtain ⟨p, poff, rfl, hp, hpc⟩ := h1.cells (by omega)
      obtain ⟨q, qoff, rfl, hq, hqc⟩ := h2.cells (by omega)
      have E' := E12.trans E
      have p0 := E'.cell (hpc k _ hg 0 _ rfl)
      have p1 := E'.cell (hpc k _ hg 1 _ rfl)
      have p2 := E'.cell (hpc k _ hg 2 _ rfl)
      have p3 := E'.cell (hpc k _ hg 3 _ rfl)
      have p4 := E'.cell (hpc k _ hg 4 _ rfl)
      have p5 := E'.cell (hpc k _ hg 5 _ rfl)
      have q0 := E'.cell (hqc k _ hg 0 _ rfl)
      have q1 := E'.cell (hqc k _ hg 1 _ rfl)
      have q2 := E'.cell (hqc k _ hg 2 _ rfl)
      have q3 := E'.cell (hqc k _ hg 3 _ rfl)
      have q4 := E'.cell (hqc k _ hg 4 _ rfl)
      have q5 := E'.cell (hqc k _ hg 5 _ rfl)
      simp only [Nat.add_zero] at p0 q0
      have hpr : p < wr.heap.size := Nat.lt_of_lt_of_le hp E'.size
      have hqr : q < wr.heap.size := Nat.lt_of_lt_of_le hq E'.size
      have hsame := brick_same a b c d e f
      clear hpc hqc hg
      go_wp2_with fail
      refine wp_region_grow (by kernel_rfl) (by kernel_rfl) ?_
      repeat (go_big_quiet_step (fail))
      refine wpQuiet_nil ?_
      intro W3 hW3
      have E3 : Ext wr W3 := by
        obtain ⟨x, rfl⟩ := hW3
        exact (Ext.refl _).grow x
      clear hW3
      obtain ⟨hcW3, hfW3, hzW3⟩ := ext_facts E3
      go_wp2_with fail
      go_roundw
      case rel => exact ⟨k + 1, by omega, by go_num, E.trans E3⟩
      case measure => simp only [intOf]; omega
    · obtain rfl : k = n := by omega
      go_wp2_with fail
      go_ret
      exact ⟨rfl, E12.trans E⟩

set_option maxRecDepth 100000 in
set_option maxHeartbeats 1600000 in
theorem sameKind_c (A1 A2 : Option Addr) (n c1 c2 : Nat) (K1 K2 : Option Addr) (m d1 d2 : Nat) (wt : Int) (rows krows : List (List Value)) (hr : ∀ r ∈ rows, CellRow r) (hkr : ∀ r ∈ krows, KnobRow r) (w : World)
    (h1 : SliceIs w A1 n c1 3 rows) (h2 : SliceIs w A2 n c2 3 rows) (k1 : SliceIs w K1 m d1 5 krows) (k2 : SliceIs w K2 m d2 5 krows) :
    Calls Try.prog 14 #[.agg #[.slice A1 n c1, .slice K1 m d1, .int .i64 wt], .agg #[.slice A2 n c2, .slice K2 m d2, .int .i64 wt]] w fun e w' => e = .returned (.bool true) ∧ Ext w w' := by
  obtain ⟨W1, hW1, E1, B1, hz1⟩ := box_ w #[.slice A1 n c1, .slice K1 m d1, .int .i64 wt] 53
  obtain ⟨W2, hW2, E2, B2, hz2⟩ := box_ W1 #[.slice A2 n c2, .slice K2 m d2, .int .i64 wt] 53
  have B1 := B1.ext E2
  rw [hz1] at B2
  have b1 := B1.cell
  have b2 := B2.cell
  have E12 := E1.trans E2
  have hn : n ≤ maxLen := Nat.le_trans h1.le h1.small
  have hm : m ≤ maxLen := Nat.le_trans k1.le k1.small
  unfold maxLen at hn hm
  go_enter Try.func14, Try.ntmps14
  go_wp2_with fail
  clear b1 b2
  go_loopw [33] (fun i wr => ∃ k : Nat, k ≤ n ∧ i = .int .i64 k ∧ Ext W2 wr) (fun i _ => n - (intOf i).toNat)
  case atStart => exact ⟨0, by omega, rfl, Ext.refl _⟩
  case round =>
    obtain ⟨k, hk, rfl, E⟩ := hrel
    have b1 := (B1.ext E).cell
    have b2 := (B2.ext E).cell
    by_cases hlt : k < n
    · have hk2 : k < rows.length := by rw [h1.len]; exact hlt
      have hg : rows[k]? = some rows[k] := List.getElem?_eq_getElem hk2
      obtain ⟨a, b, c, hrow⟩ := hr _ (List.mem_of_getElem? hg)
      rw [hrow] at hg
      clear hrow
      obtain ⟨p, poff, rfl, hp, hpc⟩ := h1.cells (by omega)
      obtain ⟨q, qoff, rfl, hq, hqc⟩ := h2.cells (by omega)
      have E' := E12.trans E
      have p0 := E'.cell (hpc k _ hg 0 _ rfl)
      have p1 := E'.cell (hpc k _ hg 1 _ rfl)
      have p2 := E'.cell (hpc k _ hg 2 _ rfl)
      have q0 := E'.cell (hqc k _ hg 0 _ rfl)
      have q1 := E'.cell (hqc k _ hg 1 _ rfl)
      have q2 := E'.cell (hqc k _ hg 2 _ rfl)
      simp only [Nat.add_zero] at p0 q0
      have hpr : p < wr.heap.size := Nat.lt_of_lt_of_le hp E'.size
      have hqr : q < wr.heap.size := Nat.lt_of_lt_of_le hq E'.size
      have hsame := cell_same a b c
      clear hpc hqc hg
      go_wp2_with fail
      refine wp_region_grow (by kernel_rfl) (by kernel_rfl) ?_
      repeat (go_big_quiet_step (fail))
      refine wpQuiet_nil ?_
      intro W3 hW3
      have E3 : Ext wr W3 := by
        obtain ⟨x, rfl⟩ := hW3
        exact (Ext.refl _).grow x
      clear hW3
      obtain ⟨hcW3, hfW3, hzW3⟩ := ext_facts E3
      go_wp2_with fail
      go_roundw
      case rel => exact ⟨k + 1, by omega, by go_num, E.trans E3⟩
      case measure => simp only [intOf]; omega
    · obtain rfl : k = n := by omega
      obtain ⟨wo, rfl⟩ : ∃ wo : World, wo = wr := ⟨_, rfl⟩
      go_wp2_with fail
      clear b1 b2
      go_loopw [51] (fun i wr => ∃ j : Nat, j ≤ m ∧ i = .int .i64 j ∧ Ext W2 wr) (fun i _ => m - (intOf i).toNat)
      case atStart => exact ⟨0, by omega, rfl, E⟩
      case round =>
        clear E
        obtain ⟨j, hj, rfl, E⟩ := hrel
        have b1 := (B1.ext E).cell
        have b2 := (B2.ext E).cell
        by_cases hlt : j < m
        · have hk2 : j < krows.length := by rw [k1.len]; exact hlt
          have hg : krows[j]? = some krows[j] := List.getElem?_eq_getElem hk2
          obtain ⟨a, b, c, d, e, hrow⟩ := hkr _ (List.mem_of_getElem? hg)
          rw [hrow] at hg
          clear hrow
          obtain ⟨p, poff, rfl, hp, hpc⟩ := k1.cells (by omega)
          obtain ⟨q, qoff, rfl, hq, hqc⟩ := k2.cells (by omega)
          have E' := E12.trans E
          have p0 := E'.cell (hpc j _ hg 0 _ rfl)
          have p1 := E'.cell (hpc j _ hg 1 _ rfl)
          have p2 := E'.cell (hpc j _ hg 2 _ rfl)
          have p3 := E'.cell (hpc j _ hg 3 _ rfl)
          have p4 := E'.cell (hpc j _ hg 4 _ rfl)
          have q0 := E'.cell (hqc j _ hg 0 _ rfl)
          have q1 := E'.cell (hqc j _ hg 1 _ rfl)
          have q2 := E'.cell (hqc j _ hg 2 _ rfl)
          have q3 := E'.cell (hqc j _ hg 3 _ rfl)
          have q4 := E'.cell (hqc j _ hg 4 _ rfl)
          simp only [Nat.add_zero] at p0 q0
          have hpr : p < wr.heap.size := Nat.lt_of_lt_of_le hp E'.size
          have hqr : q < wr.heap.size := Nat.lt_of_lt_of_le hq E'.size
          have hsame := knob_same a b c d e
          clear hpc hqc hg
          go_wp2_with fail
          refine wp_region_grow (by kernel_rfl) (by kernel_rfl) ?_
          repeat (go_big_quiet_step (fail))
          refine wpQuiet_nil ?_
          intro W3 hW3
          have E3 : Ext wr W3 := by
            obtain ⟨x, rfl⟩ := hW3
            exact (Ext.refl _).grow x
          clear hW3
          obtain ⟨hcW3, hfW3, hzW3⟩ := ext_facts E3
          go_wp2_with fail
          go_roundw
          case rel => exact ⟨j + 1, by omega, by go_num, E.trans E3⟩
          case measure => simp only [intOf]; omega
        · obtain rfl : j = m := by omega
          go_wp2_with fail
          go_ret
          exact ⟨rfl, E12.trans E⟩

def muchB (n m k : Nat) : Bool := decide (600 < n) || (decide (20 < m) || decide (30 < k))
set_option maxHeartbeats 400000 in
theorem much_c (a b c : Int) (A B C : Option Addr) (n m k cn cm ck : Nat) (hn : n ≤ maxLen) (hm : m ≤ maxLen) (hk : k ≤ maxLen) (w : World) :
    Calls Try.prog 8 #[.agg #[.int .i64 a, .int .i64 b, .int .i64 c, .slice A n cn], .slice B m cm, .slice C k ck] w fun e w' => e = .returned (.bool (muchB n m k)) ∧ Ext w w' := by
  unfold maxLen at hn hm hk
  obtain ⟨W1, hW1, E1, B1, hz1⟩ := box_ w #[.int .i64 a, .int .i64 b, .int .i64 c, .slice A n cn] 25
  have b1 := B1.cell
  have Hm : Hid (muchB n m k = (decide ((600 : Int) < n) || (decide ((20 : Int) < m) || decide ((30 : Int) < k)))) := Lib.hid (by
    unfold muchB
    rw [show decide (600 < n) = decide ((600 : Int) < n) by simp; omega, show decide (20 < m) = decide ((20 : Int) < m) by simp; omega, show decide (30 < k) = decide ((30 : Int) < k) by simp; omega])
  cases h1 : decide ((600 : Int) < n)
  · cases h2 : decide ((20 : Int) < m)
    · cases h3 : decide ((30 : Int) < k)
      all_goals
        have Hb := Hm.out
        rw [h1, h2, h3] at Hb
        have Hb := Lib.hid Hb
        go_enter Try.func8, Try.ntmps8
        go_wp2_with fail
        go_ret
        exact ⟨by rw [Hb.out]; rfl, E1⟩
    · have Hb := Hm.out
      rw [h1, h2] at Hb
      have Hb := Lib.hid Hb
      go_enter Try.func8, Try.ntmps8
      go_wp2_with fail
      go_ret
      exact ⟨by rw [Hb.out]; rfl, E1⟩
  · have Hb := Hm.out
    rw [h1] at Hb
    have Hb := Lib.hid Hb
    go_enter Try.func8, Try.ntmps8
    go_wp2_with fail
    go_ret
    exact ⟨by rw [Hb.out]; rfl, E1⟩
end Go.Proofs.Ytpikemglnnjemaa
