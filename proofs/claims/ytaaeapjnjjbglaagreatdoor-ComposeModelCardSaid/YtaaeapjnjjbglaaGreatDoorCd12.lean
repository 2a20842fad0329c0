/- lattice: the closures of turners, and turners itself. lattice.turners and lattice.turn. lattice.Turn, for layer 7. -/
import Derived.Test.YtaaeapjnjjbglaaGreatDoorCd1
import Derived.Test.YtaaeapjnjjbglaaGreatDoorCd2
import Derived.Test.YtaaeapjnjjbglaaGreatDoorCd4
import Derived.Laws.EntriesVeiled

namespace Go.Proofs.YtaaeapjnjjbglaaGreatDoor
open Go.RowKit

/-- A coordinate that is not great. -/
def CB (x : Int) : Prop := -1000000 ≤ x ∧ x ≤ 1000000

set_option maxHeartbeats 400000 in
theorem tn1_c (x y z : Int) (w : World) (hz : CB z) :
    Calls Tryz.prog 87 #[.agg #[.int .i64 x, .int .i64 y, .int .i64 z]] w fun e w' => e = .returned (.agg #[.int .i64 x, .int .i64 (-z), .int .i64 y]) ∧ Ext w w' := by
  obtain ⟨z1, z2⟩ := hz
  go_enter Tryz.func87, Tryz.ntmps87
  go_wp2
  exact bodyPost_ret (v := .agg #[.int .i64 x, .int .i64 (-z), .int .i64 y]) (by simp [results, Tryz.results87, go_sem]) rfl ⟨rfl, by apply_rules [Ext.refl, Ext.alloc]⟩

set_option maxHeartbeats 400000 in
theorem tn2_c (x y z : Int) (w : World) :
    Calls Tryz.prog 88 #[.agg #[.int .i64 x, .int .i64 y, .int .i64 z]] w fun e w' => e = .returned (.agg #[.int .i64 x, .int .i64 y, .int .i64 z]) ∧ Ext w w' := by
  go_enter Tryz.func88, Tryz.ntmps88
  go_wp2
  exact bodyPost_ret (v := .agg #[.int .i64 x, .int .i64 y, .int .i64 z]) (by simp [results, Tryz.results88, go_sem]) rfl ⟨rfl, by apply_rules [Ext.refl, Ext.alloc]⟩

set_option maxHeartbeats 400000 in
theorem tn5_c (x y z : Int) (w : World) :
    Calls Tryz.prog 91 #[.agg #[.int .i64 x, .int .i64 y, .int .i64 z]] w fun e w' => e = .returned (.agg #[.int .i64 z, .int .i64 x, .int .i64 y]) ∧ Ext w w' := by
  go_enter Tryz.func91, Tryz.ntmps91
  go_wp2
  exact bodyPost_ret (v := .agg #[.int .i64 z, .int .i64 x, .int .i64 y]) (by simp [results, Tryz.results91, go_sem]) rfl ⟨rfl, by apply_rules [Ext.refl, Ext.alloc]⟩

set_option maxHeartbeats 400000 in
theorem tn6_c (x y z : Int) (w : World) (hx : CB x) (hz : CB z) :
    Calls Tryz.prog 92 #[.agg #[.int .i64 x, .int .i64 y, .int .i64 z]] w fun e w' => e = .returned (.agg #[.int .i64 (-z), .int .i64 (-x), .int .i64 y]) ∧ Ext w w' := by
  obtain ⟨x1, x2⟩ := hx
  obtain ⟨z1, z2⟩ := hz
  go_enter Tryz.func92, Tryz.ntmps92
  go_wp2
  exact bodyPost_ret (v := .agg #[.int .i64 (-z), .int .i64 (-x), .int .i64 y]) (by simp [results, Tryz.results92, go_sem]) rfl ⟨rfl, by apply_rules [Ext.refl, Ext.alloc]⟩

theorem CB.neg {x : Int} (h : CB x) : CB (-x) := by unfold CB at *; omega

set_option maxHeartbeats 800000 in
theorem tn3_c (x y z : Int) (g : Nat) (w : World) (hy : CB y) (hz : CB z) (hg : w.cell? ⟨g, 0, none⟩ = some (.func (.func 87) #[] #[])) :
    Calls Tryz.prog 89 #[.agg #[.int .i64 x, .int .i64 y, .int .i64 z], .pointer (some ⟨g, 0, none⟩)] w fun e w' => e = .returned (.agg #[.int .i64 x, .int .i64 (-y), .int .i64 (-z)]) ∧ Ext w w' := by
  obtain ⟨W, hW, E, ba, bb, hsz⟩ := boxes2 w #[.int .i64 x, .int .i64 y, .int .i64 z] #[.int .i64 0, .int .i64 0, .int .i64 0] 53 53
  have hgW := E.cell hg
  have hz' := hz.neg
  have B3 : Blk W (w.heap.size + 1) 53 #[.int .i64 0, .int .i64 0, .int .i64 0] := by
    rw [← hW]
    have := Blk.new (w.alloc (.cells #[.int .i64 x, .int .i64 y, .int .i64 z] 53)) #[.int .i64 0, .int .i64 0, .int .i64 0] 53
    rwa [World.size_alloc] at this
  go_enter Tryz.func89, Tryz.ntmps89
  go_wp2
  refine wp_region_tail 5 (by kernel_rfl) (by kernel_rfl) ?_
  simp only [List.take_succ_cons, List.take_zero, List.drop_succ_cons, List.drop_zero]
  repeat (go_big_quiet_step ((go_at_call 87; exact quiet_ext (tn1_c _ _ _ _ (by assumption)))))
  refine wpQuiet_nil ?_
  intro W2 hW2
  have E2 : Ext W W2 := by
    obtain ⟨x, rfl⟩ := hW2
    exact (Ext.refl _).grow x
  clear hW2
  have B32 := B3.ext E2
  have cc := B32.cell
  have ff := B32.frozen
  go_wp2
  refine bodyPost_ret (v := .agg #[.int .i64 x, .int .i64 (-y), .int .i64 (-z)]) (by simp [results, Tryz.results89, go_sem, cc]) rfl ⟨rfl, ?_⟩
  exact (((E.trans E2).setCell (Nat.le_succ _) _).setCell (Nat.le_succ _) _).setCell (Nat.le_succ _) _

set_option maxHeartbeats 800000 in
theorem tn4_c (x y z : Int) (g : Nat) (w : World) (hy : CB y) (hz : CB z) (hg : w.cell? ⟨g, 0, none⟩ = some (.func (.func 87) #[] #[])) :
    Calls Tryz.prog 90 #[.agg #[.int .i64 x, .int .i64 y, .int .i64 z], .pointer (some ⟨g, 0, none⟩)] w fun e w' => e = .returned (.agg #[.int .i64 x, .int .i64 z, .int .i64 (-y)]) ∧ Ext w w' := by
  obtain ⟨W, hW, E, ba, bb, hsz⟩ := boxes2 w #[.int .i64 x, .int .i64 y, .int .i64 z] #[.int .i64 0, .int .i64 0, .int .i64 0] 53 53
  have hgW := E.cell hg
  have hz' := hz.neg
  have hy' := hy.neg
  have B3 : Blk W (w.heap.size + 1) 53 #[.int .i64 0, .int .i64 0, .int .i64 0] := by
    rw [← hW]
    have := Blk.new (w.alloc (.cells #[.int .i64 x, .int .i64 y, .int .i64 z] 53)) #[.int .i64 0, .int .i64 0, .int .i64 0] 53
    rwa [World.size_alloc] at this
  go_enter Tryz.func90, Tryz.ntmps90
  go_wp2
  refine wp_region_tail 7 (by kernel_rfl) (by kernel_rfl) ?_
  simp only [List.take_succ_cons, List.take_zero, List.drop_succ_cons, List.drop_zero]
  repeat (go_big_quiet_step ((go_at_call 87; exact quiet_ext (tn1_c _ _ _ _ (by assumption)))))
  refine wpQuiet_nil ?_
  intro W2 hW2
  have E2 : Ext W W2 := by
    obtain ⟨x, rfl⟩ := hW2
    exact (Ext.refl _).grow x
  clear hW2
  have B32 := B3.ext E2
  have cc := B32.cell
  have ff := B32.frozen
  go_wp2
  refine bodyPost_ret (v := .agg #[.int .i64 x, .int .i64 z, .int .i64 (-y)]) (by simp [results, Tryz.results90, go_sem, cc]) rfl ⟨rfl, ?_⟩
  exact (((E.trans E2).setCell (Nat.le_succ _) _).setCell (Nat.le_succ _) _).setCell (Nat.le_succ _) _

end Go.Proofs.YtaaeapjnjjbglaaGreatDoor

namespace Go.Proofs.YtaaeapjnjjbglaaGreatDoor
open Go.RowKit

set_option maxHeartbeats 800000 in
theorem turners_c (w : World) :
    Calls Tryz.prog 70 #[] w fun e w' => ∃ g, e = .returned (.agg #[.func (.func 88) #[] #[], .func (.func 87) #[] #[],
      .func (.func 89) #[] #[.pointer (some ⟨g, 0, none⟩)], .func (.func 90) #[] #[.pointer (some ⟨g, 0, none⟩)],
      .func (.func 91) #[] #[], .func (.func 92) #[] #[]]) ∧ w'.cell? ⟨g, 0, none⟩ = some (.func (.func 87) #[] #[]) ∧ Ext w w' := by
  have hmf : ∀ (fn : Fn) (first cap : Array Value) (w : World), (Instr.makeFunc fn first cap).run Tryz.prog w = .ok (.func fn first cap) w := fun _ _ _ _ => rfl
  go_enter Tryz.func70, Tryz.ntmps70
  go_wp2
  refine bodyPost_ret (v := .agg #[.func (.func 88) #[] #[], .func (.func 87) #[] #[],
      .func (.func 89) #[] #[.pointer (some ⟨w.heap.size + 1, 0, none⟩)], .func (.func 90) #[] #[.pointer (some ⟨w.heap.size + 1, 0, none⟩)],
      .func (.func 91) #[] #[], .func (.func 92) #[] #[]]) (by simp [results, Tryz.results70, go_sem]) rfl ⟨w.heap.size + 1, rfl, ?_, by apply_rules [Ext.refl, Ext.alloc]⟩
  simp [go_sem]

/-- A cell of the lattice. -/
structure Pt where
  x : Int
  y : Int
  z : Int
def Pt.ok (p : Pt) : Prop := CB p.x ∧ CB p.y ∧ CB p.z
def rotZ (p : Pt) : Pt := ⟨-p.y, p.x, p.z⟩
def rotZn (p : Pt) : Nat → Pt
  | 0 => p
  | k + 1 => rotZ (rotZn p k)
/-- What is done to a cell after it was turned about z. -/
def turnQ (p : Pt) (q : Nat) : Pt :=
  match q with
  | 0 => p
  | 1 => ⟨p.x, -p.z, p.y⟩
  | 2 => ⟨p.x, -p.y, -p.z⟩
  | 3 => ⟨p.x, p.z, -p.y⟩
  | 4 => ⟨p.z, p.x, p.y⟩
  | _ => ⟨-p.z, -p.x, p.y⟩
def turnS (p : Pt) (n : Nat) : Pt := turnQ (rotZn p (n % 4)) (n / 4)
theorem rotZn_ok {p : Pt} (h : p.ok) (k : Nat) : (rotZn p k).ok := by
  induction k with
  | zero => exact h
  | succ k ih => exact ⟨ih.2.1.neg, ih.1, ih.2.2⟩
theorem turnQ_ok {p : Pt} (h : p.ok) (q : Nat) : (turnQ p q).ok := by
  obtain ⟨h1, h2, h3⟩ := h
  unfold turnQ
  split
  · exact ⟨h1, h2, h3⟩
  · exact ⟨h1, h3.neg, h2⟩
  · exact ⟨h1, h2.neg, h3.neg⟩
  · exact ⟨h1, h3, h2.neg⟩
  · exact ⟨h3, h1, h2⟩
  · exact ⟨h3.neg, h1.neg, h2⟩
theorem turnS_ok {p : Pt} (h : p.ok) (n : Nat) : (turnS p n).ok := turnQ_ok (rotZn_ok h _) _

set_option maxHeartbeats 3200000 in
theorem turn_c (x y z : Int) (n : Nat) (w : World) (hn : n < 24) (hp : Pt.ok ⟨x, y, z⟩) :
    Calls Tryz.prog 41 #[.agg #[.int .i64 x, .int .i64 y, .int .i64 z], .int .i64 n] w fun e w' =>
      e = .returned (.agg #[.int .i64 (turnS ⟨x, y, z⟩ n).x, .int .i64 (turnS ⟨x, y, z⟩ n).y, .int .i64 (turnS ⟨x, y, z⟩ n).z]) ∧ Ext w w' := by
  go_enter Tryz.func41, Tryz.ntmps41
  go_wp2
  go_loopw [7] (fun i wr => ∃ k : Nat, k ≤ n % 4 ∧ i = .int .i64 k ∧ Ext w wr ∧ Blk wr w.heap.size 53 #[.int .i64 (rotZn ⟨x, y, z⟩ k).x, .int .i64 (rotZn ⟨x, y, z⟩ k).y, .int .i64 (rotZn ⟨x, y, z⟩ k).z] ∧
      Blk wr (w.heap.size + 1) 53 #[.int .i64 0, .int .i64 0, .int .i64 0]) (fun i _ => n % 4 - (intOf i).toNat)
  case atStart =>
    refine ⟨0, by omega, rfl, by apply_rules [Ext.refl, Ext.alloc], (Blk.new _ _ _).alloc _, ?_⟩
    have := Blk.new (w.alloc (.cells #[.int .i64 x, .int .i64 y, .int .i64 z] 53)) #[.int .i64 0, .int .i64 0, .int .i64 0] 53
    rwa [World.size_alloc] at this
  case round =>
    obtain ⟨k, hk, rfl, E, B0, B1⟩ := hrel
    obtain ⟨p, hpk⟩ : ∃ p, rotZn ⟨x, y, z⟩ k = p := ⟨_, rfl⟩
    have hok : p.ok := hpk ▸ rotZn_ok hp k
    rw [hpk] at B0
    have Hp := Lib.hid hpk
    clear hpk
    have hz0 := hok.2.1
    obtain ⟨b1, b2⟩ := hz0
    have c0 := B0.cell
    have f0 := B0.frozen
    have c1 := B1.cell
    by_cases hlt : k < n % 4
    · go_wp2
      go_roundw
      case rel =>
        refine ⟨k + 1, by omega, by go_num, ((E.setCell (Nat.le_refl _) _).setCell (Nat.le_refl _) _).setCell (Nat.le_refl _) _, ?_, ((B1.far (by simp) _).far (by simp) _).far (by simp) _⟩
        have hr : rotZn ⟨x, y, z⟩ (k + 1) = ⟨-p.y, p.x, p.z⟩ := by
          show rotZ (rotZn ⟨x, y, z⟩ k) = _
          rw [Hp.out]
          rfl
        rw [hr]
        have := ((B0.set_ 0 (.int .i64 (-p.y))).set_ 1 (.int .i64 p.x)).set_ 2 (.int .i64 p.z)
        simpa using this
      case measure => simp [intOf]; omega
    · obtain rfl : n % 4 = k := by omega
      have hq6 : n / 4 = 0 ∨ n / 4 = 1 ∨ n / 4 = 2 ∨ n / 4 = 3 ∨ n / 4 = 4 ∨ n / 4 = 5 := by omega
      have Hq6 := Lib.hid hq6
      clear hq6
      go_wp2
      rcases Hq6.out with hq | hq | hq | hq | hq | hq
      · have Hfin := Lib.hid (show turnS ⟨x, y, z⟩ n = ⟨p.x, p.y, p.z⟩ from by unfold turnS; rw [Hp.out, hq]; rfl)
        have hqi : (n : Int) / 4 = 0 := by omega
        have hwq : IntKind.i64.wrap 0 = 0 := by decide
        have hfld : ∀ (w : World), (Instr.field 153 (.agg #[.func (.func 88) #[] #[]]) 0).run Tryz.prog w = .ok (.func (.func 88) #[] #[]) w := fun _ => by kernel_rfl
        have hidx : ∀ (g : Nat) (w : World), (Instr.index 154 (.agg #[.func (.func 88) #[] #[], .func (.func 87) #[] #[], .func (.func 89) #[] #[.pointer (some ⟨g, 0, none⟩)], .func (.func 90) #[] #[.pointer (some ⟨g, 0, none⟩)], .func (.func 91) #[] #[], .func (.func 92) #[] #[]]) (.int .i64 0)).run Tryz.prog w = .ok (.agg #[.func (.func 88) #[] #[]]) w := fun _ _ => by kernel_rfl
        clear hq Hq6
        go_region_law (first
          | (go_simp; go_at_call 70; refine (turners_c _).mono ?_; rintro e w1 ⟨g, rfl, HG, E1⟩; have B01 := B0.drew.ext E1; have B11 := B1.drew.ext E1; have c01 := B01.cell)
          | (go_simp; go_at_call 88; refine (tn2_c p.x p.y p.z _).mono ?_; rintro e w2 ⟨rfl, E2⟩; have B12 := B11.ext E2; have c12 := B12.cell; have f12 := B12.frozen))
        all_goals
          go_wp2
          refine bodyPost_ret (v := .agg #[.int .i64 p.x, .int .i64 p.y, .int .i64 p.z]) (by simp [results, Tryz.results41, go_sem, c12]) rfl ⟨by rw [Hfin.out], ?_⟩
          exact ((((E.drew.trans E1).trans E2).setCell (Nat.le_succ _) _).setCell (Nat.le_succ _) _).setCell (Nat.le_succ _) _
      · have Hfin := Lib.hid (show turnS ⟨x, y, z⟩ n = ⟨p.x, (-p.z), p.y⟩ from by unfold turnS; rw [Hp.out, hq]; rfl)
        have hqi : (n : Int) / 4 = 1 := by omega
        have hwq : IntKind.i64.wrap 1 = 1 := by decide
        have hfld : ∀ (w : World), (Instr.field 153 (.agg #[.func (.func 87) #[] #[]]) 0).run Tryz.prog w = .ok (.func (.func 87) #[] #[]) w := fun _ => by kernel_rfl
        have hidx : ∀ (g : Nat) (w : World), (Instr.index 154 (.agg #[.func (.func 88) #[] #[], .func (.func 87) #[] #[], .func (.func 89) #[] #[.pointer (some ⟨g, 0, none⟩)], .func (.func 90) #[] #[.pointer (some ⟨g, 0, none⟩)], .func (.func 91) #[] #[], .func (.func 92) #[] #[]]) (.int .i64 1)).run Tryz.prog w = .ok (.agg #[.func (.func 87) #[] #[]]) w := fun _ _ => by kernel_rfl
        clear hq Hq6
        go_region_law (first
          | (go_simp; go_at_call 70; refine (turners_c _).mono ?_; rintro e w1 ⟨g, rfl, HG, E1⟩; have B01 := B0.drew.ext E1; have B11 := B1.drew.ext E1; have c01 := B01.cell)
          | (go_simp; go_at_call 87; refine (tn1_c p.x p.y p.z _ hok.2.2).mono ?_; rintro e w2 ⟨rfl, E2⟩; have B12 := B11.ext E2; have c12 := B12.cell; have f12 := B12.frozen))
        all_goals
          go_wp2
          refine bodyPost_ret (v := .agg #[.int .i64 p.x, .int .i64 (-p.z), .int .i64 p.y]) (by simp [results, Tryz.results41, go_sem, c12]) rfl ⟨by rw [Hfin.out], ?_⟩
          exact ((((E.drew.trans E1).trans E2).setCell (Nat.le_succ _) _).setCell (Nat.le_succ _) _).setCell (Nat.le_succ _) _
      · have Hfin := Lib.hid (show turnS ⟨x, y, z⟩ n = ⟨p.x, (-p.y), (-p.z)⟩ from by unfold turnS; rw [Hp.out, hq]; rfl)
        have hqi : (n : Int) / 4 = 2 := by omega
        have hwq : IntKind.i64.wrap 2 = 2 := by decide
        have hfld : ∀ (g : Nat) (w : World), (Instr.field 153 (.agg #[.func (.func 89) #[] #[.pointer (some ⟨g, 0, none⟩)]]) 0).run Tryz.prog w = .ok (.func (.func 89) #[] #[.pointer (some ⟨g, 0, none⟩)]) w := fun _ _ => by kernel_rfl
        have hidx : ∀ (g : Nat) (w : World), (Instr.index 154 (.agg #[.func (.func 88) #[] #[], .func (.func 87) #[] #[], .func (.func 89) #[] #[.pointer (some ⟨g, 0, none⟩)], .func (.func 90) #[] #[.pointer (some ⟨g, 0, none⟩)], .func (.func 91) #[] #[], .func (.func 92) #[] #[]]) (.int .i64 2)).run Tryz.prog w = .ok (.agg #[.func (.func 89) #[] #[.pointer (some ⟨g, 0, none⟩)]]) w := fun _ _ => by kernel_rfl
        clear hq Hq6
        go_region_law (first
          | (go_simp; go_at_call 70; refine (turners_c _).mono ?_; rintro e w1 ⟨g, rfl, HG, E1⟩; have B01 := B0.drew.ext E1; have B11 := B1.drew.ext E1; have c01 := B01.cell)
          | (go_simp; go_at_call 89; refine (tn3_c p.x p.y p.z g _ hok.2.1 hok.2.2 HG).mono ?_; rintro e w2 ⟨rfl, E2⟩; have B12 := B11.ext E2; have c12 := B12.cell; have f12 := B12.frozen))
        all_goals
          go_wp2
          refine bodyPost_ret (v := .agg #[.int .i64 p.x, .int .i64 (-p.y), .int .i64 (-p.z)]) (by simp [results, Tryz.results41, go_sem, c12]) rfl ⟨by rw [Hfin.out], ?_⟩
          exact ((((E.drew.trans E1).trans E2).setCell (Nat.le_succ _) _).setCell (Nat.le_succ _) _).setCell (Nat.le_succ _) _
      · have Hfin := Lib.hid (show turnS ⟨x, y, z⟩ n = ⟨p.x, p.z, (-p.y)⟩ from by unfold turnS; rw [Hp.out, hq]; rfl)
        have hqi : (n : Int) / 4 = 3 := by omega
        have hwq : IntKind.i64.wrap 3 = 3 := by decide
        have hfld : ∀ (g : Nat) (w : World), (Instr.field 153 (.agg #[.func (.func 90) #[] #[.pointer (some ⟨g, 0, none⟩)]]) 0).run Tryz.prog w = .ok (.func (.func 90) #[] #[.pointer (some ⟨g, 0, none⟩)]) w := fun _ _ => by kernel_rfl
        have hidx : ∀ (g : Nat) (w : World), (Instr.index 154 (.agg #[.func (.func 88) #[] #[], .func (.func 87) #[] #[], .func (.func 89) #[] #[.pointer (some ⟨g, 0, none⟩)], .func (.func 90) #[] #[.pointer (some ⟨g, 0, none⟩)], .func (.func 91) #[] #[], .func (.func 92) #[] #[]]) (.int .i64 3)).run Tryz.prog w = .ok (.agg #[.func (.func 90) #[] #[.pointer (some ⟨g, 0, none⟩)]]) w := fun _ _ => by kernel_rfl
        clear hq Hq6
        go_region_law (first
          | (go_simp; go_at_call 70; refine (turners_c _).mono ?_; rintro e w1 ⟨g, rfl, HG, E1⟩; have B01 := B0.drew.ext E1; have B11 := B1.drew.ext E1; have c01 := B01.cell)
          | (go_simp; go_at_call 90; refine (tn4_c p.x p.y p.z g _ hok.2.1 hok.2.2 HG).mono ?_; rintro e w2 ⟨rfl, E2⟩; have B12 := B11.ext E2; have c12 := B12.cell; have f12 := B12.frozen))
        all_goals
          go_wp2
          refine bodyPost_ret (v := .agg #[.int .i64 p.x, .int .i64 p.z, .int .i64 (-p.y)]) (by simp [results, Tryz.results41, go_sem, c12]) rfl ⟨by rw [Hfin.out], ?_⟩
          exact ((((E.drew.trans E1).trans E2).setCell (Nat.le_succ _) _).setCell (Nat.le_succ _) _).setCell (Nat.le_succ _) _
      · have Hfin := Lib.hid (show turnS ⟨x, y, z⟩ n = ⟨p.z, p.x, p.y⟩ from by unfold turnS; rw [Hp.out, hq]; rfl)
        have hqi : (n : Int) / 4 = 4 := by omega
        have hwq : IntKind.i64.wrap 4 = 4 := by decide
        have hfld : ∀ (w : World), (Instr.field 153 (.agg #[.func (.func 91) #[] #[]]) 0).run Tryz.prog w = .ok (.func (.func 91) #[] #[]) w := fun _ => by kernel_rfl
        have hidx : ∀ (g : Nat) (w : World), (Instr.index 154 (.agg #[.func (.func 88) #[] #[], .func (.func 87) #[] #[], .func (.func 89) #[] #[.pointer (some ⟨g, 0, none⟩)], .func (.func 90) #[] #[.pointer (some ⟨g, 0, none⟩)], .func (.func 91) #[] #[], .func (.func 92) #[] #[]]) (.int .i64 4)).run Tryz.prog w = .ok (.agg #[.func (.func 91) #[] #[]]) w := fun _ _ => by kernel_rfl
        clear hq Hq6
        go_region_law (first
          | (go_simp; go_at_call 70; refine (turners_c _).mono ?_; rintro e w1 ⟨g, rfl, HG, E1⟩; have B01 := B0.drew.ext E1; have B11 := B1.drew.ext E1; have c01 := B01.cell)
          | (go_simp; go_at_call 91; refine (tn5_c p.x p.y p.z _).mono ?_; rintro e w2 ⟨rfl, E2⟩; have B12 := B11.ext E2; have c12 := B12.cell; have f12 := B12.frozen))
        all_goals
          go_wp2
          refine bodyPost_ret (v := .agg #[.int .i64 p.z, .int .i64 p.x, .int .i64 p.y]) (by simp [results, Tryz.results41, go_sem, c12]) rfl ⟨by rw [Hfin.out], ?_⟩
          exact ((((E.drew.trans E1).trans E2).setCell (Nat.le_succ _) _).setCell (Nat.le_succ _) _).setCell (Nat.le_succ _) _
      · have Hfin := Lib.hid (show turnS ⟨x, y, z⟩ n = ⟨(-p.z), (-p.x), p.y⟩ from by unfold turnS; rw [Hp.out, hq]; rfl)
        have hqi : (n : Int) / 4 = 5 := by omega
        have hwq : IntKind.i64.wrap 5 = 5 := by decide
        have hfld : ∀ (w : World), (Instr.field 153 (.agg #[.func (.func 92) #[] #[]]) 0).run Tryz.prog w = .ok (.func (.func 92) #[] #[]) w := fun _ => by kernel_rfl
        have hidx : ∀ (g : Nat) (w : World), (Instr.index 154 (.agg #[.func (.func 88) #[] #[], .func (.func 87) #[] #[], .func (.func 89) #[] #[.pointer (some ⟨g, 0, none⟩)], .func (.func 90) #[] #[.pointer (some ⟨g, 0, none⟩)], .func (.func 91) #[] #[], .func (.func 92) #[] #[]]) (.int .i64 5)).run Tryz.prog w = .ok (.agg #[.func (.func 92) #[] #[]]) w := fun _ _ => by kernel_rfl
        clear hq Hq6
        go_region_law (first
          | (go_simp; go_at_call 70; refine (turners_c _).mono ?_; rintro e w1 ⟨g, rfl, HG, E1⟩; have B01 := B0.drew.ext E1; have B11 := B1.drew.ext E1; have c01 := B01.cell)
          | (go_simp; go_at_call 92; refine (tn6_c p.x p.y p.z _ hok.1 hok.2.2).mono ?_; rintro e w2 ⟨rfl, E2⟩; have B12 := B11.ext E2; have c12 := B12.cell; have f12 := B12.frozen))
        all_goals
          go_wp2
          refine bodyPost_ret (v := .agg #[.int .i64 (-p.z), .int .i64 (-p.x), .int .i64 p.y]) (by simp [results, Tryz.results41, go_sem, c12]) rfl ⟨by rw [Hfin.out], ?_⟩
          exact ((((E.drew.trans E1).trans E2).setCell (Nat.le_succ _) _).setCell (Nat.le_succ _) _).setCell (Nat.le_succ _) _
end Go.Proofs.YtaaeapjnjjbglaaGreatDoor

namespace Go.Proofs.YtaaeapjnjjbglaaGreatDoor
open Go.RowKit

/-- A cell's coordinates are in a range. -/
def nearB (p : Pt) (lo hi : Int) : Bool := inB lo hi p.x && (inB lo hi p.y && inB lo hi p.z)
theorem nearB_iff {p : Pt} {lo hi : Int} : nearB p lo hi = true ↔ (lo ≤ p.x ∧ p.x ≤ hi) ∧ (lo ≤ p.y ∧ p.y ≤ hi) ∧ (lo ≤ p.z ∧ p.z ≤ hi) := by
  simp [nearB, inB]
theorem nearB_not {p : Pt} {lo hi : Int} : nearB p lo hi = false ↔ ¬ ((lo ≤ p.x ∧ p.x ≤ hi) ∧ (lo ≤ p.y ∧ p.y ≤ hi) ∧ (lo ≤ p.z ∧ p.z ≤ hi)) := by
  rw [← nearB_iff]; simp

theorem ret_bool {a b : Bool} (h : a = true ↔ b = true) : Ending.returned (.bool a) = .returned (.bool b) := by rw [Bool.eq_iff_iff.2 h]

set_option maxHeartbeats 800000 in
theorem near_c (x y z lo hi : Int) (w : World) :
    Calls Tryz.prog 39 #[.agg #[.int .i64 x, .int .i64 y, .int .i64 z], .int .i64 lo, .int .i64 hi] w fun e w' => e = .returned (.bool (nearB ⟨x, y, z⟩ lo hi)) ∧ Ext w w' := by
  by_cases h1 : lo ≤ min (min x y) z
  · go_enter Tryz.func39, Tryz.ntmps39
    go_wp2
    all_goals
      go_ret
      refine ⟨ret_bool ?_, by apply_rules [Ext.refl, Ext.alloc]⟩
      rw [nearB_iff]
      simp
      omega
  · go_enter Tryz.func39, Tryz.ntmps39
    go_wp2
    all_goals
      go_ret
      refine ⟨ret_bool ?_, by apply_rules [Ext.refl, Ext.alloc]⟩
      rw [nearB_iff]
      simp
      try omega

def allTurn (xs : List Int) : Bool := xs.all fun n => inB 0 23 n
set_option maxHeartbeats 800000 in
theorem isTurn_c (A : Option Addr) (cap : Nat) (xs : List Int) (w : World) (hs : SliceIs w A xs.length cap 1 (xs.map fun n => [.int .i64 n])) :
    Calls Tryz.prog 40 #[.slice A xs.length cap] w fun e w' => e = .returned (.bool (allTurn xs)) ∧ w = w' := by
  have hl : xs.length ≤ 9223372036854775807 := by have := hs.le; have := hs.small; unfold maxLen at this; omega
  go_enter Tryz.func40, Tryz.ntmps40
  go_wp2
  go_loop [7] (fun i => ∃ k : Nat, k ≤ xs.length ∧ i = .int .i64 k ∧ ∀ j, j < k → inB 0 23 (xs.getD j 0) = true) (fun i => xs.length - (intOf i).toNat)
  case atStart => exact ⟨0, by omega, rfl, fun j hj => by omega⟩
  case round =>
    obtain ⟨k, hk, rfl, hj⟩ := hrel
    have Hj := Lib.hid hj
    clear hj
    by_cases hlt : k < xs.length
    · obtain ⟨b, off, rfl, hb, hc⟩ := hs.cells (by omega)
      obtain ⟨n, hn⟩ : ∃ n, xs[k]? = some n := ⟨_, List.getElem?_eq_getElem hlt⟩
      have hc0 := hc k [.int .i64 n] (by rw [List.getElem?_map, hn]; rfl) 0 _ rfl
      have hgd : xs.getD k 0 = n := by simp [hn]
      have Hgd := Lib.hid hgd
      have hmem : n ∈ xs := List.mem_of_getElem? hn
      clear hgd hn hc
      simp only [Nat.mul_one, Nat.add_zero] at hc0
      by_cases h1 : n < 0
      · have ha : allTurn xs = false := by
          rw [allTurn, List.all_eq_false]
          exact ⟨n, hmem, by simp [inB]; omega⟩
        have Ha := Lib.hid ha
        clear ha
        go_wp2
        go_ret
        exact ⟨by rw [Ha.out]; rfl, rfl⟩
      · by_cases h2 : 24 ≤ n
        · have ha : allTurn xs = false := by
            rw [allTurn, List.all_eq_false]
            exact ⟨n, hmem, by simp [inB]; omega⟩
          have Ha := Lib.hid ha
          clear ha
          go_wp2
          go_ret
          exact ⟨by rw [Ha.out]; rfl, rfl⟩
        · go_wp2
          go_round
          case rel =>
            refine ⟨k + 1, by omega, by go_num, fun j hj => ?_⟩
            rcases Nat.lt_or_ge j k with h | h
            · exact Hj.out j h
            · obtain rfl : j = k := by omega
              rw [Hgd.out]
              exact inB_iff.2 ⟨by omega, by omega⟩
          case measure => simp [intOf]; omega
    · obtain rfl : xs.length = k := by omega
      have ha : allTurn xs = true := by
        rw [allTurn, List.all_eq_true]
        intro n hn
        obtain ⟨i, hi⟩ := List.getElem?_of_mem hn
        have hil : i < xs.length := by
          rcases Nat.lt_or_ge i xs.length with h | h
          · exact h
          · rw [List.getElem?_eq_none h] at hi; cases hi
        have := Hj.out i hil
        simpa [hi] using this
      have Ha := Lib.hid ha
      clear ha
      go_wp2
      go_ret
      exact ⟨by rw [Ha.out]; rfl, rfl⟩
/-- One number in a new block, as a list of numbers. -/
theorem ints1 (w : World) (n : Int) (t : TypeId) : SliceIs (w.alloc (.cells #[.int .i64 n] t)) (some ⟨w.heap.size, 0, none⟩) 1 1 1 ([n].map fun n => [.int .i64 n]) := by
  refine ⟨rfl, Nat.le_refl _, by unfold maxLen; omega, by simp, fun _ => ⟨_, 0, rfl, by simp, fun i r hr j u hu => ?_⟩⟩
  have hi : i = 0 := by
    rcases Nat.eq_zero_or_pos i with h | h
    · exact h
    · rw [List.getElem?_eq_none (by simp; omega)] at hr; cases hr
  subst hi
  simp at hr
  subst hr
  have hj : j = 0 := by
    rcases Nat.eq_zero_or_pos j with h | h
    · exact h
    · rw [List.getElem?_eq_none (by simp; omega)] at hu; cases hu
  subst hj
  simp at hu
  subst hu
  rw [cell_new]
  rfl
theorem isTurn1_c (w : World) (n : Int) (t : TypeId) :
    Calls Tryz.prog 40 #[.slice (some ⟨w.heap.size, 0, none⟩) 1 1] (w.alloc (.cells #[.int .i64 n] t)) fun e w' => e = .returned (.bool (inB 0 23 n)) ∧ w.alloc (.cells #[.int .i64 n] t) = w' :=
  (isTurn_c _ 1 [n] _ (ints1 w n t)).mono fun e w' ⟨he, hw⟩ => ⟨by rw [he]; simp [allTurn], hw⟩

def turnOk (p : Pt) (n : Int) : Prop := nearB p (-2000) 2000 = true ∧ 0 ≤ n ∧ n < 24
theorem near_ok {p : Pt} (h : nearB p (-2000) 2000 = true) : p.ok := by
  have := nearB_iff.1 h
  unfold Pt.ok CB
  omega

set_option maxHeartbeats 800000 in
theorem Turn_ok (x y z : Int) (n : Nat) (w : World) (hn : n < 24) (hp : nearB ⟨x, y, z⟩ (-2000) 2000 = true) :
    Calls Tryz.prog 20 #[.agg #[.int .i64 x, .int .i64 y, .int .i64 z], .int .i64 n] w fun e w' =>
      e = .returned (.tuple #[.agg #[.int .i64 (turnS ⟨x, y, z⟩ n).x, .int .i64 (turnS ⟨x, y, z⟩ n).y, .int .i64 (turnS ⟨x, y, z⟩ n).z], .int .i64 0]) ∧ Ext w w' := by
  have hok := near_ok hp
  have hi : inB 0 23 (n : Int) = true := inB_iff.2 (by omega)
  obtain ⟨W, hW, E, ba, bb, hz⟩ := boxes2 w #[.int .i64 x, .int .i64 y, .int .i64 z] #[.int .i64 0, .int .i64 0, .int .i64 0] 53 53
  have B0 : Blk W w.heap.size 53 #[.int .i64 x, .int .i64 y, .int .i64 z] := by rw [← hW]; exact (Blk.new _ _ _).alloc _
  have B1 : Blk W (w.heap.size + 1) 53 #[.int .i64 0, .int .i64 0, .int .i64 0] := by
    rw [← hW]
    have := Blk.new (w.alloc (.cells #[.int .i64 x, .int .i64 y, .int .i64 z] 53)) #[.int .i64 0, .int .i64 0, .int .i64 0] 53
    rwa [World.size_alloc] at this
  go_enter Tryz.func20, Tryz.ntmps20
  go_wp2_with fail
  refine (near_c x y z _ _ _).mono ?_
  rintro e w1 ⟨rfl, E1⟩
  go_wp2_with fail
  refine (isTurn1_c w1 n _).mono ?_
  rintro e w2 ⟨rfl, rfl⟩
  have B02 := (B0.ext E1).alloc (.cells #[.int .i64 n] 3)
  have B12 := (B1.ext E1).alloc (.cells #[.int .i64 n] 3)
  have E2 := (E.trans E1).alloc (.cells #[.int .i64 n] 3)
  have c2 := B02.cell
  obtain ⟨w2, hw2⟩ : ∃ w2, w1.alloc (.cells #[.int .i64 n] 3) = w2 := ⟨_, rfl⟩
  rw [hw2] at B02 B12 E2 c2
  go_wp2_with fail
  refine (turn_c x y z n _ hn hok).mono ?_
  rintro e w3 ⟨rfl, E3⟩
  have B13 := B12.ext E3
  have c3 := B13.cell
  have f3 := B13.frozen
  obtain ⟨q, hq⟩ : ∃ q, turnS ⟨x, y, z⟩ n = q := ⟨_, rfl⟩
  rw [hq]
  have Hq := Lib.hid hq
  clear hq
  go_wp2_with fail
  refine bodyPost_ret (v := .tuple #[.agg #[.int .i64 q.x, .int .i64 q.y, .int .i64 q.z], .int .i64 0]) (by simp [results, Tryz.results20, go_sem, c3]) rfl ⟨by rw [Hq.out], ?_⟩
  exact (((E2.trans E3).setCell (Nat.le_succ _) _).setCell (Nat.le_succ _) _).setCell (Nat.le_succ _) _

end Go.Proofs.YtaaeapjnjjbglaaGreatDoor
