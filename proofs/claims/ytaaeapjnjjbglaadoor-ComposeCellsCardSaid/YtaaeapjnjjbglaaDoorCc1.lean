/- lattice: the closures of turners, and turners itself. lattice.turners and lattice.turn. lattice.Turn, for layer 7. The bricks of a composition; Model of the program. SameModel, sameKind at equal models and kinds. Kinds of the program. -/
import Derived.Test.YtaaeapjnjjbglaaDoorCm19
import Derived.Laws.EntriesVeiled
import Derived.Deep.CutRange
import Derived.BigRegion
import Derived.Laws.StructEq

namespace Go.Proofs.YtaaeapjnjjbglaaDoor
open Go.RowKit

/-- A coordinate that is not great. -/
def CB (x : Int) : Prop := -1000000 ≤ x ∧ x ≤ 1000000

set_option maxHeartbeats 400000 in
theorem tn1_c (x y z : Int) (w : World) (hz : CB z) :
    Calls Tryd.prog 135 #[.agg #[.int .i64 x, .int .i64 y, .int .i64 z]] w fun e w' => e = .returned (.agg #[.int .i64 x, .int .i64 (-z), .int .i64 y]) ∧ Ext w w' := by
  obtain ⟨z1, z2⟩ := hz
  go_enter Tryd.func135, Tryd.ntmps135
  go_wp2
  exact bodyPost_ret (v := .agg #[.int .i64 x, .int .i64 (-z), .int .i64 y]) (by simp [results, Tryd.results135, go_sem]) rfl ⟨rfl, by apply_rules [Ext.refl, Ext.alloc]⟩

set_option maxHeartbeats 400000 in
theorem tn2_c (x y z : Int) (w : World) :
    Calls Tryd.prog 136 #[.agg #[.int .i64 x, .int .i64 y, .int .i64 z]] w fun e w' => e = .returned (.agg #[.int .i64 x, .int .i64 y, .int .i64 z]) ∧ Ext w w' := by
  go_enter Tryd.func136, Tryd.ntmps136
  go_wp2
  exact bodyPost_ret (v := .agg #[.int .i64 x, .int .i64 y, .int .i64 z]) (by simp [results, Tryd.results136, go_sem]) rfl ⟨rfl, by apply_rules [Ext.refl, Ext.alloc]⟩

set_option maxHeartbeats 400000 in
theorem tn5_c (x y z : Int) (w : World) :
    Calls Tryd.prog 139 #[.agg #[.int .i64 x, .int .i64 y, .int .i64 z]] w fun e w' => e = .returned (.agg #[.int .i64 z, .int .i64 x, .int .i64 y]) ∧ Ext w w' := by
  go_enter Tryd.func139, Tryd.ntmps139
  go_wp2
  exact bodyPost_ret (v := .agg #[.int .i64 z, .int .i64 x, .int .i64 y]) (by simp [results, Tryd.results139, go_sem]) rfl ⟨rfl, by apply_rules [Ext.refl, Ext.alloc]⟩

set_option maxHeartbeats 400000 in
theorem tn6_c (x y z : Int) (w : World) (hx : CB x) (hz : CB z) :
    Calls Tryd.prog 140 #[.agg #[.int .i64 x, .int .i64 y, .int .i64 z]] w fun e w' => e = .returned (.agg #[.int .i64 (-z), .int .i64 (-x), .int .i64 y]) ∧ Ext w w' := by
  obtain ⟨x1, x2⟩ := hx
  obtain ⟨z1, z2⟩ := hz
  go_enter Tryd.func140, Tryd.ntmps140
  go_wp2
  exact bodyPost_ret (v := .agg #[.int .i64 (-z), .int .i64 (-x), .int .i64 y]) (by simp [results, Tryd.results140, go_sem]) rfl ⟨rfl, by apply_rules [Ext.refl, Ext.alloc]⟩

theorem CB.neg {x : Int} (h : CB x) : CB (-x) := by unfold CB at *; omega

set_option maxHeartbeats 800000 in
theorem tn3_c (x y z : Int) (g : Nat) (w : World) (hy : CB y) (hz : CB z) (hg : w.cell? ⟨g, 0, none⟩ = some (.func (.func 135) #[] #[])) :
    Calls Tryd.prog 137 #[.agg #[.int .i64 x, .int .i64 y, .int .i64 z], .pointer (some ⟨g, 0, none⟩)] w fun e w' => e = .returned (.agg #[.int .i64 x, .int .i64 (-y), .int .i64 (-z)]) ∧ Ext w w' := by
  obtain ⟨W, hW, E, ba, bb, hsz⟩ := boxes2 w #[.int .i64 x, .int .i64 y, .int .i64 z] #[.int .i64 0, .int .i64 0, .int .i64 0] 56 56
  have hgW := E.cell hg
  have hz' := hz.neg
  have B3 : Blk W (w.heap.size + 1) 56 #[.int .i64 0, .int .i64 0, .int .i64 0] := by
    rw [← hW]
    have := Blk.new (w.alloc (.cells #[.int .i64 x, .int .i64 y, .int .i64 z] 56)) #[.int .i64 0, .int .i64 0, .int .i64 0] 56
    rwa [World.size_alloc] at this
  go_enter Tryd.func137, Tryd.ntmps137
  go_wp2
  refine wp_region_tail 5 (by kernel_rfl) (by kernel_rfl) ?_
  simp only [List.take_succ_cons, List.take_zero, List.drop_succ_cons, List.drop_zero]
  repeat (go_big_quiet_step ((go_at_call 135; exact quiet_ext (tn1_c _ _ _ _ (by assumption)))))
  refine wpQuiet_nil ?_
  intro W2 hW2
  have E2 : Ext W W2 := by
    obtain ⟨x, rfl⟩ := hW2
    exact (Ext.refl _).grow x
  clear hW2
  have B32 := B3.ext E2
  have cc := B32.cell
  have ff := B32.frozen
  go_wp2
  refine bodyPost_ret (v := .agg #[.int .i64 x, .int .i64 (-y), .int .i64 (-z)]) (by simp [results, Tryd.results137, go_sem, cc]) rfl ⟨rfl, ?_⟩
  exact (((E.trans E2).setCell (Nat.le_succ _) _).setCell (Nat.le_succ _) _).setCell (Nat.le_succ _) _

set_option maxHeartbeats 800000 in
theorem tn4_c (x y z : Int) (g : Nat) (w : World) (hy : CB y) (hz : CB z) (hg : w.cell? ⟨g, 0, none⟩ = some (.func (.func 135) #[] #[])) :
    Calls Tryd.prog 138 #[.agg #[.int .i64 x, .int .i64 y, .int .i64 z], .pointer (some ⟨g, 0, none⟩)] w fun e w' => e = .returned (.agg #[.int .i64 x, .int .i64 z, .int .i64 (-y)]) ∧ Ext w w' := by
  obtain ⟨W, hW, E, ba, bb, hsz⟩ := boxes2 w #[.int .i64 x, .int .i64 y, .int .i64 z] #[.int .i64 0, .int .i64 0, .int .i64 0] 56 56
  have hgW := E.cell hg
  have hz' := hz.neg
  have hy' := hy.neg
  have B3 : Blk W (w.heap.size + 1) 56 #[.int .i64 0, .int .i64 0, .int .i64 0] := by
    rw [← hW]
    have := Blk.new (w.alloc (.cells #[.int .i64 x, .int .i64 y, .int .i64 z] 56)) #[.int .i64 0, .int .i64 0, .int .i64 0] 56
    rwa [World.size_alloc] at this
  go_enter Tryd.func138, Tryd.ntmps138
  go_wp2
  refine wp_region_tail 7 (by kernel_rfl) (by kernel_rfl) ?_
  simp only [List.take_succ_cons, List.take_zero, List.drop_succ_cons, List.drop_zero]
  repeat (go_big_quiet_step ((go_at_call 135; exact quiet_ext (tn1_c _ _ _ _ (by assumption)))))
  refine wpQuiet_nil ?_
  intro W2 hW2
  have E2 : Ext W W2 := by
    obtain ⟨x, rfl⟩ := hW2
    exact (Ext.refl _).grow x
  clear hW2
  have B32 := B3.ext E2
  have cc := B32.cell
  have ff := B32.frozen
  go_wp2
  refine bodyPost_ret (v := .agg #[.int .i64 x, .int .i64 z, .int .i64 (-y)]) (by simp [results, Tryd.results138, go_sem, cc]) rfl ⟨rfl, ?_⟩
  exact (((E.trans E2).setCell (Nat.le_succ _) _).setCell (Nat.le_succ _) _).setCell (Nat.le_succ _) _

end Go.Proofs.YtaaeapjnjjbglaaDoor

namespace Go.Proofs.YtaaeapjnjjbglaaDoor
open Go.RowKit

set_option maxHeartbeats 800000 in
theorem turners_c (w : World) :
    Calls Tryd.prog 121 #[] w fun e w' => ∃ g, e = .returned (.agg #[.func (.func 136) #[] #[], .func (.func 135) #[] #[],
      .func (.func 137) #[] #[.pointer (some ⟨g, 0, none⟩)], .func (.func 138) #[] #[.pointer (some ⟨g, 0, none⟩)],
      .func (.func 139) #[] #[], .func (.func 140) #[] #[]]) ∧ w'.cell? ⟨g, 0, none⟩ = some (.func (.func 135) #[] #[]) ∧ Ext w w' := by
  have hmf : ∀ (fn : Fn) (first cap : Array Value) (w : World), (Instr.makeFunc fn first cap).run Tryd.prog w = .ok (.func fn first cap) w := fun _ _ _ _ => rfl
  go_enter Tryd.func121, Tryd.ntmps121
  go_wp2
  refine bodyPost_ret (v := .agg #[.func (.func 136) #[] #[], .func (.func 135) #[] #[],
      .func (.func 137) #[] #[.pointer (some ⟨w.heap.size + 1, 0, none⟩)], .func (.func 138) #[] #[.pointer (some ⟨w.heap.size + 1, 0, none⟩)],
      .func (.func 139) #[] #[], .func (.func 140) #[] #[]]) (by simp [results, Tryd.results121, go_sem]) rfl ⟨w.heap.size + 1, rfl, ?_, by apply_rules [Ext.refl, Ext.alloc]⟩
  simp [go_sem]

/-- A cell of the lattice. -/
structure Pt where
  x : Int
  y : Int
  z : Int
def Pt.ok (p : Pt) : Prop := CB p.x ∧ CB p.y ∧ CB p.z
def rotZ (p : Pt) : Pt := ⟨-p.y, p.x, p.z⟩
def rotZn (p : Pt) : Nat → Pt
  | 0 => p
  | k + 1 => rotZ (rotZn p k)
/-- What is done to a cell after it was turned about z. -/
def turnQ (p : Pt) (q : Nat) : Pt :=
  match q with
  | 0 => p
  | 1 => ⟨p.x, -p.z, p.y⟩
  | 2 => ⟨p.x, -p.y, -p.z⟩
  | 3 => ⟨p.x, p.z, -p.y⟩
  | 4 => ⟨p.z, p.x, p.y⟩
  | _ => ⟨-p.z, -p.x, p.y⟩
def turnS (p : Pt) (n : Nat) : Pt := turnQ (rotZn p (n % 4)) (n / 4)
theorem rotZn_ok {p : Pt} (h : p.ok) (k : Nat) : (rotZn p k).ok := by
  induction k with
  | zero => exact h
  | succ k ih => exact ⟨ih.2.1.neg, ih.1, ih.2.2⟩
theorem turnQ_ok {p : Pt} (h : p.ok) (q : Nat) : (turnQ p q).ok := by
  obtain ⟨h1, h2, h3⟩ := h
  unfold turnQ
  split
  · exact ⟨h1, h2, h3⟩
  · exact ⟨h1, h3.neg, h2⟩
  · exact ⟨h1, h2.neg, h3.neg⟩
  · exact ⟨h1, h3, h2.neg⟩
  · exact ⟨h3, h1, h2⟩
  · exact ⟨h3.neg, h1.neg, h2⟩
theorem turnS_ok {p : Pt} (h : p.ok) (n : Nat) : (turnS p n).ok := turnQ_ok (rotZn_ok h _) _

set_option maxHeartbeats 3200000 in
theorem turn_c (x y z : Int) (n : Nat) (w : World) (hn : n < 24) (hp : Pt.ok ⟨x, y, z⟩) :
    Calls Tryd.prog 85 #[.agg #[.int .i64 x, .int .i64 y, .int .i64 z], .int .i64 n] w fun e w' =>
      e = .returned (.agg #[.int .i64 (turnS ⟨x, y, z⟩ n).x, .int .i64 (turnS ⟨x, y, z⟩ n).y, .int .i64 (turnS ⟨x, y, z⟩ n).z]) ∧ Ext w w' := by
  go_enter Tryd.func85, Tryd.ntmps85
  go_wp2
  go_loopw [7] (fun i wr => ∃ k : Nat, k ≤ n % 4 ∧ i = .int .i64 k ∧ Ext w wr ∧ Blk wr w.heap.size 56 #[.int .i64 (rotZn ⟨x, y, z⟩ k).x, .int .i64 (rotZn ⟨x, y, z⟩ k).y, .int .i64 (rotZn ⟨x, y, z⟩ k).z] ∧
      Blk wr (w.heap.size + 1) 56 #[.int .i64 0, .int .i64 0, .int .i64 0]) (fun i _ => n % 4 - (intOf i).toNat)
  case atStart =>
    refine ⟨0, by omega, rfl, by apply_rules [Ext.refl, Ext.alloc], (Blk.new _ _ _).alloc _, ?_⟩
    have := Blk.new (w.alloc (.cells #[.int .i64 x, .int .i64 y, .int .i64 z] 56)) #[.int .i64 0, .int .i64 0, .int .i64 0] 56
    rwa [World.size_alloc] at this
  case round =>
    obtain ⟨k, hk, rfl, E, B0, B1⟩ := hrel
    obtain ⟨p, hpk⟩ : ∃ p, rotZn ⟨x, y, z⟩ k = p := ⟨_, rfl⟩
    have hok : p.ok := hpk ▸ rotZn_ok hp k
    rw [hpk] at B0
    have Hp := Lib.hid hpk
    clear hpk
    have hz0 := hok.2.1
    obtain ⟨b1, b2⟩ := hz0
    have c0 := B0.cell
    have f0 := B0.frozen
    have c1 := B1.cell
    by_cases hlt : k < n % 4
    · go_wp2
      go_roundw
      case rel =>
        refine ⟨k + 1, by omega, by go_num, ((E.setCell (Nat.le_refl _) _).setCell (Nat.le_refl _) _).setCell (Nat.le_refl _) _, ?_, ((B1.far (by simp) _).far (by simp) _).far (by simp) _⟩
        have hr : rotZn ⟨x, y, z⟩ (k + 1) = ⟨-p.y, p.x, p.z⟩ := by
          show rotZ (rotZn ⟨x, y, z⟩ k) = _
          rw [Hp.out]
          rfl
        rw [hr]
        have := ((B0.set_ 0 (.int .i64 (-p.y))).set_ 1 (.int .i64 p.x)).set_ 2 (.int .i64 p.z)
        simpa using this
      case measure => simp [intOf]; omega
    · obtain rfl : n % 4 = k := by omega
      have hq6 : n / 4 = 0 ∨ n / 4 = 1 ∨ n / 4 = 2 ∨ n / 4 = 3 ∨ n / 4 = 4 ∨ n / 4 = 5 := by omega
      have Hq6 := Lib.hid hq6
      clear hq6
      go_wp2
      rcases Hq6.out with hq | hq | hq | hq | hq | hq
      · have Hfin := Lib.hid (show turnS ⟨x, y, z⟩ n = ⟨p.x, p.y, p.z⟩ from by unfold turnS; rw [Hp.out, hq]; rfl)
        have hqi : (n : Int) / 4 = 0 := by omega
        have hwq : IntKind.i64.wrap 0 = 0 := by decide
        have hfld : ∀ (w : World), (Instr.field 195 (.agg #[.func (.func 136) #[] #[]]) 0).run Tryd.prog w = .ok (.func (.func 136) #[] #[]) w := fun _ => by kernel_rfl
        have hidx : ∀ (g : Nat) (w : World), (Instr.index 196 (.agg #[.func (.func 136) #[] #[], .func (.func 135) #[] #[], .func (.func 137) #[] #[.pointer (some ⟨g, 0, none⟩)], .func (.func 138) #[] #[.pointer (some ⟨g, 0, none⟩)], .func (.func 139) #[] #[], .func (.func 140) #[] #[]]) (.int .i64 0)).run Tryd.prog w = .ok (.agg #[.func (.func 136) #[] #[]]) w := fun _ _ => by kernel_rfl
        clear hq Hq6
        go_region_law (first
          | (go_simp; go_at_call 121; refine (turners_c _).mono ?_; rintro e w1 ⟨g, rfl, HG, E1⟩; have B01 := B0.drew.ext E1; have B11 := B1.drew.ext E1; have c01 := B01.cell)
          | (go_simp; go_at_call 136; refine (tn2_c p.x p.y p.z _).mono ?_; rintro e w2 ⟨rfl, E2⟩; have B12 := B11.ext E2; have c12 := B12.cell; have f12 := B12.frozen))
        all_goals
          go_wp2
          refine bodyPost_ret (v := .agg #[.int .i64 p.x, .int .i64 p.y, .int .i64 p.z]) (by simp [results, Tryd.results85, go_sem, c12]) rfl ⟨by rw [Hfin.out], ?_⟩
          exact ((((E.drew.trans E1).trans E2).setCell (Nat.le_succ _) _).setCell (Nat.le_succ _) _).setCell (Nat.le_succ _) _
      · have Hfin := Lib.hid (show turnS ⟨x, y, z⟩ n = ⟨p.x, (-p.z), p.y⟩ from by unfold turnS; rw [Hp.out, hq]; rfl)
        have hqi : (n : Int) / 4 = 1 := by omega
        have hwq : IntKind.i64.wrap 1 = 1 := by decide
        have hfld : ∀ (w : World), (Instr.field 195 (.agg #[.func (.func 135) #[] #[]]) 0).run Tryd.prog w = .ok (.func (.func 135) #[] #[]) w := fun _ => by kernel_rfl
        have hidx : ∀ (g : Nat) (w : World), (Instr.index 196 (.agg #[.func (.func 136) #[] #[], .func (.func 135) #[] #[], .func (.func 137) #[] #[.pointer (some ⟨g, 0, none⟩)], .func (.func 138) #[] #[.pointer (some ⟨g, 0, none⟩)], .func (.func 139) #[] #[], .func (.func 140) #[] #[]]) (.int .i64 1)).run Tryd.prog w = .ok (.agg #[.func (.func 135) #[] #[]]) w := fun _ _ => by kernel_rfl
        clear hq Hq6
        go_region_law (first
          | (go_simp; go_at_call 121; refine (turners_c _).mono ?_; rintro e w1 ⟨g, rfl, HG, E1⟩; have B01 := B0.drew.ext E1; have B11 := B1.drew.ext E1; have c01 := B01.cell)
          | (go_simp; go_at_call 135; refine (tn1_c p.x p.y p.z _ hok.2.2).mono ?_; rintro e w2 ⟨rfl, E2⟩; have B12 := B11.ext E2; have c12 := B12.cell; have f12 := B12.frozen))
        all_goals
          go_wp2
          refine bodyPost_ret (v := .agg #[.int .i64 p.x, .int .i64 (-p.z), .int .i64 p.y]) (by simp [results, Tryd.results85, go_sem, c12]) rfl ⟨by rw [Hfin.out], ?_⟩
          exact ((((E.drew.trans E1).trans E2).setCell (Nat.le_succ _) _).setCell (Nat.le_succ _) _).setCell (Nat.le_succ _) _
      · have Hfin := Lib.hid (show turnS ⟨x, y, z⟩ n = ⟨p.x, (-p.y), (-p.z)⟩ from by unfold turnS; rw [Hp.out, hq]; rfl)
        have hqi : (n : Int) / 4 = 2 := by omega
        have hwq : IntKind.i64.wrap 2 = 2 := by decide
        have hfld : ∀ (g : Nat) (w : World), (Instr.field 195 (.agg #[.func (.func 137) #[] #[.pointer (some ⟨g, 0, none⟩)]]) 0).run Tryd.prog w = .ok (.func (.func 137) #[] #[.pointer (some ⟨g, 0, none⟩)]) w := fun _ _ => by kernel_rfl
        have hidx : ∀ (g : Nat) (w : World), (Instr.index 196 (.agg #[.func (.func 136) #[] #[], .func (.func 135) #[] #[], .func (.func 137) #[] #[.pointer (some ⟨g, 0, none⟩)], .func (.func 138) #[] #[.pointer (some ⟨g, 0, none⟩)], .func (.func 139) #[] #[], .func (.func 140) #[] #[]]) (.int .i64 2)).run Tryd.prog w = .ok (.agg #[.func (.func 137) #[] #[.pointer (some ⟨g, 0, none⟩)]]) w := fun _ _ => by kernel_rfl
        clear hq Hq6
        go_region_law (first
          | (go_simp; go_at_call 121; refine (turners_c _).mono ?_; rintro e w1 ⟨g, rfl, HG, E1⟩; have B01 := B0.drew.ext E1; have B11 := B1.drew.ext E1; have c01 := B01.cell)
          | (go_simp; go_at_call 137; refine (tn3_c p.x p.y p.z g _ hok.2.1 hok.2.2 HG).mono ?_; rintro e w2 ⟨rfl, E2⟩; have B12 := B11.ext E2; have c12 := B12.cell; have f12 := B12.frozen))
        all_goals
          go_wp2
          refine bodyPost_ret (v := .agg #[.int .i64 p.x, .int .i64 (-p.y), .int .i64 (-p.z)]) (by simp [results, Tryd.results85, go_sem, c12]) rfl ⟨by rw [Hfin.out], ?_⟩
          exact ((((E.drew.trans E1).trans E2).setCell (Nat.le_succ _) _).setCell (Nat.le_succ _) _).setCell (Nat.le_succ _) _
      · have Hfin := Lib.hid (show turnS ⟨x, y, z⟩ n = ⟨p.x, p.z, (-p.y)⟩ from by unfold turnS; rw [Hp.out, hq]; rfl)
        have hqi : (n : Int) / 4 = 3 := by omega
        have hwq : IntKind.i64.wrap 3 = 3 := by decide
        have hfld : ∀ (g : Nat) (w : World), (Instr.field 195 (.agg #[.func (.func 138) #[] #[.pointer (some ⟨g, 0, none⟩)]]) 0).run Tryd.prog w = .ok (.func (.func 138) #[] #[.pointer (some ⟨g, 0, none⟩)]) w := fun _ _ => by kernel_rfl
        have hidx : ∀ (g : Nat) (w : World), (Instr.index 196 (.agg #[.func (.func 136) #[] #[], .func (.func 135) #[] #[], .func (.func 137) #[] #[.pointer (some ⟨g, 0, none⟩)], .func (.func 138) #[] #[.pointer (some ⟨g, 0, none⟩)], .func (.func 139) #[] #[], .func (.func 140) #[] #[]]) (.int .i64 3)).run Tryd.prog w = .ok (.agg #[.func (.func 138) #[] #[.pointer (some ⟨g, 0, none⟩)]]) w := fun _ _ => by kernel_rfl
        clear hq Hq6
        go_region_law (first
          | (go_simp; go_at_call 121; refine (turners_c _).mono ?_; rintro e w1 ⟨g, rfl, HG, E1⟩; have B01 := B0.drew.ext E1; have B11 := B1.drew.ext E1; have c01 := B01.cell)
          | (go_simp; go_at_call 138; refine (tn4_c p.x p.y p.z g _ hok.2.1 hok.2.2 HG).mono ?_; rintro e w2 ⟨rfl, E2⟩; have B12 := B11.ext E2; have c12 := B12.cell; have f12 := B12.frozen))
        all_goals
          go_wp2
          refine bodyPost_ret (v := .agg #[.int .i64 p.x, .int .i64 p.z, .int .i64 (-p.y)]) (by simp [results, Tryd.results85, go_sem, c12]) rfl ⟨by rw [Hfin.out], ?_⟩
          exact ((((E.drew.trans E1).trans E2).setCell (Nat.le_succ _) _).setCell (Nat.le_succ _) _).setCell (Nat.le_succ _) _
      · have Hfin := Lib.hid (show turnS ⟨x, y, z⟩ n = ⟨p.z, p.x, p.y⟩ from by unfold turnS; rw [Hp.out, hq]; rfl)
        have hqi : (n : Int) / 4 = 4 := by omega
        have hwq : IntKind.i64.wrap 4 = 4 := by decide
        have hfld : ∀ (w : World), (Instr.field 195 (.agg #[.func (.func 139) #[] #[]]) 0).run Tryd.prog w = .ok (.func (.func 139) #[] #[]) w := fun _ => by kernel_rfl
        have hidx : ∀ (g : Nat) (w : World), (Instr.index 196 (.agg #[.func (.func 136) #[] #[], .func (.func 135) #[] #[], .func (.func 137) #[] #[.pointer (some ⟨g, 0, none⟩)], .func (.func 138) #[] #[.pointer (some ⟨g, 0, none⟩)], .func (.func 139) #[] #[], .func (.func 140) #[] #[]]) (.int .i64 4)).run Tryd.prog w = .ok (.agg #[.func (.func 139) #[] #[]]) w := fun _ _ => by kernel_rfl
        clear hq Hq6
        go_region_law (first
          | (go_simp; go_at_call 121; refine (turners_c _).mono ?_; rintro e w1 ⟨g, rfl, HG, E1⟩; have B01 := B0.drew.ext E1; have B11 := B1.drew.ext E1; have c01 := B01.cell)
          | (go_simp; go_at_call 139; refine (tn5_c p.x p.y p.z _).mono ?_; rintro e w2 ⟨rfl, E2⟩; have B12 := B11.ext E2; have c12 := B12.cell; have f12 := B12.frozen))
        all_goals
          go_wp2
          refine bodyPost_ret (v := .agg #[.int .i64 p.z, .int .i64 p.x, .int .i64 p.y]) (by simp [results, Tryd.results85, go_sem, c12]) rfl ⟨by rw [Hfin.out], ?_⟩
          exact ((((E.drew.trans E1).trans E2).setCell (Nat.le_succ _) _).setCell (Nat.le_succ _) _).setCell (Nat.le_succ _) _
      · have Hfin := Lib.hid (show turnS ⟨x, y, z⟩ n = ⟨(-p.z), (-p.x), p.y⟩ from by unfold turnS; rw [Hp.out, hq]; rfl)
        have hqi : (n : Int) / 4 = 5 := by omega
        have hwq : IntKind.i64.wrap 5 = 5 := by decide
        have hfld : ∀ (w : World), (Instr.field 195 (.agg #[.func (.func 140) #[] #[]]) 0).run Tryd.prog w = .ok (.func (.func 140) #[] #[]) w := fun _ => by kernel_rfl
        have hidx : ∀ (g : Nat) (w : World), (Instr.index 196 (.agg #[.func (.func 136) #[] #[], .func (.func 135) #[] #[], .func (.func 137) #[] #[.pointer (some ⟨g, 0, none⟩)], .func (.func 138) #[] #[.pointer (some ⟨g, 0, none⟩)], .func (.func 139) #[] #[], .func (.func 140) #[] #[]]) (.int .i64 5)).run Tryd.prog w = .ok (.agg #[.func (.func 140) #[] #[]]) w := fun _ _ => by kernel_rfl
        clear hq Hq6
        go_region_law (first
          | (go_simp; go_at_call 121; refine (turners_c _).mono ?_; rintro e w1 ⟨g, rfl, HG, E1⟩; have B01 := B0.drew.ext E1; have B11 := B1.drew.ext E1; have c01 := B01.cell)
          | (go_simp; go_at_call 140; refine (tn6_c p.x p.y p.z _ hok.1 hok.2.2).mono ?_; rintro e w2 ⟨rfl, E2⟩; have B12 := B11.ext E2; have c12 := B12.cell; have f12 := B12.frozen))
        all_goals
          go_wp2
          refine bodyPost_ret (v := .agg #[.int .i64 (-p.z), .int .i64 (-p.x), .int .i64 p.y]) (by simp [results, Tryd.results85, go_sem, c12]) rfl ⟨by rw [Hfin.out], ?_⟩
          exact ((((E.drew.trans E1).trans E2).setCell (Nat.le_succ _) _).setCell (Nat.le_succ _) _).setCell (Nat.le_succ _) _
end Go.Proofs.YtaaeapjnjjbglaaDoor

namespace Go.Proofs.YtaaeapjnjjbglaaDoor
open Go.RowKit

/-- A cell's coordinates are in a range. -/
def nearB (p : Pt) (lo hi : Int) : Bool := inB lo hi p.x && (inB lo hi p.y && inB lo hi p.z)
theorem nearB_iff {p : Pt} {lo hi : Int} : nearB p lo hi = true ↔ (lo ≤ p.x ∧ p.x ≤ hi) ∧ (lo ≤ p.y ∧ p.y ≤ hi) ∧ (lo ≤ p.z ∧ p.z ≤ hi) := by
  simp [nearB, inB]
theorem nearB_not {p : Pt} {lo hi : Int} : nearB p lo hi = false ↔ ¬ ((lo ≤ p.x ∧ p.x ≤ hi) ∧ (lo ≤ p.y ∧ p.y ≤ hi) ∧ (lo ≤ p.z ∧ p.z ≤ hi)) := by
  rw [← nearB_iff]; simp

theorem ret_bool {a b : Bool} (h : a = true ↔ b = true) : Ending.returned (.bool a) = .returned (.bool b) := by rw [Bool.eq_iff_iff.2 h]

set_option maxHeartbeats 800000 in
theorem near_c (x y z lo hi : Int) (w : World) :
    Calls Tryd.prog 83 #[.agg #[.int .i64 x, .int .i64 y, .int .i64 z], .int .i64 lo, .int .i64 hi] w fun e w' => e = .returned (.bool (nearB ⟨x, y, z⟩ lo hi)) ∧ Ext w w' := by
  by_cases h1 : lo ≤ min (min x y) z
  · go_enter Tryd.func83, Tryd.ntmps83
    go_wp2
    all_goals
      go_ret
      refine ⟨ret_bool ?_, by apply_rules [Ext.refl, Ext.alloc]⟩
      rw [nearB_iff]
      simp
      omega
  · go_enter Tryd.func83, Tryd.ntmps83
    go_wp2
    all_goals
      go_ret
      refine ⟨ret_bool ?_, by apply_rules [Ext.refl, Ext.alloc]⟩
      rw [nearB_iff]
      simp
      try omega

def allTurn (xs : List Int) : Bool := xs.all fun n => inB 0 23 n
set_option maxHeartbeats 800000 in
theorem isTurn_c (A : Option Addr) (cap : Nat) (xs : List Int) (w : World) (hs : SliceIs w A xs.length cap 1 (xs.map fun n => [.int .i64 n])) :
    Calls Tryd.prog 84 #[.slice A xs.length cap] w fun e w' => e = .returned (.bool (allTurn xs)) ∧ w = w' := by
  have hl : xs.length ≤ 9223372036854775807 := by have := hs.le; have := hs.small; unfold maxLen at this; omega
  go_enter Tryd.func84, Tryd.ntmps84
  go_wp2
  go_loop [7] (fun i => ∃ k : Nat, k ≤ xs.length ∧ i = .int .i64 k ∧ ∀ j, j < k → inB 0 23 (xs.getD j 0) = true) (fun i => xs.length - (intOf i).toNat)
  case atStart => exact ⟨0, by omega, rfl, fun j hj => by omega⟩
  case round =>
    obtain ⟨k, hk, rfl, hj⟩ := hrel
    have Hj := Lib.hid hj
    clear hj
    by_cases hlt : k < xs.length
    · obtain ⟨b, off, rfl, hb, hc⟩ := hs.cells (by omega)
      obtain ⟨n, hn⟩ : ∃ n, xs[k]? = some n := ⟨_, List.getElem?_eq_getElem hlt⟩
      have hc0 := hc k [.int .i64 n] (by rw [List.getElem?_map, hn]; rfl) 0 _ rfl
      have hgd : xs.getD k 0 = n := by simp [hn]
      have Hgd := Lib.hid hgd
      have hmem : n ∈ xs := List.mem_of_getElem? hn
      clear hgd hn hc
      simp only [Nat.mul_one, Nat.add_zero] at hc0
      by_cases h1 : n < 0
      · have ha : allTurn xs = false := by
          rw [allTurn, List.all_eq_false]
          exact ⟨n, hmem, by simp [inB]; omega⟩
        have Ha := Lib.hid ha
        clear ha
        go_wp2
        go_ret
        exact ⟨by rw [Ha.out]; rfl, rfl⟩
      · by_cases h2 : 24 ≤ n
        · have ha : allTurn xs = false := by
            rw [allTurn, List.all_eq_false]
            exact ⟨n, hmem, by simp [inB]; omega⟩
          have Ha := Lib.hid ha
          clear ha
          go_wp2
          go_ret
          exact ⟨by rw [Ha.out]; rfl, rfl⟩
        · go_wp2
          go_round
          case rel =>
            refine ⟨k + 1, by omega, by go_num, fun j hj => ?_⟩
            rcases Nat.lt_or_ge j k with h | h
            · exact Hj.out j h
            · obtain rfl : j = k := by omega
              rw [Hgd.out]
              exact inB_iff.2 ⟨by omega, by omega⟩
          case measure => simp [intOf]; omega
    · obtain rfl : xs.length = k := by omega
      have ha : allTurn xs = true := by
        rw [allTurn, List.all_eq_true]
        intro n hn
        obtain ⟨i, hi⟩ := List.getElem?_of_mem hn
        have hil : i < xs.length := by
          rcases Nat.lt_or_ge i xs.length with h | h
          · exact h
          · rw [List.getElem?_eq_none h] at hi; cases hi
        have := Hj.out i hil
        simpa [hi] using this
      have Ha := Lib.hid ha
      clear ha
      go_wp2
      go_ret
      exact ⟨by rw [Ha.out]; rfl, rfl⟩
/-- One number in a new block, as a list of numbers. -/
theorem ints1 (w : World) (n : Int) (t : TypeId) : SliceIs (w.alloc (.cells #[.int .i64 n] t)) (some ⟨w.heap.size, 0, none⟩) 1 1 1 ([n].map fun n => [.int .i64 n]) := by
  refine ⟨rfl, Nat.le_refl _, by unfold maxLen; omega, by simp, fun _ => ⟨_, 0, rfl, by simp, fun i r hr j u hu => ?_⟩⟩
  have hi : i = 0 := by
    rcases Nat.eq_zero_or_pos i with h | h
    · exact h
    · rw [List.getElem?_eq_none (by simp; omega)] at hr; cases hr
  subst hi
  simp at hr
  subst hr
  have hj : j = 0 := by
    rcases Nat.eq_zero_or_pos j with h | h
    · exact h
    · rw [List.getElem?_eq_none (by simp; omega)] at hu; cases hu
  subst hj
  simp at hu
  subst hu
  rw [cell_new]
  rfl
theorem isTurn1_c (w : World) (n : Int) (t : TypeId) :
    Calls Tryd.prog 84 #[.slice (some ⟨w.heap.size, 0, none⟩) 1 1] (w.alloc (.cells #[.int .i64 n] t)) fun e w' => e = .returned (.bool (inB 0 23 n)) ∧ w.alloc (.cells #[.int .i64 n] t) = w' :=
  (isTurn_c _ 1 [n] _ (ints1 w n t)).mono fun e w' ⟨he, hw⟩ => ⟨by rw [he]; simp [allTurn], hw⟩

def turnOk (p : Pt) (n : Int) : Prop := nearB p (-2000) 2000 = true ∧ 0 ≤ n ∧ n < 24
theorem near_ok {p : Pt} (h : nearB p (-2000) 2000 = true) : p.ok := by
  have := nearB_iff.1 h
  unfold Pt.ok CB
  omega

set_option maxHeartbeats 800000 in
theorem Turn_ok (x y z : Int) (n : Nat) (w : World) (hn : n < 24) (hp : nearB ⟨x, y, z⟩ (-2000) 2000 = true) :
    Calls Tryd.prog 51 #[.agg #[.int .i64 x, .int .i64 y, .int .i64 z], .int .i64 n] w fun e w' =>
      e = .returned (.tuple #[.agg #[.int .i64 (turnS ⟨x, y, z⟩ n).x, .int .i64 (turnS ⟨x, y, z⟩ n).y, .int .i64 (turnS ⟨x, y, z⟩ n).z], .int .i64 0]) ∧ Ext w w' := by
  have hok := near_ok hp
  have hi : inB 0 23 (n : Int) = true := inB_iff.2 (by omega)
  obtain ⟨W, hW, E, ba, bb, hz⟩ := boxes2 w #[.int .i64 x, .int .i64 y, .int .i64 z] #[.int .i64 0, .int .i64 0, .int .i64 0] 56 56
  have B0 : Blk W w.heap.size 56 #[.int .i64 x, .int .i64 y, .int .i64 z] := by rw [← hW]; exact (Blk.new _ _ _).alloc _
  have B1 : Blk W (w.heap.size + 1) 56 #[.int .i64 0, .int .i64 0, .int .i64 0] := by
    rw [← hW]
    have := Blk.new (w.alloc (.cells #[.int .i64 x, .int .i64 y, .int .i64 z] 56)) #[.int .i64 0, .int .i64 0, .int .i64 0] 56
    rwa [World.size_alloc] at this
  go_enter Tryd.func51, Tryd.ntmps51
  go_wp2_with fail
  refine (near_c x y z _ _ _).mono ?_
  rintro e w1 ⟨rfl, E1⟩
  go_wp2_with fail
  refine (isTurn1_c w1 n _).mono ?_
  rintro e w2 ⟨rfl, rfl⟩
  have B02 := (B0.ext E1).alloc (.cells #[.int .i64 n] 3)
  have B12 := (B1.ext E1).alloc (.cells #[.int .i64 n] 3)
  have E2 := (E.trans E1).alloc (.cells #[.int .i64 n] 3)
  have c2 := B02.cell
  obtain ⟨w2, hw2⟩ : ∃ w2, w1.alloc (.cells #[.int .i64 n] 3) = w2 := ⟨_, rfl⟩
  rw [hw2] at B02 B12 E2 c2
  go_wp2_with fail
  refine (turn_c x y z n _ hn hok).mono ?_
  rintro e w3 ⟨rfl, E3⟩
  have B13 := B12.ext E3
  have c3 := B13.cell
  have f3 := B13.frozen
  obtain ⟨q, hq⟩ : ∃ q, turnS ⟨x, y, z⟩ n = q := ⟨_, rfl⟩
  rw [hq]
  have Hq := Lib.hid hq
  clear hq
  go_wp2_with fail
  refine bodyPost_ret (v := .tuple #[.agg #[.int .i64 q.x, .int .i64 q.y, .int .i64 q.z], .int .i64 0]) (by simp [results, Tryd.results51, go_sem, c3]) rfl ⟨by rw [Hq.out], ?_⟩
  exact (((E2.trans E3).setCell (Nat.le_succ _) _).setCell (Nat.le_succ _) _).setCell (Nat.le_succ _) _

end Go.Proofs.YtaaeapjnjjbglaaDoor

namespace Go.Proofs.YtaaeapjnjjbglaaDoor
open Go.RowKit

/-- The brick of a laid plate. -/
def brickX (l : List Plate) (a : Laid) : Int := if a.turned then a.x + (plateAt l a.plate.toNat).D - 1 else a.x
def brickCells (s : Shape) (l : List Plate) (a : Laid) : List Value :=
  [.int .i64 a.plate, .int .i64 (brickX l a), .int .i64 a.y, .int .i64 a.z, .int .u8 (if a.turned then 1 else 0), .int .u8 (s.colorAt a.x a.y a.z)]
def bricksV (s : Shape) (l : List Plate) (c : List Laid) (k : Nat) : List Value := ((c.take k).map (brickCells s l)).flatten
theorem bricksV_succ {s : Shape} {l : List Plate} {c : List Laid} {k : Nat} {a : Laid} (h : c[k]? = some a) : bricksV s l c (k + 1) = bricksV s l c k ++ brickCells s l a := by
  unfold bricksV
  rw [List.take_add_one, h]
  simp
theorem infoBrick : (Tryd.prog.info? 58).map (fun i => (i.zero, i.size, i.bytes)) = some (some (.agg #[.int .i64 0, .int .i64 0, .int .i64 0, .int .i64 0, .int .u8 0, .int .u8 0]), 6, 40) := by kernel_rfl
theorem turnS_one (d : Int) : turnS ⟨0, d, 0⟩ 1 = ⟨-d, 0, 0⟩ := by rfl
theorem own_far {w : World} {base : Nat} {e : TypeId} {size : Nat} {v : Value} {n : Nat} {xs : List Value} (h : w.ownsRow base e size v n xs) {p : Addr} (hp : v.ownBlock ≠ some p.block) (u : Value) : (w.setCell p u).ownsRow base e size v n xs := by
  obtain ⟨h1, h2⟩ := h
  refine ⟨h1, ?_⟩
  rcases h2 with h2 | ⟨g, cap, cur, hv, hg, hh, r⟩
  · exact Or.inl h2
  · refine Or.inr ⟨g, cap, cur, hv, hg, ?_, r⟩
    rw [Below.heap_setCell _ _ _ _ (fun e => hp (by rw [hv, ← e]; rfl))]
    exact hh
/-- A new block in a world that has only grown. -/
def NewBrick (cs : Array Value) (w0 : World) (v : Value) (w : World) : Prop := ∃ g, v = .pointer (some ⟨g, 0, none⟩) ∧ w0.heap.size ≤ g ∧ Blk w g 58 cs ∧ Ext w0 w
/-- What Model hands back for a composition. -/
def ModelRes (s : Shape) (l : List Plate) (c : List Laid) (w : World) (e : Ending) (w' : World) : Prop :=
  (∃ v, e = .returned (.tuple #[.agg #[v], .int .i64 0]) ∧ w'.ownsRow w.heap.size 58 6 v c.length (bricksV s l c c.length)) ∧ Ext w w'
theorem comp_parts {s : Shape} {l : List Plate} {c : List Laid} (h : compErr s l c = 0) : s.valid = true ∧ platesB l = true ∧ compB s l c = true := by
  unfold compErr at h
  split at h
  · split at h
    · split at h
      · exact ⟨by assumption, by assumption, by assumption⟩
      · omega
    · omega
  · omega
theorem comp_lies {s : Shape} {l : List Plate} {c : List Laid} (h : compB s l c = true) {k : Nat} {a : Laid} (ha : c[k]? = some a) : liesB s l a = true := by
  unfold compB at h
  rw [Bool.and_eq_true, List.all_eq_true] at h
  have := h.1 k (List.mem_range.2 (List.getElem?_eq_some_iff.1 ha).1)
  unfold compAt at this
  rw [Bool.and_eq_true, laidAt_eq ha] at this
  exact this.1

set_option maxRecDepth 100000 in
set_option maxHeartbeats 4000000 in
theorem model_ok (s : Shape) (A : Option Addr) (cap : Nat) (l : List Plate) (PA : Option Addr) (pcap : Nat) (c : List Laid) (CA : Option Addr) (ccap : Nat) (he : compErr s l c = 0) (hclen : c.length ≤ 1000) (w : World)
    (hs : Bytes w A cap s.cells) (hl : Plates w PA pcap l) (hcs : Laids w CA ccap c) :
    Calls Tryd.prog 20 #[.agg #[.int .i64 s.W, .int .i64 s.D, .int .i64 s.H, .slice A s.cells.length cap], .slice PA l.length pcap, .slice CA c.length ccap] w (ModelRes s l c w) := by
  obtain ⟨hv, okl, hcomp⟩ := comp_parts he
  have ok := Shape.ok_of hv
  have He := Lib.hid he
  have Hcomp := Lib.hid hcomp
  clear he hv hcomp
  obtain ⟨W1, hW1, E1, B1, hz1⟩ := box_ w #[.int .i64 s.W, .int .i64 s.D, .int .i64 s.H, .slice A s.cells.length cap] 24
  obtain ⟨W2, hW2, E2, B2, hz2⟩ := box_ W1 #[.slice none 0 0] 48
  rw [hz1] at B2
  have B1 := B1.ext E2
  have b1 := B1.cell
  have E12 := E1.trans E2
  go_enter Tryd.func20, Tryd.ntmps20
  go_wp2_with fail
  refine (check_c s A cap l PA pcap c CA ccap hclen _ (hs.ext E12) (hl.ext E12) (hcs.ext E12)).mono ?_
  rintro e W3 ⟨rfl, E3⟩
  rw [He.out]
  have B1 := B1.ext E3
  have B2 := B2.ext E3
  have E13 := E12.trans E3
  obtain ⟨MB, hMB⟩ : ∃ MB, W3.heap.size = MB := ⟨_, rfl⟩
  obtain ⟨W4, hW4, E4, B4, hz4⟩ := box_ W3 #[.slice none 0 0] 48
  have hwMB : w.heap.size + 1 < MB := by have := B2.lt; omega
  rw [hMB] at B4
  have B1 := B1.ext E4
  have B2 := B2.ext E4
  have E14 := E13.trans E4
  clear b1
  go_wp2_with fail
  have HMB := Lib.hid hMB
  clear hMB hW4 hW1 hW2 hz2 hz4
  obtain ⟨S, hS⟩ : ∃ S, w.heap.size = S := ⟨_, rfl⟩
  rw [hS] at B1 B2 hwMB ⊢
  have HS := Lib.hid hS
  clear hS
  go_loopw [25] (fun i wr => ∃ (k : Nat) (v : Value), k ≤ c.length ∧ i = .int .i64 k ∧ Ext w wr ∧ Blk wr S 24 #[.int .i64 s.W, .int .i64 s.D, .int .i64 s.H, .slice A s.cells.length cap] ∧
    Blk wr (S + 1) 48 #[.slice none 0 0] ∧ Blk wr MB 48 #[v] ∧ wr.ownsRow (MB + 1) 58 6 v k (bricksV s l c k)) (fun i _ => c.length - (intOf i).toNat)
  case atStart => exact ⟨0, _, by omega, rfl, E14, B1, B2, B4, World.ownsRow_nil _ _ _ _⟩
  case round =>
    obtain ⟨k, v, hk, rfl, E, BS, BR, BM, own⟩ := hrel
    clear B1 B2 B4
    have hMr := BM.lt
    by_cases hlt : k < c.length
    · obtain ⟨b, off, a, rfl, ha, hb, a0, a1, a2, a3, a4⟩ := hcs.at_ hlt
      obtain ⟨q0, q1, q2, q3, q4⟩ := E.five a0 a1 a2 a3 a4
      have hbr : b < wr.heap.size := Nat.lt_of_lt_of_le hb E.size
      have hli := comp_lies Hcomp.out ha
      have hin : s.inside a.x a.y a.z = true := (lies_iff.1 hli).2.1
      obtain ⟨hp1, hp2⟩ := liesB_plate hli
      have Ha := Lib.hid ha
      clear ha hli
      obtain ⟨W5, hW5, E5, B5, hz5⟩ := box_ wr #[.int .i64 a.plate, .int .i64 a.x, .int .i64 a.y, .int .i64 a.z, .bool a.turned] 64
      clear hz5
      have b5 := B5.cell
      have bs5 := (BS.ext E5).cell
      have hlt5 := B5.lt
      have hS5 := (BS.ext E5).lt
      have hM5 := (BM.ext E5).lt
      have E05 := E.trans E5
      obtain ⟨i1, i2, i3, i4, i5, i6, i7⟩ := s.idx_in ok hin
      obtain ⟨sb, soff, col, hSA, hcol, hok, hbl, hcell⟩ := (hs.ext E05).at_ (k := (s.idx a.x a.y a.z).toNat) (by omega)
      subst hSA
      have Hcol : Hid (s.colorAt a.x a.y a.z = col) := Lib.hid (by
        rw [Shape.colorAt, if_pos hin, List.getD_eq_getElem?_getD, hcol]
        rfl)
      clear hcol
      obtain ⟨⟨x1, x2⟩, ⟨y1, y2⟩, z1, z2⟩ := (s.inside_iff _ _ _).1 hin
      clear hin
      obtain ⟨w1, w2⟩ := ok.w
      obtain ⟨d1, d2⟩ := ok.d
      obtain ⟨h1, h2⟩ := ok.h
      have ei : (a.z * s.D + a.y) * s.W + a.x = s.idx a.x a.y a.z := rfl
      have hi2 : (s.idx a.x a.y a.z) < (s.cells.length : Int) := i2
      have hw1 : IntKind.i64.wrap (a.z * s.D) = a.z * s.D := IntWalk.i64_in _ (by omega)
      have hw0 : IntKind.i64.wrap (a.z * s.D + a.y) = a.z * s.D + a.y := IntWalk.i64_in _ (by omega)
      have hw2 : IntKind.i64.wrap ((a.z * s.D + a.y) * s.W) = (a.z * s.D + a.y) * s.W := IntWalk.i64_in _ (by omega)
      have hw3 : IntKind.i64.wrap (s.idx a.x a.y a.z) = s.idx a.x a.y a.z := IntWalk.i64_in _ (by omega)
      go_upto_region 8 with (fail)
      go_cut [12, 25] from 25 to 84 (fun s12 s25 wx => NewBrick #[.int .i64 a.plate, .int .i64 a.x, .int .i64 a.y, .int .i64 a.z, .int .u8 0, .int .u8 col] W5 s12 wx ∧ s25 = .int .i64 k)
      case first =>
        have l0 := b5 0
        have l1 := b5 1
        have l2 := b5 2
        have l3 := b5 3
        have s0 := bs5 0
        have s1 := bs5 1
        have s3 := bs5 3
        clear b5 bs5
        go_region_held3 (fun w' => w'.cell? ⟨wr.heap.size, 0, none⟩ = some (.int .i64 a.plate) ∧ w'.cell? ⟨wr.heap.size, 1, none⟩ = some (.int .i64 a.x) ∧ w'.cell? ⟨wr.heap.size, 2, none⟩ = some (.int .i64 a.y) ∧ w'.cell? ⟨wr.heap.size, 3, none⟩ = some (.int .i64 a.z) ∧
          w'.cell? ⟨S, 0, none⟩ = some (.int .i64 s.W) ∧ w'.cell? ⟨S, 1, none⟩ = some (.int .i64 s.D) ∧ w'.cell? ⟨S, 3, none⟩ = some (.slice (some ⟨sb, soff, none⟩) s.cells.length cap) ∧ w'.cell? ⟨sb, soff + (s.idx a.x a.y a.z).toNat, none⟩ = some (.int .u8 col)) (go_keep) (first | fail)
        all_goals
          go_wp2_with fail
          go_meet
          exact ⟨⟨_, rfl, Nat.le_refl _, (Blk.new _ _ _).drew, ((Ext.refl _).alloc _).drew⟩, rfl⟩
      case rest =>
        clear b5 bs5 hw0 hw1 hw2 hw3 ei hi2 hcell q0 q1 q2 q3 q4
        obtain ⟨⟨g, rfl, hg, BB, E6⟩, rfl⟩ := hcut
        have E06 := E05.trans E6
        have BS6 := (BS.ext E5).ext E6
        have BR6 := (BR.ext E5).ext E6
        have BM6 := (BM.ext E5).ext E6
        have B56 := B5.ext E6
        have own6 := own_ext (own_ext own E5) E6
        have hml : k + 1 ≤ maxLen := by unfold maxLen; omega
        obtain ⟨i0, hi, hz0, hz1', hz2'⟩ := info_parts infoBrick
        have Hsn := Lib.hid (bricksV_succ (s := s) (l := l) Ha.out)
        have hgM : MB < g := by omega
        have hgS : S < g := by omega
        have hvg : v.ownBlock ≠ some g := fun e => by have := (own.lt g e).2; omega
        obtain ⟨t, ht⟩ : ∃ t, a.turned = t := ⟨_, rfl⟩
        rw [ht] at B56
        have Ht := Lib.hid ht
        clear ht
        have bm := BM6.cell
        cases t
        · have b5 := B56.cell
          have bb := BB.cell
          have hbase7 : MB + 1 ≤ wc.heap.size := BM6.lt
          go_wp2_with (at_builtin; refine wpList_append_one #[.int .i64 a.plate, .int .i64 a.x, .int .i64 a.y, .int .i64 a.z, .int .u8 0, .int .u8 col] rfl (.tmp 79) (.tmp 81) 46 rfl (MB + 1) 58 58 i0 _ 6 40 Tryd.underlying46 hi hz0 hz1' hz2' rfl (by decide) v k _ _ rfl own6 rfl rfl (by simp [Value.oneCell']) hml (by omega) hbase7 ?_; intro g8 cap8 w8 own8 hg8; have BS8 := (BS6.alloc (.cells #[.int .i64 a.plate, .int .i64 a.x, .int .i64 a.y, .int .i64 a.z, .int .u8 0, .int .u8 col] 58)).grown hg8 (own_ne own6 (by omega)); have BR8 := (BR6.alloc (.cells #[.int .i64 a.plate, .int .i64 a.x, .int .i64 a.y, .int .i64 a.z, .int .u8 0, .int .u8 col] 58)).grown hg8 (own_ne own6 (by omega)); have BM8 := (BM6.alloc (.cells #[.int .i64 a.plate, .int .i64 a.x, .int .i64 a.y, .int .i64 a.z, .int .u8 0, .int .u8 col] 58)).grown hg8 (own_ne own6 (by omega)); have bm8 := BM8.cell 0; have fm8 := BM8.frozen 0; have E8 := (E06.alloc (.cells #[.int .i64 a.plate, .int .i64 a.x, .int .i64 a.y, .int .i64 a.z, .int .u8 0, .int .u8 col] 58)).grown hg8 (fun q hq => by have := (own6.lt q hq).1; rw [HS.out]; omega))
          go_roundw
          case rel =>
            refine ⟨k + 1, .slice (some ⟨g8, 0, none⟩) (k + 1) cap8, by omega, by go_num, E8.setCell (by rw [HS.out]; show S ≤ MB; omega) _, BS8.far (by show S ≠ MB; omega) _, BR8.far (by show S + 1 ≠ MB; omega) _, BM8.set_ 0 _, own_setCell ?_ (show MB < MB + 1 by omega) _⟩
            rw [Hsn.out]
            have hbc : brickCells s l a = [.int .i64 a.plate, .int .i64 a.x, .int .i64 a.y, .int .i64 a.z, .int .u8 0, .int .u8 col] := by
              unfold brickCells brickX
              rw [Ht.out, Hcol.out]
              simp
            rw [hbc]
            exact own8
          case measure => simp only [intOf]; omega
        · obtain ⟨pb, poff, p, hPA, hpl, hpb, p0, p1, p2, p3⟩ := (hl.ext E06).at_ (k := a.plate.toNat) (by omega)
          subst hPA
          have okp := plate_ok okl hpl
          have okw := okp.w
          have okd := okp.d
          have Hp := Lib.hid (plateAt_eq hpl)
          clear hpl okp p0 p2 p3
          have HT : Hid (∀ w, Calls Tryd.prog 51 #[.agg #[.int .i64 0, .int .i64 (p.D - 1), .int .i64 0], .int .i64 1] w fun e w' => e = .returned (.tuple #[.agg #[.int .i64 (1 - p.D), .int .i64 0, .int .i64 0], .int .i64 0]) ∧ Ext w w') := Lib.hid (fun w => by
            have := Turn_ok 0 (p.D - 1) 0 1 w (by omega) (nearB_iff.2 (by simp only; omega))
            rw [turnS_one] at this
            rw [show (1 : Int) - p.D = -(p.D - 1) by omega]
            exact this)
          have b5 := B56.cell
          go_wp2_with fail
          refine (HT.out _).mono ?_
          rintro e W7 ⟨rfl, E7⟩
          go_upto_region 11 with (fail)
          obtain ⟨W8, hW8, E8, BC, hz8⟩ := box_ W7 #[.int .i64 (1 - p.D), .int .i64 0, .int .i64 0] 56
          rw [hW8]
          clear hz8 hW8
          have E78 := E7.trans E8
          have E08 := E06.trans E78
          have BB8 := BB.ext E78
          have bb8 := BB8.cell
          have ff8 := BB8.frozen
          have hg7 : g < W7.heap.size := (BB.ext E7).lt
          obtain ⟨W9, hW9, BB9, keep9, ext9, hz9⟩ := BB8.store1 4 (.int .u8 1)
          clear hz9
          have BB9 : Blk W9 g 58 #[.int .i64 a.plate, .int .i64 a.x, .int .i64 a.y, .int .i64 a.z, .int .u8 1, .int .u8 col] := BB9
          have bb9 := BB9.cell
          have ff9 := BB9.frozen
          have BC9 := keep9 _ _ _ (by omega) BC
          have bc9 := BC9.cell
          obtain ⟨W10, hW10, BB10, keep10, ext10, hz10⟩ := BB9.store1 1 (.int .i64 (a.x - (1 - p.D)))
          clear hz10
          have BB10 : Blk W10 g 58 #[.int .i64 a.plate, .int .i64 (a.x - (1 - p.D)), .int .i64 a.y, .int .i64 a.z, .int .u8 1, .int .u8 col] := BB10
          have bb10 := BB10.cell
          have BS10 := keep10 _ _ _ (by omega) (keep9 _ _ _ (by omega) (BS6.ext E78))
          have BR10 := keep10 _ _ _ (by omega) (keep9 _ _ _ (by omega) (BR6.ext E78))
          have BM10 := keep10 _ _ _ (by omega) (keep9 _ _ _ (by omega) (BM6.ext E78))
          have E10 : Ext w W10 := ext10 w (ext9 w E08 (by rw [HS.out]; omega)) (by rw [HS.out]; omega)
          have own10 : W10.ownsRow (MB + 1) 58 6 v k (bricksV s l c k) := by
            rw [← hW10, ← hW9]
            exact own_far (own_far (own_ext own6 E78) hvg _) hvg _
          clear bm
          have bm := BM10.cell
          have hbase7 : MB + 1 ≤ W10.heap.size := BM10.lt
          go_wp2_with (at_builtin; refine wpList_append_one #[.int .i64 a.plate, .int .i64 (a.x - (1 - p.D)), .int .i64 a.y, .int .i64 a.z, .int .u8 1, .int .u8 col] rfl (.tmp 79) (.tmp 81) 46 rfl (MB + 1) 58 58 i0 _ 6 40 Tryd.underlying46 hi hz0 hz1' hz2' rfl (by decide) v k _ _ rfl own10 rfl rfl (by simp [Value.oneCell']) hml (by omega) hbase7 ?_; intro g8 cap8 w8 own8 hg8; have BS8 := (BS10.alloc (.cells #[.int .i64 a.plate, .int .i64 (a.x - (1 - p.D)), .int .i64 a.y, .int .i64 a.z, .int .u8 1, .int .u8 col] 58)).grown hg8 (own_ne own10 (by omega)); have BR8 := (BR10.alloc (.cells #[.int .i64 a.plate, .int .i64 (a.x - (1 - p.D)), .int .i64 a.y, .int .i64 a.z, .int .u8 1, .int .u8 col] 58)).grown hg8 (own_ne own10 (by omega)); have BM8 := (BM10.alloc (.cells #[.int .i64 a.plate, .int .i64 (a.x - (1 - p.D)), .int .i64 a.y, .int .i64 a.z, .int .u8 1, .int .u8 col] 58)).grown hg8 (own_ne own10 (by omega)); have bm8 := BM8.cell 0; have fm8 := BM8.frozen 0; have E8 := (E10.alloc (.cells #[.int .i64 a.plate, .int .i64 (a.x - (1 - p.D)), .int .i64 a.y, .int .i64 a.z, .int .u8 1, .int .u8 col] 58)).grown hg8 (fun q hq => by have := (own10.lt q hq).1; rw [HS.out]; omega))
          go_roundw
          case rel =>
            refine ⟨k + 1, .slice (some ⟨g8, 0, none⟩) (k + 1) cap8, by omega, by go_num, E8.setCell (by rw [HS.out]; show S ≤ MB; omega) _, BS8.far (by show S ≠ MB; omega) _, BR8.far (by show S + 1 ≠ MB; omega) _, BM8.set_ 0 _, own_setCell ?_ (show MB < MB + 1 by omega) _⟩
            rw [Hsn.out]
            have hbc : brickCells s l a = [.int .i64 a.plate, .int .i64 (a.x - (1 - p.D)), .int .i64 a.y, .int .i64 a.z, .int .u8 1, .int .u8 col] := by
              unfold brickCells brickX
              rw [Ht.out, Hcol.out]
              rw [if_pos rfl, if_pos rfl, Hp.out, show a.x + p.D - 1 = a.x - (1 - p.D) by omega]
            rw [hbc]
            exact own8
          case measure => simp only [intOf]; omega
    · obtain rfl : k = c.length := by omega
      obtain ⟨VA, vc, rfl⟩ := own_forms own
      have bm := BM.cell
      have br := BR.cell
      have fr := BR.frozen
      go_wp2_with fail
      refine bodyPost_ret (v := .tuple #[.agg #[.slice VA c.length vc], .int .i64 0]) ?_ rfl ?_
      · simp [results, Tryd.results20, go_sem, br]
      · exact ⟨⟨_, rfl, own_base (own_setCell own (show S + 1 < MB + 1 by omega) _) (by rw [HS.out]; omega)⟩, E.setCell (by rw [HS.out]; show S ≤ S + 1; omega) _⟩

set_option maxRecDepth 100000 in
set_option maxHeartbeats 2000000 in
theorem model_bad (s : Shape) (A : Option Addr) (cap : Nat) (l : List Plate) (PA : Option Addr) (pcap : Nat) (c : List Laid) (CA : Option Addr) (ccap : Nat) (e0 : Int) (he : compErr s l c = e0) (h0 : e0 ≠ 0) (hclen : c.length ≤ 1000) (w : World)
    (hs : Bytes w A cap s.cells) (hl : Plates w PA pcap l) (hcs : Laids w CA ccap c) :
    Calls Tryd.prog 20 #[.agg #[.int .i64 s.W, .int .i64 s.D, .int .i64 s.H, .slice A s.cells.length cap], .slice PA l.length pcap, .slice CA c.length ccap] w fun e w' =>
      e = .returned (.tuple #[.agg #[.slice none 0 0], .int .i64 e0]) ∧ Ext w w' := by
  obtain ⟨W1, hW1, E1, B1, hz1⟩ := box_ w #[.int .i64 s.W, .int .i64 s.D, .int .i64 s.H, .slice A s.cells.length cap] 24
  obtain ⟨W2, hW2, E2, B2, hz2⟩ := box_ W1 #[.slice none 0 0] 48
  rw [hz1] at B2
  have B1 := B1.ext E2
  have b1 := B1.cell
  have E12 := E1.trans E2
  have He := Lib.hid he
  have h0b : (e0 == 0) = false := by simpa using h0
  have h0c : (e0 != 0) = true := by simpa using h0
  clear he h0
  go_enter Tryd.func20, Tryd.ntmps20
  go_wp2_with fail
  refine (check_c s A cap l PA pcap c CA ccap hclen _ (hs.ext E12) (hl.ext E12) (hcs.ext E12)).mono ?_
  rintro e W3 ⟨rfl, E3⟩
  rw [He.out]
  have B2 := B2.ext E3
  have b2 := B2.cell
  have f2 := B2.frozen
  go_wp2_with fail
  refine bodyPost_ret (v := .tuple #[.agg #[.slice none 0 0], .int .i64 e0]) ?_ rfl ⟨rfl, (E12.trans E3).setCell (Nat.le_succ _) _⟩
  simp [results, Tryd.results20, go_sem, b2]
end Go.Proofs.YtaaeapjnjjbglaaDoor

namespace Go.Proofs.YtaaeapjnjjbglaaDoor
open Go.RowKit

theorem cell_same (a b c : Int) (w : World) : (binOp .neq 56 (.agg #[.int .i64 a, .int .i64 b, .int .i64 c]) (.agg #[.int .i64 a, .int .i64 b, .int .i64 c])).run Tryd.prog w = .ok (.bool false) w := by
  simp [go_sem]
theorem brick_same (a b c d e f : Int) (w : World) : (binOp .neq 58 (.agg #[.int .i64 a, .int .i64 b, .int .i64 c, .int .i64 d, .int .u8 e, .int .u8 f]) (.agg #[.int .i64 a, .int .i64 b, .int .i64 c, .int .i64 d, .int .u8 e, .int .u8 f])).run Tryd.prog w = .ok (.bool false) w := by
  simp [go_sem]
theorem knob_same (a b c d e : Int) (w : World) : (binOp .neq 110 (.agg #[.int .i64 a, .int .i64 b, .int .i64 c, .int .u8 d, .int .u8 e]) (.agg #[.int .i64 a, .int .i64 b, .int .i64 c, .int .u8 d, .int .u8 e])).run Tryd.prog w = .ok (.bool false) w := by
  simp [go_sem]

def BrickRow (r : List Value) : Prop := ∃ a b c d e f : Int, r = [.int .i64 a, .int .i64 b, .int .i64 c, .int .i64 d, .int .u8 e, .int .u8 f]
def CellRow (r : List Value) : Prop := ∃ a b c : Int, r = [.int .i64 a, .int .i64 b, .int .i64 c]
def KnobRow (r : List Value) : Prop := ∃ a b c d e : Int, r = [.int .i64 a, .int .i64 b, .int .i64 c, .int .u8 d, .int .u8 e]

end Go.Proofs.YtaaeapjnjjbglaaDoor

namespace Go.Proofs.YtaaeapjnjjbglaaDoor
open Go.RowKit

/-! ### what kinds are -/
def areaP (p : Plate) : Nat := (p.W * p.D).toNat
def kcell (p : Plate) (i : Nat) : List Value := [.int .i64 ((i : Int) % p.W), .int .i64 ((i : Int) / p.W), .int .i64 0]
def kknob (p : Plate) (i : Nat) (d s : Int) : List Value := [.int .i64 ((i : Int) % p.W), .int .i64 ((i : Int) / p.W), .int .i64 0, .int .u8 d, .int .u8 s]
def cellRows (p : Plate) (n : Nat) : List (List Value) := (List.range n).map (kcell p)
def knobRows (p : Plate) : Nat → List (List Value)
  | 0 => []
  | n + 1 => knobRows p n ++ [kknob p n 4 1, kknob p n 5 2]
theorem cellRows_succ (p : Plate) (n : Nat) : (cellRows p (n + 1)).flatten = (cellRows p n).flatten ++ kcell p n := by
  unfold cellRows
  rw [List.range_succ, List.map_append, List.flatten_append]
  simp
theorem knobRows_succ (p : Plate) (n : Nat) : (knobRows p (n + 1)).flatten = (knobRows p n).flatten ++ (kknob p n 4 1 ++ kknob p n 5 2) := by
  show (knobRows p n ++ [kknob p n 4 1, kknob p n 5 2]).flatten = _
  rw [List.flatten_append]
  simp
theorem cellRows_len (p : Plate) (n : Nat) : (cellRows p n).length = n := by simp [cellRows]
theorem knobRows_len (p : Plate) (n : Nat) : (knobRows p n).length = 2 * n := by
  induction n with
  | zero => rfl
  | succ n ih =>
    show (knobRows p n ++ [kknob p n 4 1, kknob p n 5 2]).length = _
    rw [List.length_append, ih]
    simp
    omega
theorem cellRows_row (p : Plate) (n : Nat) : ∀ r ∈ cellRows p n, CellRow r := by
  intro r hr
  obtain ⟨i, _, rfl⟩ := List.mem_map.1 hr
  exact ⟨_, _, _, rfl⟩
theorem knobRows_row (p : Plate) (n : Nat) : ∀ r ∈ knobRows p n, KnobRow r := by
  induction n with
  | zero => intro r hr; cases hr
  | succ n ih =>
    intro r hr
    have hr : r ∈ knobRows p n ++ [kknob p n 4 1, kknob p n 5 2] := hr
    rw [List.mem_append] at hr
    rcases hr with hr | hr
    · exact ih r hr
    · simp only [List.mem_cons, List.not_mem_nil, or_false] at hr
      rcases hr with rfl | rfl
      · exact ⟨_, _, _, _, _, rfl⟩
      · exact ⟨_, _, _, _, _, rfl⟩
/-- A kind in memory, its rows the call's own. -/
def KindOwn (w : World) (T : Nat) (r : List Value) (p : Plate) : Prop :=
  ∃ CA cc KA kc, r = [.slice CA (areaP p) cc, .slice KA (2 * areaP p) kc, .int .i64 (p.W * p.D)] ∧ w.ownsRow T 56 3 (.slice CA (areaP p) cc) (areaP p) (cellRows p (areaP p)).flatten ∧
    w.ownsRow T 110 5 (.slice KA (2 * areaP p) kc) (2 * areaP p) (knobRows p (areaP p)).flatten
theorem KindOwn.ext {w w' : World} {T : Nat} {r : List Value} {p : Plate} (h : KindOwn w T r p) (E : Ext w w') : KindOwn w' T r p := by
  obtain ⟨CA, cc, KA, kc, h1, h2, h3⟩ := h
  exact ⟨CA, cc, KA, kc, h1, own_ext h2 E, own_ext h3 E⟩
/-- The kinds of the first k plates. -/
def KindsOwn (w : World) (T : Nat) (l : List Plate) (k : Nat) (rows : List (List Value)) : Prop :=
  rows.length = k ∧ ∀ (j : Nat) (r : List Value) (p : Plate), rows[j]? = some r → l[j]? = some p → KindOwn w T r p ∧ r.length = 3
theorem infoCell : (Tryd.prog.info? 56).map (fun i => (i.zero, i.size, i.bytes)) = some (some (.agg #[.int .i64 0, .int .i64 0, .int .i64 0]), 3, 24) := by kernel_rfl
theorem infoKnob : (Tryd.prog.info? 110).map (fun i => (i.zero, i.size, i.bytes)) = some (some (.agg #[.int .i64 0, .int .i64 0, .int .i64 0, .int .u8 0, .int .u8 0]), 5, 32) := by kernel_rfl
theorem infoKind : (Tryd.prog.info? 77).map (fun i => (i.zero, i.size, i.bytes)) = some (some (.agg #[.slice none 0 0, .slice none 0 0, .int .i64 0]), 3, 56) := by kernel_rfl
def tooBig (l : List Plate) : Bool := l.any fun p => decide (24 < p.W * p.D)
def kindsErr (l : List Plate) : Int := if platesB l = true then (if tooBig l = true then 2 else 0) else 71

theorem own_but {G B : Nat} {w w' : World} {base : Nat} {e : TypeId} {size : Nat} {v : Value} {n : Nat} {xs : List Value} (h : w.ownsRow base e size v n xs) (k : But G B w w') (h1 : ∀ r, v.ownBlock = some r → r < B ∧ r ≠ G) : w'.ownsRow base e size v n xs := by
  obtain ⟨h2, h3⟩ := h
  refine ⟨h2, ?_⟩
  rcases h3 with h3 | ⟨g, cap, cur, hv, hg, hh, r⟩
  · exact Or.inl h3
  · obtain ⟨q1, q2⟩ := h1 g (by rw [hv]; rfl)
    exact Or.inr ⟨g, cap, cur, hv, hg, (k.block g q1 q2).trans hh, r⟩
/-- append(s, x, y, ..) where the m new elements have just been laid as a new block's cells. -/
theorem wpList_append_many {P : Program} {ops : Array Oper} {o : Oper} {a : Act} {Q : Exit → Act → World → Prop} {w : World} {rest : List Oper} (cs : Array Value) (m : Nat) (hm : 0 < m) (hgd : o.guard = none) (s x : Operand) (t : TypeId) (ho : o.op = .call { callee := .builtin .append, args := #[s, x], argTypes := #[t, t] })
    (base : Nat) (e te : TypeId) (i : TypeInfo) (z : Value) (size bytes : Nat) (ht : P.underlying t = some (.slice e)) (hi : P.info? e = some i) (hz : i.zero = some z)
    (hsize : i.size = size) (hby : i.bytes = bytes) (hzs : z.cells.size = size) (hsz : 0 < size)
    (v : Value) (n c : Nat) (xs : List Value) (hs : a.eval s = v) (hown : w.ownsRow base e size v n xs)
    (hx : a.eval x = .slice (some ⟨w.heap.size, 0, none⟩) m c) (hl : cs.size = m * size) (h1 : ∀ u ∈ cs.toList, u.oneCell' = true)
    (h63 : n + m ≤ maxLen) (hbytes : (n + m) * bytes ≤ 140737488355328) (hbase : base ≤ w.heap.size)
    (h : ∀ g' cap' w', w'.ownsRow base e size (.slice (some ⟨g', 0, none⟩) (n + m) cap') (n + m) (xs ++ cs.toList) → (w.alloc (.cells cs te)).grownBy w' v.ownBlock → wpList P ops Q rest (a.put o.dst (.slice (some ⟨g', 0, none⟩) (n + m) cap')) w') :
    wpList P ops Q (o :: rest) a (w.alloc (.cells cs te)) :=
  wpList_plain hgd fun _ hK => by
    have := step_append_new (P := P) (w := w.alloc (.cells cs te)) (ops := ops) (o := o) (a := a) (Q := Q) (F := True) hgd s x t ho base e i z size bytes ht hi hz hsize hby hzs hsz v n xs hs (hown.alloc _) w.heap.size m c cs.toList hx (by simp [hl]) (fun j => by rw [cell_new]; simp) h1 h63 hbytes (by simp; omega) (fun v' w' h2 h3 => hK _ _ (by
      obtain ⟨g', cap', rfl⟩ := own_form h2 (by omega)
      exact h g' cap' w' h2 h3))
    rwa [if_pos (by simp [Region.wanted, hgd])] at this

/-- A new block of a type in a world that has only grown. -/
def NewBlk (t : TypeId) (cs : Array Value) (w0 : World) (v : Value) (w : World) : Prop := ∃ g, v = .pointer (some ⟨g, 0, none⟩) ∧ w0.heap.size ≤ g ∧ Blk w g t cs ∧ Ext w0 w
def KindsRes (l : List Plate) (w : World) (e : Ending) (w' : World) : Prop :=
  (∃ OA oc rows, e = .returned (.tuple #[.slice OA l.length oc, .int .i64 0]) ∧ w'.ownsRow w.heap.size 77 3 (.slice OA l.length oc) l.length rows.flatten ∧ KindsOwn w' w.heap.size l l.length rows) ∧ Ext w w'
theorem KindOwn.but {G B T : Nat} {w0 W3 w : World} {r : List Value} {p : Plate} (h : KindOwn w0 T r p) (E : Ext w0 W3) (k : But G B W3 w) (h1 : w0.heap.size ≤ G) (h2 : G < B) : KindOwn w T r p := by
  obtain ⟨CA, cc, KA, kc, e, c1, c2⟩ := h
  refine ⟨CA, cc, KA, kc, e, own_but (own_ext c1 E) k (fun q hq => ?_), own_but (own_ext c2 E) k (fun q hq => ?_)⟩
  · have := (c1.lt q hq).2
    omega
  · have := (c2.lt q hq).2
    omega
theorem KindOwn.grown {T : Nat} {w w' : World} {r : List Value} {p : Plate} {v : Value} {n : Nat} {xs : List Value} {b : Nat} (h : KindOwn w T r p) (own : w.ownsRow b 77 3 v n xs) (hg : w.grownBy w' v.ownBlock) : KindOwn w' T r p := by
  obtain ⟨CA, cc, KA, kc, e, c1, c2⟩ := h
  exact ⟨CA, cc, KA, kc, e, own_grown c1 hg (own_apart c1 own (by decide)), own_grown c2 hg (own_apart c2 own (by decide))⟩
theorem KindsOwn.snoc {T : Nat} {w : World} {l : List Plate} {k : Nat} {rows : List (List Value)} {r : List Value} {p : Plate} (h : KindsOwn w T l k rows) (hp : l[k]? = some p) (hr : KindOwn w T r p) (h3 : r.length = 3) : KindsOwn w T l (k + 1) (rows ++ [r]) := by
  obtain ⟨h1, h2⟩ := h
  refine ⟨by simp [h1], fun j q p' hj hp' => ?_⟩
  rcases Nat.lt_or_ge j rows.length with hlt | hge
  · rw [List.getElem?_append_left hlt] at hj
    exact h2 j q p' hj hp'
  · rw [List.getElem?_append_right hge] at hj
    have hj0 : j - rows.length = 0 := by
      have := (List.getElem?_eq_some_iff.1 hj).1
      simp at this
      omega
    rw [hj0] at hj
    simp only [List.getElem?_cons_zero, Option.some.injEq] at hj
    subst hj
    obtain rfl : j = k := by omega
    rw [hp] at hp'
    cases hp'
    exact ⟨hr, h3⟩
def KindsPost (l : List Plate) (w : World) (e : Ending) (w' : World) : Prop :=
  (tooBig l = false → KindsRes l w e w') ∧ (tooBig l = true → e = .returned (.tuple #[.slice none 0 0, .int .i64 2]) ∧ Ext w w')

set_option maxRecDepth 100000 in
set_option maxHeartbeats 8000000 in
theorem kinds_c (l : List Plate) (PA : Option Addr) (pcap : Nat) (okl : platesB l = true) (w : World) (hl : Plates w PA pcap l) :
    Calls Tryd.prog 21 #[.slice PA l.length pcap] w (KindsPost l w) := by
  have hl8 := plates_len okl
  have Hpe := Lib.hid (platesErr_ok okl)
  go_enter Tryd.func21, Tryd.ntmps21
  go_wp2_with fail
  refine (checkPlates_c PA pcap l _ hl).mono ?_
  rintro e W1 ⟨rfl, E1⟩
  rw [Hpe.out]
  go_wp2_with fail
  obtain ⟨T, hT⟩ : ∃ T, W1.heap.size = T := ⟨_, rfl⟩
  have hwT : w.heap.size ≤ T := by have := E1.size; omega
  have HT := Lib.hid hT
  clear hT
  go_loopw [5, 19] (fun ov i wr => ∃ (k : Nat) (rows : List (List Value)), k ≤ l.length ∧ i = .int .i64 k ∧ Ext w wr ∧ T ≤ wr.heap.size ∧ wr.ownsRow T 77 3 ov k rows.flatten ∧ KindsOwn wr T l k rows ∧
    ∀ (j : Nat) (p : Plate), j < k → l[j]? = some p → p.W * p.D ≤ 24) (fun _ i _ => l.length - (intOf i).toNat)
  case atStart => exact ⟨0, [], by omega, rfl, E1, by rw [HT.out]; exact Nat.le_refl _, World.ownsRow_nil _ _ _ _, ⟨rfl, fun j r p hj => by simp at hj⟩, fun j p hj => by omega⟩
  case round =>
    obtain ⟨k, rows, hk, rfl, E, hTr, own, hko, hsm⟩ := hrel
    have Hko := Lib.hid hko
    have Hsm := Lib.hid hsm
    clear hko hsm
    by_cases hlt : k < l.length
    · obtain ⟨pb, poff, p, hPA, hp, hpb, p0, p1, p2, p3⟩ := (hl.ext E).at_ hlt
      subst hPA
      have okp := plate_ok okl hp
      obtain ⟨pw1, pw2⟩ := okp.w
      have pd := okp.d
      clear okp
      have Hp := Lib.hid hp
      clear hp
      have e1 := mul_bd (A := 8) (B := 8) pw1 (by omega : p.W ≤ (8 : Nat)) (by omega : 1 ≤ p.D) (by omega : p.D ≤ (8 : Nat))
      obtain ⟨n, hn⟩ : ∃ n : Nat, p.W * p.D = n := Int.eq_ofNat_of_zero_le (by omega)
      have Hn := Lib.hid hn
      have hw1 : IntKind.i64.wrap (p.W * p.D) = n := by rw [hn]; exact IntWalk.i64_in _ (by omega)
      obtain ⟨W2, hW2, E2, B2, hz2⟩ := box_ wr #[.int .i64 p.W, .int .i64 p.D, .int .i64 p.N, .int .u8 p.color] 39
      clear hz2
      have b2 := B2.cell
      have E02 := E.trans E2
      by_cases hbig : 24 < n
      · have hd : decide (24 < (n : Int)) = true := by simp; omega
        have Htb : Hid (tooBig l = true) := Lib.hid (by
          unfold tooBig
          rw [List.any_eq_true]
          exact ⟨p, List.mem_of_getElem? Hp.out, by rw [Hn.out]; exact hd⟩)
        clear hbig
        go_wp2_with fail
        go_ret2
        exact ⟨fun h => (by rw [Htb.out] at h; cases h), fun _ => ⟨rfl, E02⟩⟩
      · have hd : decide (24 < (n : Int)) = false := by simp; omega
        obtain ⟨W3, hW3, E3, B3, hz3⟩ := box_ W2 #[.slice none 0 0, .slice none 0 0, .int .i64 n] 77
        obtain ⟨PB, hPB⟩ : ∃ PB, wr.heap.size = PB := ⟨_, rfl⟩
        obtain ⟨KB, hKB⟩ : ∃ KB, W2.heap.size = KB := ⟨_, rfl⟩
        obtain ⟨T3, hT3⟩ : ∃ T3, W3.heap.size = T3 := ⟨_, rfl⟩
        rw [hPB] at B2 b2
        rw [hKB] at B3
        have hKT : KB < T3 := by omega
        have hPK : PB < KB := by have := B2.lt; omega
        have hTP : T ≤ PB := by omega
        have B23 := B2.ext E3
        have E03 := E02.trans E3
        have E23 := E2.trans E3
        clear hn hz3
        go_wp2_with fail
        have HPB := Lib.hid hPB
        have HKB := Lib.hid hKB
        have HT3 := Lib.hid hT3
        clear hPB hKB hT3 hw1 hW2 hW3 b2 hd
        obtain ⟨wo, rfl⟩ : ∃ wo : World, wo = wr := ⟨_, rfl⟩
        go_loopw [33] (fun i wr => ∃ (j : Nat) (cv kv : Value), j ≤ n ∧ i = .int .i64 j ∧ But KB T3 W3 wr ∧ T3 ≤ wr.heap.size ∧ Blk wr KB 77 #[cv, kv, .int .i64 n] ∧
          wr.ownsRow T3 56 3 cv j (cellRows p j).flatten ∧ wr.ownsRow T3 110 5 kv (2 * j) (knobRows p j).flatten) (fun i _ => n - (intOf i).toNat)
        case atStart => exact ⟨0, _, _, by omega, rfl, But.refl _ _ _, by rw [HT3.out]; exact Nat.le_refl _, B3, World.ownsRow_nil _ _ _ _, World.ownsRow_nil _ _ _ _⟩
        case round =>
          obtain ⟨j, cv, kv, hj, rfl, but, hTr3, BK, oc, ok⟩ := hrel
          have BP := B23.but but (by omega) (by omega)
          by_cases hltj : j < n
          · have p0' := BP.cell 0
            have c0 : 0 ≤ (j : Int) / p.W := Int.ediv_nonneg (by omega) (by omega)
            have c2 : (j : Int) / p.W ≤ j := Int.ediv_le_self _ (by omega)
            have b3 := Int.emod_nonneg (j : Int) (show p.W ≠ 0 by omega)
            have b4 := Int.emod_lt_of_pos (j : Int) (show 0 < p.W by omega)
            obtain ⟨x, hx⟩ : ∃ x, (j : Int) % p.W = x := ⟨_, rfl⟩
            obtain ⟨y, hy⟩ : ∃ y, (j : Int) / p.W = y := ⟨_, rfl⟩
            rw [hx] at b3 b4
            rw [hy] at c0 c2
            have f1 : (j : Int).tmod p.W = x := by rw [Int.tmod_eq_emod_of_nonneg (by omega)]; exact hx
            have f2 : (j : Int).tdiv p.W = y := by rw [Int.tdiv_eq_ediv_of_nonneg (by omega)]; exact hy
            have f3 : IntKind.i64.wrap x = x := IntWalk.i64_in _ (by omega)
            have f4 : IntKind.i64.wrap y = y := IntWalk.i64_in _ (by omega)
            have n1 : (p.W == 0) = false := by simp; omega
            have n3 : ¬ p.W = 0 := by omega
            have hPr : PB < wr.heap.size := by omega
            have np1 : PB ≠ wr.heap.size := by omega
            have np2 : wr.heap.size ≠ PB := by omega
            go_upto_region 15 with (fail)
            go_cut [11, 33] from 33 to 60 (fun s11 s33 wx => NewBlk 56 #[.int .i64 x, .int .i64 y, .int .i64 0] wr s11 wx ∧ s33 = .int .i64 j)
            case first =>
              go_region_held3 (fun w' => w'.cell? ⟨PB, 0, none⟩ = some (.int .i64 p.W)) (go_keep) (first | fail)
              all_goals
                go_wp2_with fail
                go_meet
                exact ⟨⟨_, rfl, Nat.le_refl _, (Blk.new _ _ _).drew, ((Ext.refl _).alloc _).drew⟩, rfl⟩
            case rest =>
              clear f1 f2 f3 f4 n1 n3 p0' np1 np2
              have Hx := Lib.hid hx
              have Hy := Lib.hid hy
              clear hx hy
              obtain ⟨⟨g, rfl, hg, BC, E6⟩, rfl⟩ := hcut
              have BK6 := BK.ext E6
              have bk6 := BK6.cell
              have fk6 := BK6.frozen
              have bc6 := BC.cell
              have oc6 := own_ext oc E6
              have ok6 := own_ext ok E6
              have but6 := but.ext E6 hTr3
              have hT6 : T3 ≤ wc.heap.size := Nat.le_trans hTr3 E6.size
              obtain ⟨iC, hi, hz0, hz1', hz2'⟩ := info_parts infoCell
              obtain ⟨iK, ki, kz0, kz1, kz2⟩ := info_parts infoKnob
              have hml : j + 1 ≤ maxLen := by unfold maxLen; omega
              have hml2 : 2 * j + 2 ≤ maxLen := by unfold maxLen; omega
              have Hcs : Hid ((cellRows p (j + 1)).flatten = (cellRows p j).flatten ++ [.int .i64 x, .int .i64 y, .int .i64 0]) := Lib.hid (by rw [cellRows_succ, kcell, Hx.out, Hy.out])
              have Hks : Hid ((knobRows p (j + 1)).flatten = (knobRows p j).flatten ++ [.int .i64 x, .int .i64 y, .int .i64 0, .int .u8 4, .int .u8 1, .int .i64 x, .int .i64 y, .int .i64 0, .int .u8 5, .int .u8 2]) := Lib.hid (by rw [knobRows_succ, kknob, kknob, Hx.out, Hy.out]; rfl)
              have hgK : g ≠ KB := by omega
              go_upto_region 17 with (at_builtin; refine wpList_append_one #[.int .i64 x, .int .i64 y, .int .i64 0] rfl (.tmp 46) (.tmp 48) 59 rfl T3 56 56 iC _ 3 24 Tryd.underlying59 hi hz0 hz1' hz2' rfl (by decide) cv j _ _ rfl oc6 rfl rfl (by simp [Value.oneCell']) hml (by omega) hT6 ?_; intro g7 cap7 w7 own7 hg7; have BK7 := (BK6.alloc (.cells #[.int .i64 x, .int .i64 y, .int .i64 0] 56)).grown hg7 (own_ne oc6 hKT); have bk7 := BK7.cell; have fk7 := BK7.frozen)
              obtain ⟨W8, hW8, BK8, keep8, ext8, hz8⟩ := BK7.store1 0 (.slice (some ⟨g7, 0, none⟩) (j + 1) cap7)
              rw [hW8]
              have BK8 : Blk W8 KB 77 #[.slice (some ⟨g7, 0, none⟩) (j + 1) cap7, kv, .int .i64 n] := BK8
              have BC8 := keep8 _ _ _ hgK ((BC.alloc (.cells #[.int .i64 x, .int .i64 y, .int .i64 0] 56)).grown hg7 (fun e => by have := (oc.lt g e.symm).2; omega))
              have oc8 : W8.ownsRow T3 56 3 (.slice (some ⟨g7, 0, none⟩) (j + 1) cap7) (j + 1) ((cellRows p j).flatten ++ [.int .i64 x, .int .i64 y, .int .i64 0]) := by
                rw [← hW8]
                exact own_setCell own7 hKT _
              have ok8 : W8.ownsRow T3 110 5 kv (2 * j) (knobRows p j).flatten := by
                rw [← hW8]
                exact own_setCell (own_grown (own_ext ok6 (ext_alloc _ _)) hg7 (own_apart (own_ext ok6 (ext_alloc wc (.cells #[.int .i64 x, .int .i64 y, .int .i64 0] 56))) (own_ext oc6 (ext_alloc wc (.cells #[.int .i64 x, .int .i64 y, .int .i64 0] 56))) (by decide))) hKT _
              have hs7 := hg7.size
              have hs6 := (ext_alloc wc (.cells #[.int .i64 x, .int .i64 y, .int .i64 0] 56)).size
              have hT8 : T3 ≤ W8.heap.size := by omega
              have but8 : But KB T3 W3 W8 := by
                rw [← hW8]
                exact ((but6.alloc hT6 _).grown hg7 (by omega) (fun q hq => (oc6.lt q hq).1)).setG _ _
              have bk8 := BK8.cell
              have fk8 := BK8.frozen
              have bc8 := BC8.cell
              clear bk6 fk6 bc6 bk7 fk7 hW8 hz8 hs7 hs6
              go_wp2_with (at_builtin; refine wpList_append_many #[.int .i64 x, .int .i64 y, .int .i64 0, .int .u8 4, .int .u8 1, .int .i64 x, .int .i64 y, .int .i64 0, .int .u8 5, .int .u8 2] 2 (by omega) rfl (.tmp 52) (.tmp 57) 75 rfl T3 110 110 iK _ 5 32 Tryd.underlying75 ki kz0 kz1 kz2 rfl (by decide) kv (2 * j) _ _ rfl ok8 rfl rfl (by simp [Value.oneCell']) hml2 (by omega) hT8 ?_; intro g9 cap9 w9 own9 hg9; have BK9 := (BK8.alloc (.cells #[.int .i64 x, .int .i64 y, .int .i64 0, .int .u8 4, .int .u8 1, .int .i64 x, .int .i64 y, .int .i64 0, .int .u8 5, .int .u8 2] 110)).grown hg9 (own_ne ok8 hKT); have bk9 := BK9.cell; have fk9 := BK9.frozen)
              go_roundw
              case rel =>
                have hs9 := hg9.size
                have hs8 := (ext_alloc W8 (.cells #[.int .i64 x, .int .i64 y, .int .i64 0, .int .u8 4, .int .u8 1, .int .i64 x, .int .i64 y, .int .i64 0, .int .u8 5, .int .u8 2] 110)).size
                have oc9 := own_grown (own_ext oc8 (ext_alloc W8 (.cells #[.int .i64 x, .int .i64 y, .int .i64 0, .int .u8 4, .int .u8 1, .int .i64 x, .int .i64 y, .int .i64 0, .int .u8 5, .int .u8 2] 110))) hg9 (own_apart (own_ext oc8 (ext_alloc W8 (.cells #[.int .i64 x, .int .i64 y, .int .i64 0, .int .u8 4, .int .u8 1, .int .i64 x, .int .i64 y, .int .i64 0, .int .u8 5, .int .u8 2] 110))) (own_ext ok8 (ext_alloc W8 (.cells #[.int .i64 x, .int .i64 y, .int .i64 0, .int .u8 4, .int .u8 1, .int .i64 x, .int .i64 y, .int .i64 0, .int .u8 5, .int .u8 2] 110))) (by decide))
                refine ⟨j + 1, .slice (some ⟨g7, 0, none⟩) (j + 1) cap7, .slice (some ⟨g9, 0, none⟩) (2 * j + 2) cap9, by omega, by go_num, ((but8.alloc hT8 _).grown hg9 (by omega) (fun q hq => (ok8.lt q hq).1)).setG _ _, by rw [set_size]; omega, BK9.set_ 1 _, own_setCell ?_ hKT _, own_setCell ?_ hKT _⟩
                · rw [Hcs.out]
                  exact oc9
                · rw [Hks.out]
                  exact own9
              case measure => simp only [intOf]; omega
          · obtain rfl : j = n := by omega
            obtain ⟨CA, cc, rfl⟩ := own_forms oc
            obtain ⟨KA, kc, rfl⟩ := own_forms ok
            have bk := BK.cell
            have own3 := own_but (own_ext own E23) but (fun q hq => by have := (own.lt q hq).2; have := HPB.out; omega)
            have hTw : T ≤ wr.heap.size := by omega
            have Harea : areaP p = j := by unfold areaP; rw [Hn.out]; rfl
            have HA := Lib.hid Harea
            clear Harea
            obtain ⟨iD, hi, hz0, hz1', hz2'⟩ := info_parts infoKind
            have hml : k + 1 ≤ maxLen := by unfold maxLen; omega
            go_wp2_with (at_builtin; refine wpList_append_one #[.slice CA j cc, .slice KA (2 * j) kc, .int .i64 j] rfl (.tmp 61) (.tmp 63) 51 rfl T 77 77 iD _ 3 56 Tryd.underlying51 hi hz0 hz1' hz2' rfl (by decide) _ k _ _ rfl own3 rfl rfl (by simp [Value.oneCell']) hml (by omega) hTw ?_; intro g7 cap7 w7 own7 hg7)
            go_roundw
            case rel =>
              have hs7 := hg7.size
              have hs6 := (ext_alloc wr (.cells #[.slice CA j cc, .slice KA (2 * j) kc, .int .i64 j] 77)).size
              have own3' := own_ext own3 (ext_alloc wr (.cells #[.slice CA j cc, .slice KA (2 * j) kc, .int .i64 j] 77))
              have hkw : KindOwn wr T [.slice CA j cc, .slice KA (2 * j) kc, .int .i64 j] p := by
                refine ⟨CA, cc, KA, kc, by rw [HA.out, Hn.out], ?_, ?_⟩
                · rw [HA.out]; exact own_base oc (by omega)
                · rw [HA.out]; exact own_base ok (by omega)
              have hk7 : KindOwn w7 T [.slice CA j cc, .slice KA (2 * j) kc, .int .i64 j] p := (hkw.ext (ext_alloc wr (.cells #[.slice CA j cc, .slice KA (2 * j) kc, .int .i64 j] 77))).grown own3' hg7
              have hko7 : KindsOwn w7 T l k rows := ⟨Hko.out.1, fun a r q h1 h2 => by
                obtain ⟨h3, h4⟩ := Hko.out.2 a r q h1 h2
                exact ⟨(((h3.but E23 but (by rw [HPB.out]; omega) hKT).ext (ext_alloc wr (.cells #[.slice CA j cc, .slice KA (2 * j) kc, .int .i64 j] 77))).grown own3' hg7), h4⟩⟩
              refine ⟨k + 1, rows ++ [[.slice CA j cc, .slice KA (2 * j) kc, .int .i64 j]], by omega, by go_num, ?_, by omega, ?_, hko7.snoc Hp.out hk7 rfl, fun a q ha hq => ?_⟩
              · exact ((but.below E03 (by omega) (by omega)).alloc _).grown hg7 (fun q hq => by have := (own3.lt q hq).1; omega)
              · rw [List.flatten_append]
                exact own7
              · rcases Nat.lt_or_ge a k with h | h
                · exact Hsm.out a q h hq
                · obtain rfl : a = k := by omega
                  rw [Hp.out] at hq
                  cases hq
                  rw [Hn.out]
                  omega
            case measure => simp only [intOf]; omega
    · obtain rfl : k = l.length := by omega
      have Htb : Hid (tooBig l = false) := Lib.hid (by
        unfold tooBig
        rw [List.any_eq_false]
        intro p hp
        obtain ⟨i, hi⟩ := List.getElem?_of_mem hp
        have := Hsm.out i p (List.getElem?_eq_some_iff.1 hi).1 hi
        simpa using this)
      obtain ⟨OA, oc, rfl⟩ := own_forms own
      go_wp2_with fail
      go_ret2
      refine ⟨fun _ => ⟨⟨OA, oc, rows, rfl, own_base own hwT, ⟨Hko.out.1, fun a r q h1 h2 => ?_⟩⟩, E⟩, fun h => (by rw [Htb.out] at h; cases h)⟩
      obtain ⟨⟨CA, cc, KA, kc, h3, h5, h6⟩, h4⟩ := Hko.out.2 a r q h1 h2
      exact ⟨⟨CA, cc, KA, kc, h3, own_base h5 hwT, own_base h6 hwT⟩, h4⟩
end Go.Proofs.YtaaeapjnjjbglaaDoor
