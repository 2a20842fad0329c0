/- Texts of another chapter in a namespace of their own (printed by lat.py). -/
import Derived.Test.YtaaeapjnjjbglaaGreatDoorCd1
import Derived.Test.YtaaeapjnjjbglaaGreatDoorCd2
import Derived.Test.YtaaeapjnjjbglaaGreatDoorCd4
import Derived.Test.YtaaeapjnjjbglaaGreatDoorCd15
import Derived.Laws.EntriesVeiled
import Derived.Deep.CutRange
import Derived.Deep.DeepCutAuto
import Derived.BigQuiet
import Derived.Shelf.SlLaysF0
import Derived.Test.YtaaeapjnjjbglaaGreatDoorProg
import Derived.Shelf.SlSortCmp.WholeK
import Derived.Sort.LotA
import Derived.Shelf.SlSortCmp.QuietGrown
import Derived.BigRegion
import Derived.ChangeAlike

-- holds: Has KindS Near Ord RSorted SortC SortLaid Step Turn Turned Turners
namespace Go.Proofs.YtaaeapjnjjbglaaGreatDoor.Lat
open Go.RowKit

/-- A coordinate that is not great. -/
def CB (x : Int) : Prop := -1000000 ≤ x ∧ x ≤ 1000000

set_option maxHeartbeats 400000 in
theorem tn1_c (x y z : Int) (w : World) (hz : CB z) :
    Calls Tryz.prog 87 #[.agg #[.int .i64 x, .int .i64 y, .int .i64 z]] w fun e w' => e = .returned (.agg #[.int .i64 x, .int .i64 (-z), .int .i64 y]) ∧ Ext w w' := by
  obtain ⟨z1, z2⟩ := hz
  go_enter Tryz.func87, Tryz.ntmps87
  go_wp2
  exact bodyPost_ret (v := .agg #[.int .i64 x, .int .i64 (-z), .int .i64 y]) (by simp [results, Tryz.results87, go_sem]) rfl ⟨rfl, by apply_rules [Ext.refl, Ext.alloc]⟩

set_option maxHeartbeats 400000 in
theorem tn2_c (x y z : Int) (w : World) :
    Calls Tryz.prog 88 #[.agg #[.int .i64 x, .int .i64 y, .int .i64 z]] w fun e w' => e = .returned (.agg #[.int .i64 x, .int .i64 y, .int .i64 z]) ∧ Ext w w' := by
  go_enter Tryz.func88, Tryz.ntmps88
  go_wp2
  exact bodyPost_ret (v := .agg #[.int .i64 x, .int .i64 y, .int .i64 z]) (by simp [results, Tryz.results88, go_sem]) rfl ⟨rfl, by apply_rules [Ext.refl, Ext.alloc]⟩

set_option maxHeartbeats 400000 in
theorem tn5_c (x y z : Int) (w : World) :
    Calls Tryz.prog 91 #[.agg #[.int .i64 x, .int .i64 y, .int .i64 z]] w fun e w' => e = .returned (.agg #[.int .i64 z, .int .i64 x, .int .i64 y]) ∧ Ext w w' := by
  go_enter Tryz.func91, Tryz.ntmps91
  go_wp2
  exact bodyPost_ret (v := .agg #[.int .i64 z, .int .i64 x, .int .i64 y]) (by simp [results, Tryz.results91, go_sem]) rfl ⟨rfl, by apply_rules [Ext.refl, Ext.alloc]⟩

set_option maxHeartbeats 400000 in
theorem tn6_c (x y z : Int) (w : World) (hx : CB x) (hz : CB z) :
    Calls Tryz.prog 92 #[.agg #[.int .i64 x, .int .i64 y, .int .i64 z]] w fun e w' => e = .returned (.agg #[.int .i64 (-z), .int .i64 (-x), .int .i64 y]) ∧ Ext w w' := by
  obtain ⟨x1, x2⟩ := hx
  obtain ⟨z1, z2⟩ := hz
  go_enter Tryz.func92, Tryz.ntmps92
  go_wp2
  exact bodyPost_ret (v := .agg #[.int .i64 (-z), .int .i64 (-x), .int .i64 y]) (by simp [results, Tryz.results92, go_sem]) rfl ⟨rfl, by apply_rules [Ext.refl, Ext.alloc]⟩

theorem CB.neg {x : Int} (h : CB x) : CB (-x) := by unfold CB at *; omega

set_option maxHeartbeats 800000 in
theorem tn3_c (x y z : Int) (g : Nat) (w : World) (hy : CB y) (hz : CB z) (hg : w.cell? ⟨g, 0, none⟩ = some (.func (.func 87) #[] #[])) :
    Calls Tryz.prog 89 #[.agg #[.int .i64 x, .int .i64 y, .int .i64 z], .pointer (some ⟨g, 0, none⟩)] w fun e w' => e = .returned (.agg #[.int .i64 x, .int .i64 (-y), .int .i64 (-z)]) ∧ Ext w w' := by
  obtain ⟨W, hW, E, ba, bb, hsz⟩ := boxes2 w #[.int .i64 x, .int .i64 y, .int .i64 z] #[.int .i64 0, .int .i64 0, .int .i64 0] 53 53
  have hgW := E.cell hg
  have hz' := hz.neg
  have B3 : Blk W (w.heap.size + 1) 53 #[.int .i64 0, .int .i64 0, .int .i64 0] := by
    rw [← hW]
    have := Blk.new (w.alloc (.cells #[.int .i64 x, .int .i64 y, .int .i64 z] 53)) #[.int .i64 0, .int .i64 0, .int .i64 0] 53
    rwa [World.size_alloc] at this
  go_enter Tryz.func89, Tryz.ntmps89
  go_wp2
  refine wp_region_tail 5 (by kernel_rfl) (by kernel_rfl) ?_
  simp only [List.take_succ_cons, List.take_zero, List.drop_succ_cons, List.drop_zero]
  repeat (go_big_quiet_step ((go_at_call 87; exact quiet_ext (tn1_c _ _ _ _ (by assumption)))))
  refine wpQuiet_nil ?_
  intro W2 hW2
  have E2 : Ext W W2 := by
    obtain ⟨x, rfl⟩ := hW2
    exact (Ext.refl _).grow x
  clear hW2
  have B32 := B3.ext E2
  have cc := B32.cell
  have ff := B32.frozen
  go_wp2
  refine bodyPost_ret (v := .agg #[.int .i64 x, .int .i64 (-y), .int .i64 (-z)]) (by simp [results, Tryz.results89, go_sem, cc]) rfl ⟨rfl, ?_⟩
  exact (((E.trans E2).setCell (Nat.le_succ _) _).setCell (Nat.le_succ _) _).setCell (Nat.le_succ _) _

set_option maxHeartbeats 800000 in
theorem tn4_c (x y z : Int) (g : Nat) (w : World) (hy : CB y) (hz : CB z) (hg : w.cell? ⟨g, 0, none⟩ = some (.func (.func 87) #[] #[])) :
    Calls Tryz.prog 90 #[.agg #[.int .i64 x, .int .i64 y, .int .i64 z], .pointer (some ⟨g, 0, none⟩)] w fun e w' => e = .returned (.agg #[.int .i64 x, .int .i64 z, .int .i64 (-y)]) ∧ Ext w w' := by
  obtain ⟨W, hW, E, ba, bb, hsz⟩ := boxes2 w #[.int .i64 x, .int .i64 y, .int .i64 z] #[.int .i64 0, .int .i64 0, .int .i64 0] 53 53
  have hgW := E.cell hg
  have hz' := hz.neg
  have hy' := hy.neg
  have B3 : Blk W (w.heap.size + 1) 53 #[.int .i64 0, .int .i64 0, .int .i64 0] := by
    rw [← hW]
    have := Blk.new (w.alloc (.cells #[.int .i64 x, .int .i64 y, .int .i64 z] 53)) #[.int .i64 0, .int .i64 0, .int .i64 0] 53
    rwa [World.size_alloc] at this
  go_enter Tryz.func90, Tryz.ntmps90
  go_wp2
  refine wp_region_tail 7 (by kernel_rfl) (by kernel_rfl) ?_
  simp only [List.take_succ_cons, List.take_zero, List.drop_succ_cons, List.drop_zero]
  repeat (go_big_quiet_step ((go_at_call 87; exact quiet_ext (tn1_c _ _ _ _ (by assumption)))))
  refine wpQuiet_nil ?_
  intro W2 hW2
  have E2 : Ext W W2 := by
    obtain ⟨x, rfl⟩ := hW2
    exact (Ext.refl _).grow x
  clear hW2
  have B32 := B3.ext E2
  have cc := B32.cell
  have ff := B32.frozen
  go_wp2
  refine bodyPost_ret (v := .agg #[.int .i64 x, .int .i64 z, .int .i64 (-y)]) (by simp [results, Tryz.results90, go_sem, cc]) rfl ⟨rfl, ?_⟩
  exact (((E.trans E2).setCell (Nat.le_succ _) _).setCell (Nat.le_succ _) _).setCell (Nat.le_succ _) _

end Go.Proofs.YtaaeapjnjjbglaaGreatDoor.Lat
namespace Go.Proofs.YtaaeapjnjjbglaaGreatDoor.Lat
open Go.RowKit

set_option maxHeartbeats 800000 in
theorem turners_c (w : World) :
    Calls Tryz.prog 70 #[] w fun e w' => ∃ g, e = .returned (.agg #[.func (.func 88) #[] #[], .func (.func 87) #[] #[],
      .func (.func 89) #[] #[.pointer (some ⟨g, 0, none⟩)], .func (.func 90) #[] #[.pointer (some ⟨g, 0, none⟩)],
      .func (.func 91) #[] #[], .func (.func 92) #[] #[]]) ∧ w'.cell? ⟨g, 0, none⟩ = some (.func (.func 87) #[] #[]) ∧ Ext w w' := by
  have hmf : ∀ (fn : Fn) (first cap : Array Value) (w : World), (Instr.makeFunc fn first cap).run Tryz.prog w = .ok (.func fn first cap) w := fun _ _ _ _ => rfl
  go_enter Tryz.func70, Tryz.ntmps70
  go_wp2
  refine bodyPost_ret (v := .agg #[.func (.func 88) #[] #[], .func (.func 87) #[] #[],
      .func (.func 89) #[] #[.pointer (some ⟨w.heap.size + 1, 0, none⟩)], .func (.func 90) #[] #[.pointer (some ⟨w.heap.size + 1, 0, none⟩)],
      .func (.func 91) #[] #[], .func (.func 92) #[] #[]]) (by simp [results, Tryz.results70, go_sem]) rfl ⟨w.heap.size + 1, rfl, ?_, by apply_rules [Ext.refl, Ext.alloc]⟩
  simp [go_sem]

/-- A cell of the lattice. -/
structure Pt where
  x : Int
  y : Int
  z : Int
def Pt.ok (p : Pt) : Prop := CB p.x ∧ CB p.y ∧ CB p.z
def rotZ (p : Pt) : Pt := ⟨-p.y, p.x, p.z⟩
def rotZn (p : Pt) : Nat → Pt
  | 0 => p
  | k + 1 => rotZ (rotZn p k)
/-- What is done to a cell after it was turned about z. -/
def turnQ (p : Pt) (q : Nat) : Pt :=
  match q with
  | 0 => p
  | 1 => ⟨p.x, -p.z, p.y⟩
  | 2 => ⟨p.x, -p.y, -p.z⟩
  | 3 => ⟨p.x, p.z, -p.y⟩
  | 4 => ⟨p.z, p.x, p.y⟩
  | _ => ⟨-p.z, -p.x, p.y⟩
def turnS (p : Pt) (n : Nat) : Pt := turnQ (rotZn p (n % 4)) (n / 4)
theorem rotZn_ok {p : Pt} (h : p.ok) (k : Nat) : (rotZn p k).ok := by
  induction k with
  | zero => exact h
  | succ k ih => exact ⟨ih.2.1.neg, ih.1, ih.2.2⟩
theorem turnQ_ok {p : Pt} (h : p.ok) (q : Nat) : (turnQ p q).ok := by
  obtain ⟨h1, h2, h3⟩ := h
  unfold turnQ
  split
  · exact ⟨h1, h2, h3⟩
  · exact ⟨h1, h3.neg, h2⟩
  · exact ⟨h1, h2.neg, h3.neg⟩
  · exact ⟨h1, h3, h2.neg⟩
  · exact ⟨h3, h1, h2⟩
  · exact ⟨h3.neg, h1.neg, h2⟩
theorem turnS_ok {p : Pt} (h : p.ok) (n : Nat) : (turnS p n).ok := turnQ_ok (rotZn_ok h _) _

set_option maxHeartbeats 3200000 in
theorem turn_c (x y z : Int) (n : Nat) (w : World) (hn : n < 24) (hp : Pt.ok ⟨x, y, z⟩) :
    Calls Tryz.prog 41 #[.agg #[.int .i64 x, .int .i64 y, .int .i64 z], .int .i64 n] w fun e w' =>
      e = .returned (.agg #[.int .i64 (turnS ⟨x, y, z⟩ n).x, .int .i64 (turnS ⟨x, y, z⟩ n).y, .int .i64 (turnS ⟨x, y, z⟩ n).z]) ∧ Ext w w' := by
  go_enter Tryz.func41, Tryz.ntmps41
  go_wp2
  go_loopw [7] (fun i wr => ∃ k : Nat, k ≤ n % 4 ∧ i = .int .i64 k ∧ Ext w wr ∧ Blk wr w.heap.size 53 #[.int .i64 (rotZn ⟨x, y, z⟩ k).x, .int .i64 (rotZn ⟨x, y, z⟩ k).y, .int .i64 (rotZn ⟨x, y, z⟩ k).z] ∧
      Blk wr (w.heap.size + 1) 53 #[.int .i64 0, .int .i64 0, .int .i64 0]) (fun i _ => n % 4 - (intOf i).toNat)
  case atStart =>
    refine ⟨0, by omega, rfl, by apply_rules [Ext.refl, Ext.alloc], (Blk.new _ _ _).alloc _, ?_⟩
    have := Blk.new (w.alloc (.cells #[.int .i64 x, .int .i64 y, .int .i64 z] 53)) #[.int .i64 0, .int .i64 0, .int .i64 0] 53
    rwa [World.size_alloc] at this
  case round =>
    obtain ⟨k, hk, rfl, E, B0, B1⟩ := hrel
    obtain ⟨p, hpk⟩ : ∃ p, rotZn ⟨x, y, z⟩ k = p := ⟨_, rfl⟩
    have hok : p.ok := hpk ▸ rotZn_ok hp k
    rw [hpk] at B0
    have Hp := Lib.hid hpk
    clear hpk
    have hz0 := hok.2.1
    obtain ⟨b1, b2⟩ := hz0
    have c0 := B0.cell
    have f0 := B0.frozen
    have c1 := B1.cell
    by_cases hlt : k < n % 4
    · go_wp2
      go_roundw
      case rel =>
        refine ⟨k + 1, by omega, by go_num, ((E.setCell (Nat.le_refl _) _).setCell (Nat.le_refl _) _).setCell (Nat.le_refl _) _, ?_, ((B1.far (by simp) _).far (by simp) _).far (by simp) _⟩
        have hr : rotZn ⟨x, y, z⟩ (k + 1) = ⟨-p.y, p.x, p.z⟩ := by
          show rotZ (rotZn ⟨x, y, z⟩ k) = _
          rw [Hp.out]
          rfl
        rw [hr]
        have := ((B0.set_ 0 (.int .i64 (-p.y))).set_ 1 (.int .i64 p.x)).set_ 2 (.int .i64 p.z)
        simpa using this
      case measure => simp [intOf]; omega
    · obtain rfl : n % 4 = k := by omega
      have hq6 : n / 4 = 0 ∨ n / 4 = 1 ∨ n / 4 = 2 ∨ n / 4 = 3 ∨ n / 4 = 4 ∨ n / 4 = 5 := by omega
      have Hq6 := Lib.hid hq6
      clear hq6
      go_wp2
      rcases Hq6.out with hq | hq | hq | hq | hq | hq
      · have Hfin := Lib.hid (show turnS ⟨x, y, z⟩ n = ⟨p.x, p.y, p.z⟩ from by unfold turnS; rw [Hp.out, hq]; rfl)
        have hqi : (n : Int) / 4 = 0 := by omega
        have hwq : IntKind.i64.wrap 0 = 0 := by decide
        have hfld : ∀ (w : World), (Instr.field 153 (.agg #[.func (.func 88) #[] #[]]) 0).run Tryz.prog w = .ok (.func (.func 88) #[] #[]) w := fun _ => by kernel_rfl
        have hidx : ∀ (g : Nat) (w : World), (Instr.index 154 (.agg #[.func (.func 88) #[] #[], .func (.func 87) #[] #[], .func (.func 89) #[] #[.pointer (some ⟨g, 0, none⟩)], .func (.func 90) #[] #[.pointer (some ⟨g, 0, none⟩)], .func (.func 91) #[] #[], .func (.func 92) #[] #[]]) (.int .i64 0)).run Tryz.prog w = .ok (.agg #[.func (.func 88) #[] #[]]) w := fun _ _ => by kernel_rfl
        clear hq Hq6
        go_region_law (first
          | (go_simp; go_at_call 70; refine (turners_c _).mono ?_; rintro e w1 ⟨g, rfl, HG, E1⟩; have B01 := B0.drew.ext E1; have B11 := B1.drew.ext E1; have c01 := B01.cell)
          | (go_simp; go_at_call 88; refine (tn2_c p.x p.y p.z _).mono ?_; rintro e w2 ⟨rfl, E2⟩; have B12 := B11.ext E2; have c12 := B12.cell; have f12 := B12.frozen))
        all_goals
          go_wp2
          refine bodyPost_ret (v := .agg #[.int .i64 p.x, .int .i64 p.y, .int .i64 p.z]) (by simp [results, Tryz.results41, go_sem, c12]) rfl ⟨by rw [Hfin.out], ?_⟩
          exact ((((E.drew.trans E1).trans E2).setCell (Nat.le_succ _) _).setCell (Nat.le_succ _) _).setCell (Nat.le_succ _) _
      · have Hfin := Lib.hid (show turnS ⟨x, y, z⟩ n = ⟨p.x, (-p.z), p.y⟩ from by unfold turnS; rw [Hp.out, hq]; rfl)
        have hqi : (n : Int) / 4 = 1 := by omega
        have hwq : IntKind.i64.wrap 1 = 1 := by decide
        have hfld : ∀ (w : World), (Instr.field 153 (.agg #[.func (.func 87) #[] #[]]) 0).run Tryz.prog w = .ok (.func (.func 87) #[] #[]) w := fun _ => by kernel_rfl
        have hidx : ∀ (g : Nat) (w : World), (Instr.index 154 (.agg #[.func (.func 88) #[] #[], .func (.func 87) #[] #[], .func (.func 89) #[] #[.pointer (some ⟨g, 0, none⟩)], .func (.func 90) #[] #[.pointer (some ⟨g, 0, none⟩)], .func (.func 91) #[] #[], .func (.func 92) #[] #[]]) (.int .i64 1)).run Tryz.prog w = .ok (.agg #[.func (.func 87) #[] #[]]) w := fun _ _ => by kernel_rfl
        clear hq Hq6
        go_region_law (first
          | (go_simp; go_at_call 70; refine (turners_c _).mono ?_; rintro e w1 ⟨g, rfl, HG, E1⟩; have B01 := B0.drew.ext E1; have B11 := B1.drew.ext E1; have c01 := B01.cell)
          | (go_simp; go_at_call 87; refine (tn1_c p.x p.y p.z _ hok.2.2).mono ?_; rintro e w2 ⟨rfl, E2⟩; have B12 := B11.ext E2; have c12 := B12.cell; have f12 := B12.frozen))
        all_goals
          go_wp2
          refine bodyPost_ret (v := .agg #[.int .i64 p.x, .int .i64 (-p.z), .int .i64 p.y]) (by simp [results, Tryz.results41, go_sem, c12]) rfl ⟨by rw [Hfin.out], ?_⟩
          exact ((((E.drew.trans E1).trans E2).setCell (Nat.le_succ _) _).setCell (Nat.le_succ _) _).setCell (Nat.le_succ _) _
      · have Hfin := Lib.hid (show turnS ⟨x, y, z⟩ n = ⟨p.x, (-p.y), (-p.z)⟩ from by unfold turnS; rw [Hp.out, hq]; rfl)
        have hqi : (n : Int) / 4 = 2 := by omega
        have hwq : IntKind.i64.wrap 2 = 2 := by decide
        have hfld : ∀ (g : Nat) (w : World), (Instr.field 153 (.agg #[.func (.func 89) #[] #[.pointer (some ⟨g, 0, none⟩)]]) 0).run Tryz.prog w = .ok (.func (.func 89) #[] #[.pointer (some ⟨g, 0, none⟩)]) w := fun _ _ => by kernel_rfl
        have hidx : ∀ (g : Nat) (w : World), (Instr.index 154 (.agg #[.func (.func 88) #[] #[], .func (.func 87) #[] #[], .func (.func 89) #[] #[.pointer (some ⟨g, 0, none⟩)], .func (.func 90) #[] #[.pointer (some ⟨g, 0, none⟩)], .func (.func 91) #[] #[], .func (.func 92) #[] #[]]) (.int .i64 2)).run Tryz.prog w = .ok (.agg #[.func (.func 89) #[] #[.pointer (some ⟨g, 0, none⟩)]]) w := fun _ _ => by kernel_rfl
        clear hq Hq6
        go_region_law (first
          | (go_simp; go_at_call 70; refine (turners_c _).mono ?_; rintro e w1 ⟨g, rfl, HG, E1⟩; have B01 := B0.drew.ext E1; have B11 := B1.drew.ext E1; have c01 := B01.cell)
          | (go_simp; go_at_call 89; refine (tn3_c p.x p.y p.z g _ hok.2.1 hok.2.2 HG).mono ?_; rintro e w2 ⟨rfl, E2⟩; have B12 := B11.ext E2; have c12 := B12.cell; have f12 := B12.frozen))
        all_goals
          go_wp2
          refine bodyPost_ret (v := .agg #[.int .i64 p.x, .int .i64 (-p.y), .int .i64 (-p.z)]) (by simp [results, Tryz.results41, go_sem, c12]) rfl ⟨by rw [Hfin.out], ?_⟩
          exact ((((E.drew.trans E1).trans E2).setCell (Nat.le_succ _) _).setCell (Nat.le_succ _) _).setCell (Nat.le_succ _) _
      · have Hfin := Lib.hid (show turnS ⟨x, y, z⟩ n = ⟨p.x, p.z, (-p.y)⟩ from by unfold turnS; rw [Hp.out, hq]; rfl)
        have hqi : (n : Int) / 4 = 3 := by omega
        have hwq : IntKind.i64.wrap 3 = 3 := by decide
        have hfld : ∀ (g : Nat) (w : World), (Instr.field 153 (.agg #[.func (.func 90) #[] #[.pointer (some ⟨g, 0, none⟩)]]) 0).run Tryz.prog w = .ok (.func (.func 90) #[] #[.pointer (some ⟨g, 0, none⟩)]) w := fun _ _ => by kernel_rfl
        have hidx : ∀ (g : Nat) (w : World), (Instr.index 154 (.agg #[.func (.func 88) #[] #[], .func (.func 87) #[] #[], .func (.func 89) #[] #[.pointer (some ⟨g, 0, none⟩)], .func (.func 90) #[] #[.pointer (some ⟨g, 0, none⟩)], .func (.func 91) #[] #[], .func (.func 92) #[] #[]]) (.int .i64 3)).run Tryz.prog w = .ok (.agg #[.func (.func 90) #[] #[.pointer (some ⟨g, 0, none⟩)]]) w := fun _ _ => by kernel_rfl
        clear hq Hq6
        go_region_law (first
          | (go_simp; go_at_call 70; refine (turners_c _).mono ?_; rintro e w1 ⟨g, rfl, HG, E1⟩; have B01 := B0.drew.ext E1; have B11 := B1.drew.ext E1; have c01 := B01.cell)
          | (go_simp; go_at_call 90; refine (tn4_c p.x p.y p.z g _ hok.2.1 hok.2.2 HG).mono ?_; rintro e w2 ⟨rfl, E2⟩; have B12 := B11.ext E2; have c12 := B12.cell; have f12 := B12.frozen))
        all_goals
          go_wp2
          refine bodyPost_ret (v := .agg #[.int .i64 p.x, .int .i64 p.z, .int .i64 (-p.y)]) (by simp [results, Tryz.results41, go_sem, c12]) rfl ⟨by rw [Hfin.out], ?_⟩
          exact ((((E.drew.trans E1).trans E2).setCell (Nat.le_succ _) _).setCell (Nat.le_succ _) _).setCell (Nat.le_succ _) _
      · have Hfin := Lib.hid (show turnS ⟨x, y, z⟩ n = ⟨p.z, p.x, p.y⟩ from by unfold turnS; rw [Hp.out, hq]; rfl)
        have hqi : (n : Int) / 4 = 4 := by omega
        have hwq : IntKind.i64.wrap 4 = 4 := by decide
        have hfld : ∀ (w : World), (Instr.field 153 (.agg #[.func (.func 91) #[] #[]]) 0).run Tryz.prog w = .ok (.func (.func 91) #[] #[]) w := fun _ => by kernel_rfl
        have hidx : ∀ (g : Nat) (w : World), (Instr.index 154 (.agg #[.func (.func 88) #[] #[], .func (.func 87) #[] #[], .func (.func 89) #[] #[.pointer (some ⟨g, 0, none⟩)], .func (.func 90) #[] #[.pointer (some ⟨g, 0, none⟩)], .func (.func 91) #[] #[], .func (.func 92) #[] #[]]) (.int .i64 4)).run Tryz.prog w = .ok (.agg #[.func (.func 91) #[] #[]]) w := fun _ _ => by kernel_rfl
        clear hq Hq6
        go_region_law (first
          | (go_simp; go_at_call 70; refine (turners_c _).mono ?_; rintro e w1 ⟨g, rfl, HG, E1⟩; have B01 := B0.drew.ext E1; have B11 := B1.drew.ext E1; have c01 := B01.cell)
          | (go_simp; go_at_call 91; refine (tn5_c p.x p.y p.z _).mono ?_; rintro e w2 ⟨rfl, E2⟩; have B12 := B11.ext E2; have c12 := B12.cell; have f12 := B12.frozen))
        all_goals
          go_wp2
          refine bodyPost_ret (v := .agg #[.int .i64 p.z, .int .i64 p.x, .int .i64 p.y]) (by simp [results, Tryz.results41, go_sem, c12]) rfl ⟨by rw [Hfin.out], ?_⟩
          exact ((((E.drew.trans E1).trans E2).setCell (Nat.le_succ _) _).setCell (Nat.le_succ _) _).setCell (Nat.le_succ _) _
      · have Hfin := Lib.hid (show turnS ⟨x, y, z⟩ n = ⟨(-p.z), (-p.x), p.y⟩ from by unfold turnS; rw [Hp.out, hq]; rfl)
        have hqi : (n : Int) / 4 = 5 := by omega
        have hwq : IntKind.i64.wrap 5 = 5 := by decide
        have hfld : ∀ (w : World), (Instr.field 153 (.agg #[.func (.func 92) #[] #[]]) 0).run Tryz.prog w = .ok (.func (.func 92) #[] #[]) w := fun _ => by kernel_rfl
        have hidx : ∀ (g : Nat) (w : World), (Instr.index 154 (.agg #[.func (.func 88) #[] #[], .func (.func 87) #[] #[], .func (.func 89) #[] #[.pointer (some ⟨g, 0, none⟩)], .func (.func 90) #[] #[.pointer (some ⟨g, 0, none⟩)], .func (.func 91) #[] #[], .func (.func 92) #[] #[]]) (.int .i64 5)).run Tryz.prog w = .ok (.agg #[.func (.func 92) #[] #[]]) w := fun _ _ => by kernel_rfl
        clear hq Hq6
        go_region_law (first
          | (go_simp; go_at_call 70; refine (turners_c _).mono ?_; rintro e w1 ⟨g, rfl, HG, E1⟩; have B01 := B0.drew.ext E1; have B11 := B1.drew.ext E1; have c01 := B01.cell)
          | (go_simp; go_at_call 92; refine (tn6_c p.x p.y p.z _ hok.1 hok.2.2).mono ?_; rintro e w2 ⟨rfl, E2⟩; have B12 := B11.ext E2; have c12 := B12.cell; have f12 := B12.frozen))
        all_goals
          go_wp2
          refine bodyPost_ret (v := .agg #[.int .i64 (-p.z), .int .i64 (-p.x), .int .i64 p.y]) (by simp [results, Tryz.results41, go_sem, c12]) rfl ⟨by rw [Hfin.out], ?_⟩
          exact ((((E.drew.trans E1).trans E2).setCell (Nat.le_succ _) _).setCell (Nat.le_succ _) _).setCell (Nat.le_succ _) _
end Go.Proofs.YtaaeapjnjjbglaaGreatDoor.Lat
namespace Go.Proofs.YtaaeapjnjjbglaaGreatDoor.Lat
open Go.RowKit

def rotX (p : Pt) : Pt := ⟨p.x, -p.z, p.y⟩
def rotXn (p : Pt) : Nat → Pt
  | 0 => p
  | k + 1 => rotX (rotXn p k)
theorem rotXn_ok {p : Pt} (h : p.ok) (k : Nat) : (rotXn p k).ok := by
  induction k with
  | zero => exact h
  | succ k ih => exact ⟨ih.1, ih.2.2.neg, ih.2.1⟩

theorem turnS_low (p : Pt) (n : Nat) (h : n / 4 < 4) : turnS p n = rotXn (rotZn p (n % 4)) (n / 4) := by
  unfold turnS
  generalize rotZn p (n % 4) = q
  have : n / 4 = 0 ∨ n / 4 = 1 ∨ n / 4 = 2 ∨ n / 4 = 3 := by omega
  rcases this with h | h | h | h <;> rw [h] <;> simp [turnQ, rotXn, rotX]
theorem turnS_four (p : Pt) (n : Nat) (h : n / 4 = 4) : turnS p n = rotZn (rotXn (rotZn p (n % 4)) 1) 1 := by
  unfold turnS
  rw [h]
  simp [turnQ, rotXn, rotX, rotZn, rotZ]
theorem turnS_five (p : Pt) (n : Nat) (h : n / 4 = 5) : turnS p n = rotZn (rotXn (rotZn p (n % 4)) 1) 3 := by
  unfold turnS
  rw [h]
  simp [turnQ, rotXn, rotX, rotZn, rotZ]

end Go.Proofs.YtaaeapjnjjbglaaGreatDoor.Lat
namespace Go.Proofs.YtaaeapjnjjbglaaGreatDoor.Lat
open Go.RowKit

def inB (lo hi n : Int) : Bool := decide (lo ≤ n) && decide (n ≤ hi)
theorem inB_iff {lo hi n : Int} : inB lo hi n = true ↔ lo ≤ n ∧ n ≤ hi := by simp [inB]
theorem inB_not {lo hi n : Int} : inB lo hi n = false ↔ ¬ (lo ≤ n ∧ n ≤ hi) := by
  rw [← inB_iff]; simp
/-- A cell's coordinates are in a range. -/
def nearB (p : Pt) (lo hi : Int) : Bool := inB lo hi p.x && (inB lo hi p.y && inB lo hi p.z)
theorem nearB_iff {p : Pt} {lo hi : Int} : nearB p lo hi = true ↔ (lo ≤ p.x ∧ p.x ≤ hi) ∧ (lo ≤ p.y ∧ p.y ≤ hi) ∧ (lo ≤ p.z ∧ p.z ≤ hi) := by
  simp [nearB, inB]
theorem nearB_not {p : Pt} {lo hi : Int} : nearB p lo hi = false ↔ ¬ ((lo ≤ p.x ∧ p.x ≤ hi) ∧ (lo ≤ p.y ∧ p.y ≤ hi) ∧ (lo ≤ p.z ∧ p.z ≤ hi)) := by
  rw [← nearB_iff]; simp

theorem ret_bool {a b : Bool} (h : a = true ↔ b = true) : Ending.returned (.bool a) = .returned (.bool b) := by rw [Bool.eq_iff_iff.2 h]

set_option maxHeartbeats 800000 in
theorem near_c (x y z lo hi : Int) (w : World) :
    Calls Tryz.prog 39 #[.agg #[.int .i64 x, .int .i64 y, .int .i64 z], .int .i64 lo, .int .i64 hi] w fun e w' => e = .returned (.bool (nearB ⟨x, y, z⟩ lo hi)) ∧ Ext w w' := by
  by_cases h1 : lo ≤ min (min x y) z
  · go_enter Tryz.func39, Tryz.ntmps39
    go_wp2
    all_goals
      go_ret
      refine ⟨ret_bool ?_, by apply_rules [Ext.refl, Ext.alloc]⟩
      rw [nearB_iff]
      simp
      omega
  · go_enter Tryz.func39, Tryz.ntmps39
    go_wp2
    all_goals
      go_ret
      refine ⟨ret_bool ?_, by apply_rules [Ext.refl, Ext.alloc]⟩
      rw [nearB_iff]
      simp
      try omega

def allTurn (xs : List Int) : Bool := xs.all fun n => inB 0 23 n
set_option maxHeartbeats 800000 in
theorem isTurn_c (A : Option Addr) (cap : Nat) (xs : List Int) (w : World) (hs : SliceIs w A xs.length cap 1 (xs.map fun n => [.int .i64 n])) :
    Calls Tryz.prog 40 #[.slice A xs.length cap] w fun e w' => e = .returned (.bool (allTurn xs)) ∧ w = w' := by
  have hl : xs.length ≤ 9223372036854775807 := by have := hs.le; have := hs.small; unfold maxLen at this; omega
  go_enter Tryz.func40, Tryz.ntmps40
  go_wp2
  go_loop [7] (fun i => ∃ k : Nat, k ≤ xs.length ∧ i = .int .i64 k ∧ ∀ j, j < k → inB 0 23 (xs.getD j 0) = true) (fun i => xs.length - (intOf i).toNat)
  case atStart => exact ⟨0, by omega, rfl, fun j hj => by omega⟩
  case round =>
    obtain ⟨k, hk, rfl, hj⟩ := hrel
    have Hj := Lib.hid hj
    clear hj
    by_cases hlt : k < xs.length
    · obtain ⟨b, off, rfl, hb, hc⟩ := hs.cells (by omega)
      obtain ⟨n, hn⟩ : ∃ n, xs[k]? = some n := ⟨_, List.getElem?_eq_getElem hlt⟩
      have hc0 := hc k [.int .i64 n] (by rw [List.getElem?_map, hn]; rfl) 0 _ rfl
      have hgd : xs.getD k 0 = n := by simp [hn]
      have Hgd := Lib.hid hgd
      have hmem : n ∈ xs := List.mem_of_getElem? hn
      clear hgd hn hc
      simp only [Nat.mul_one, Nat.add_zero] at hc0
      by_cases h1 : n < 0
      · have ha : allTurn xs = false := by
          rw [allTurn, List.all_eq_false]
          exact ⟨n, hmem, by simp [inB]; omega⟩
        have Ha := Lib.hid ha
        clear ha
        go_wp2
        go_ret
        exact ⟨by rw [Ha.out]; rfl, rfl⟩
      · by_cases h2 : 24 ≤ n
        · have ha : allTurn xs = false := by
            rw [allTurn, List.all_eq_false]
            exact ⟨n, hmem, by simp [inB]; omega⟩
          have Ha := Lib.hid ha
          clear ha
          go_wp2
          go_ret
          exact ⟨by rw [Ha.out]; rfl, rfl⟩
        · go_wp2
          go_round
          case rel =>
            refine ⟨k + 1, by omega, by go_num, fun j hj => ?_⟩
            rcases Nat.lt_or_ge j k with h | h
            · exact Hj.out j h
            · obtain rfl : j = k := by omega
              rw [Hgd.out]
              exact inB_iff.2 ⟨by omega, by omega⟩
          case measure => simp [intOf]; omega
    · obtain rfl : xs.length = k := by omega
      have ha : allTurn xs = true := by
        rw [allTurn, List.all_eq_true]
        intro n hn
        obtain ⟨i, hi⟩ := List.getElem?_of_mem hn
        have hil : i < xs.length := by
          rcases Nat.lt_or_ge i xs.length with h | h
          · exact h
          · rw [List.getElem?_eq_none h] at hi; cases hi
        have := Hj.out i hil
        simpa [hi] using this
      have Ha := Lib.hid ha
      clear ha
      go_wp2
      go_ret
      exact ⟨by rw [Ha.out]; rfl, rfl⟩
end Go.Proofs.YtaaeapjnjjbglaaGreatDoor.Lat
namespace Go.Proofs.YtaaeapjnjjbglaaGreatDoor.Lat
open Go.RowKit

/-- The step along a direction. -/
def stepS (d : Nat) : Pt :=
  match d with
  | 0 => ⟨1, 0, 0⟩
  | 1 => ⟨-1, 0, 0⟩
  | 2 => ⟨0, 1, 0⟩
  | 3 => ⟨0, -1, 0⟩
  | 4 => ⟨0, 0, 1⟩
  | _ => ⟨0, 0, -1⟩
theorem stepS_ok (d : Nat) : (stepS d).ok := by
  unfold stepS
  split <;> (unfold Pt.ok CB; simp)

def Pt.eqB (a b : Pt) : Bool := a.x == b.x && (a.y == b.y && a.z == b.z)
theorem Pt.eqB_iff {a b : Pt} : a.eqB b = true ↔ a = b := by
  cases a
  cases b
  simp [Pt.eqB]
theorem pt_eql (a b c d e f : Int) (w : World) : (binOp .eql 53 (.agg #[.int .i64 a, .int .i64 b, .int .i64 c]) (.agg #[.int .i64 d, .int .i64 e, .int .i64 f])).run Tryz.prog w = .ok (.bool (Pt.eqB ⟨a, b, c⟩ ⟨d, e, f⟩)) w := by
  unfold Pt.eqB
  by_cases h1 : a = d <;> by_cases h2 : b = e <;> by_cases h3 : c = f <;> simp [go_sem, h1, h2, h3]
theorem pt_neq (a b c d e f : Int) (w : World) : (binOp .neq 53 (.agg #[.int .i64 a, .int .i64 b, .int .i64 c]) (.agg #[.int .i64 d, .int .i64 e, .int .i64 f])).run Tryz.prog w = .ok (.bool (!Pt.eqB ⟨a, b, c⟩ ⟨d, e, f⟩)) w := by
  unfold Pt.eqB
  by_cases h1 : a = d <;> by_cases h2 : b = e <;> by_cases h3 : c = f <;> simp [go_sem, h1, h2, h3]
theorem stepS_inj {a b : Nat} (ha : a < 6) (hb : b < 6) (h : stepS a = stepS b) : a = b := by
  have e1 : a = 0 ∨ a = 1 ∨ a = 2 ∨ a = 3 ∨ a = 4 ∨ a = 5 := by omega
  have e2 : b = 0 ∨ b = 1 ∨ b = 2 ∨ b = 3 ∨ b = 4 ∨ b = 5 := by omega
  rcases e1 with rfl | rfl | rfl | rfl | rfl | rfl <;> rcases e2 with rfl | rfl | rfl | rfl | rfl | rfl <;> first | rfl | (exfalso; simp [stepS] at h)

set_option maxHeartbeats 1600000 in
theorem step_c (d : Nat) (hd : d < 6) (w : World) :
    Calls Tryz.prog 51 #[.int .i64 d] w fun e w' => e = .returned (.agg #[.int .i64 (stepS d).x, .int .i64 (stepS d).y, .int .i64 (stepS d).z]) ∧ Ext w w' := by
  have hi : ∀ (a b c : Int) (w : World), (Instr.index 161 (.agg #[.int .i64 a, .int .i64 0, .int .i64 0, .int .i64 0, .int .i64 b, .int .i64 0, .int .i64 0, .int .i64 0, .int .i64 c]) (.int .i64 0)).run Tryz.prog w = .ok (.agg #[.int .i64 a, .int .i64 0, .int .i64 0]) w := fun _ _ _ _ => by kernel_rfl
  have hj : ∀ (a b c : Int) (w : World), (Instr.index 161 (.agg #[.int .i64 a, .int .i64 0, .int .i64 0, .int .i64 0, .int .i64 b, .int .i64 0, .int .i64 0, .int .i64 0, .int .i64 c]) (.int .i64 1)).run Tryz.prog w = .ok (.agg #[.int .i64 0, .int .i64 b, .int .i64 0]) w := fun _ _ _ _ => by kernel_rfl
  have hk : ∀ (a b c : Int) (w : World), (Instr.index 161 (.agg #[.int .i64 a, .int .i64 0, .int .i64 0, .int .i64 0, .int .i64 b, .int .i64 0, .int .i64 0, .int .i64 0, .int .i64 c]) (.int .i64 2)).run Tryz.prog w = .ok (.agg #[.int .i64 0, .int .i64 0, .int .i64 c]) w := fun _ _ _ _ => by kernel_rfl
  have e1 : d = 0 ∨ d = 1 ∨ d = 2 ∨ d = 3 ∨ d = 4 ∨ d = 5 := by omega
  rcases e1 with rfl | rfl | rfl | rfl | rfl | rfl
  all_goals
    go_enter Tryz.func51, Tryz.ntmps51
    go_wp2
    refine bodyPost_ret (v := .agg #[.int .i64 (stepS _).x, .int .i64 (stepS _).y, .int .i64 (stepS _).z]) ?_ rfl ⟨rfl, by apply_rules [Ext.refl, Ext.alloc]⟩
    simp [results, Tryz.results51, go_sem, stepS]

set_option maxHeartbeats 1600000 in
theorem direction_c (d : Nat) (hd : d < 6) (w : World) :
    Calls Tryz.prog 75 #[.agg #[.int .i64 (stepS d).x, .int .i64 (stepS d).y, .int .i64 (stepS d).z]] w fun e w' => e = .returned (.int .i64 d) ∧ Ext w w' := by
  obtain ⟨W, hW, E, ba, hz⟩ := boxes1 w #[.int .i64 (stepS d).x, .int .i64 (stepS d).y, .int .i64 (stepS d).z] 53
  have B : Blk W w.heap.size 53 #[.int .i64 (stepS d).x, .int .i64 (stepS d).y, .int .i64 (stepS d).z] := by rw [← hW]; exact Blk.new _ _ _
  go_enter Tryz.func75, Tryz.ntmps75
  go_wp2
  go_loopw [4] (fun i wr => ∃ k : Nat, k ≤ d ∧ i = .int .i64 k ∧ Ext W wr) (fun i _ => 6 - (intOf i).toNat)
  case atStart => exact ⟨0, by omega, rfl, Ext.refl _⟩
  case round =>
    obtain ⟨k, hk, rfl, E1⟩ := hrel
    have c := (B.ext E1).cell
    have hq : ∀ w, (binOp .eql 53 (.agg #[.int .i64 (stepS k).x, .int .i64 (stepS k).y, .int .i64 (stepS k).z]) (.agg #[.int .i64 (stepS d).x, .int .i64 (stepS d).y, .int .i64 (stepS d).z])).run Tryz.prog w = .ok (.bool (decide (k = d))) w := fun w => by
      rw [pt_eql]
      have : Pt.eqB (stepS k) (stepS d) = decide (k = d) := by
        by_cases h : k = d
        · subst h
          simp [Pt.eqB]
        · simp only [h, decide_false]
          rw [Bool.eq_false_iff]
          intro h'
          exact h (stepS_inj (by omega) hd (Pt.eqB_iff.1 h'))
      exact congrArg (fun b => Result.ok (Value.bool b) w) this
    by_cases hkd : k = d
    · have hkd' : decide (k = d) = true := by simp [hkd]
      simp only [hkd'] at hq
      clear hkd'
      have Hkd := Lib.hid hkd
      clear hkd
      go_wp2
      refine wp_region_grow (by kernel_rfl) (by kernel_rfl) ?_
      repeat (go_big_quiet_step ((go_at_call 51; exact quiet_ext (step_c k (by omega) _))))
      refine wpQuiet_nil ?_
      intro W2 hW2
      have E2 : Ext wr W2 := by
        obtain ⟨x, rfl⟩ := hW2
        exact (Ext.refl _).grow x
      clear hW2
      go_wp2
      go_ret
      exact ⟨by rw [Hkd.out]; rfl, (E.trans E1).trans E2⟩
    · have hkd' : decide (k = d) = false := by simp [hkd]
      simp only [hkd'] at hq
      clear hkd'
      go_wp2
      refine wp_region_grow (by kernel_rfl) (by kernel_rfl) ?_
      repeat (go_big_quiet_step ((go_at_call 51; exact quiet_ext (step_c k (by omega) _))))
      refine wpQuiet_nil ?_
      intro W2 hW2
      have E2 : Ext wr W2 := by
        obtain ⟨x, rfl⟩ := hW2
        exact (Ext.refl _).grow x
      clear hW2
      go_wp2
      go_roundw
      case rel => exact ⟨k + 1, by omega, by go_num, E1.trans E2⟩
      case measure => simp [intOf]; omega
end Go.Proofs.YtaaeapjnjjbglaaGreatDoor.Lat
namespace Go.Proofs.YtaaeapjnjjbglaaGreatDoor.Lat
open Go.RowKit

/-- A block made: the new world under one name. -/
theorem mk_ (w : World) (ca : Array Value) (ta : TypeId) : ∃ W, w.alloc (.cells ca ta) = W ∧ Ext w W ∧ Blk W w.heap.size ta ca ∧ W.heap.size = w.heap.size + 1 :=
  ⟨_, rfl, (Ext.refl w).alloc _, Blk.new _ _ _, by simp⟩

def ordZ (a b : Int) : Int := if a < b then -1 else if b < a then 1 else 0
theorem ordZ_lt {a b : Int} (h : a < b) : ordZ a b = -1 := if_pos h
theorem ordZ_gt {a b : Int} (h : b < a) : ordZ a b = 1 := by rw [ordZ, if_neg (by omega), if_pos h]
theorem ordZ_eq {a b : Int} (h : a = b) : ordZ a b = 0 := by rw [ordZ, if_neg (by omega), if_neg (by omega)]
theorem nanZ_c (a : Int) (w : World) : Calls Tryz.prog 72 #[.int .i64 a] w fun e w' => e = .returned (.bool false) ∧ w = w' := by
  go_enter Tryz.func72, Tryz.ntmps72
  go_wp2
  go_ret
  exact ⟨by simp, rfl⟩
theorem nanU_c (a : Int) (w : World) : Calls Tryz.prog 74 #[.int .u8 a] w fun e w' => e = .returned (.bool false) ∧ w = w' := by
  go_enter Tryz.func74, Tryz.ntmps74
  go_wp2
  go_ret
  exact ⟨by simp, rfl⟩
set_option maxHeartbeats 400000 in
theorem cmpZ_c (a b : Int) (w : World) : Calls Tryz.prog 47 #[.int .i64 a, .int .i64 b] w fun e w' => e = .returned (.int .i64 (ordZ a b)) ∧ w = w' := by
  by_cases h1 : a < b
  · have Hc := Lib.hid (ordZ_lt h1)
    go_enter Tryz.func47, Tryz.ntmps47
    go_wp2_with (go_at_call 72; refine (nanZ_c _ _).mono ?_; rintro e w' ⟨rfl, rfl⟩)
    go_ret
    exact ⟨by rw [Hc.out]; rfl, rfl⟩
  · by_cases h2 : b < a
    · have Hc := Lib.hid (ordZ_gt h2)
      go_enter Tryz.func47, Tryz.ntmps47
      go_wp2_with (go_at_call 72; refine (nanZ_c _ _).mono ?_; rintro e w' ⟨rfl, rfl⟩)
      go_ret
      exact ⟨by rw [Hc.out]; rfl, rfl⟩
    · have Hc := Lib.hid (ordZ_eq (show a = b by omega))
      go_enter Tryz.func47, Tryz.ntmps47
      go_wp2_with (go_at_call 72; refine (nanZ_c _ _).mono ?_; rintro e w' ⟨rfl, rfl⟩)
      go_ret
      exact ⟨by rw [Hc.out]; rfl, rfl⟩
set_option maxHeartbeats 400000 in
theorem cmpU_c (a b : Int) (w : World) : Calls Tryz.prog 52 #[.int .u8 a, .int .u8 b] w fun e w' => e = .returned (.int .i64 (ordZ a b)) ∧ w = w' := by
  by_cases h1 : a < b
  · have Hc := Lib.hid (ordZ_lt h1)
    go_enter Tryz.func52, Tryz.ntmps52
    go_wp2_with (go_at_call 74; refine (nanU_c _ _).mono ?_; rintro e w' ⟨rfl, rfl⟩)
    go_ret
    exact ⟨by rw [Hc.out]; rfl, rfl⟩
  · by_cases h2 : b < a
    · have Hc := Lib.hid (ordZ_gt h2)
      go_enter Tryz.func52, Tryz.ntmps52
      go_wp2_with (go_at_call 74; refine (nanU_c _ _).mono ?_; rintro e w' ⟨rfl, rfl⟩)
      go_ret
      exact ⟨by rw [Hc.out]; rfl, rfl⟩
    · have Hc := Lib.hid (ordZ_eq (show a = b by omega))
      go_enter Tryz.func52, Tryz.ntmps52
      go_wp2_with (go_at_call 74; refine (nanU_c _ _).mono ?_; rintro e w' ⟨rfl, rfl⟩)
      go_ret
      exact ⟨by rw [Hc.out]; rfl, rfl⟩
/-- The first one that is not 0. -/
def orL : List Int → Int
  | [] => 0
  | x :: xs => if x = 0 then orL xs else x
theorem orL_drop {xs : List Int} {k : Nat} {n : Int} (h : xs[k]? = some n) : orL (xs.drop k) = if n = 0 then orL (xs.drop (k + 1)) else n := by
  obtain ⟨hk, hn⟩ := List.getElem?_eq_some_iff.1 h
  rw [List.drop_eq_getElem_cons hk, hn]
  rfl
set_option maxHeartbeats 800000 in
theorem orL_c (A : Option Addr) (cap : Nat) (xs : List Int) (w : World) (hs : SliceIs w A xs.length cap 1 (xs.map fun n => [.int .i64 n])) :
    Calls Tryz.prog 46 #[.slice A xs.length cap] w fun e w' => e = .returned (.int .i64 (orL xs)) ∧ w = w' := by
  have hl : xs.length ≤ 9223372036854775807 := by have := hs.le; have := hs.small; unfold maxLen at this; omega
  go_enter Tryz.func46, Tryz.ntmps46
  go_wp2
  go_loop [8] (fun i => ∃ k : Nat, k ≤ xs.length ∧ i = .int .i64 k ∧ orL xs = orL (xs.drop k)) (fun i => xs.length - (intOf i).toNat)
  case atStart => exact ⟨0, by omega, rfl, rfl⟩
  case round =>
    obtain ⟨k, hk, rfl, hj⟩ := hrel
    have Hj := Lib.hid hj
    clear hj
    by_cases hlt : k < xs.length
    · obtain ⟨b, off, rfl, hb, hc⟩ := hs.cells (by omega)
      obtain ⟨n, hn⟩ : ∃ n, xs[k]? = some n := ⟨_, List.getElem?_eq_getElem hlt⟩
      have hc0 := hc k [.int .i64 n] (by rw [List.getElem?_map, hn]; rfl) 0 _ rfl
      have Hd := Lib.hid (orL_drop hn)
      clear hn hc
      simp only [Nat.mul_one, Nat.add_zero] at hc0
      by_cases h1 : n = 0
      · subst h1
        go_wp2
        go_round
        case rel => exact ⟨k + 1, by omega, by go_num, by rw [Hj.out, Hd.out, if_pos rfl]⟩
        case measure => simp [intOf]; omega
      · have h2 : (n != 0) = true := by simpa using h1
        have Hn := Lib.hid h1
        clear h1
        go_wp2
        go_ret
        exact ⟨by rw [Hj.out, Hd.out, if_neg Hn.out]; rfl, rfl⟩
    · obtain rfl : xs.length = k := by omega
      go_wp2
      go_ret
      exact ⟨by rw [Hj.out, List.drop_length]; rfl, rfl⟩
/-- Numbers in a new block, as a list of numbers. -/
theorem ints_new (w : World) (xs : List Int) (t : TypeId) (h : xs.length ≤ 100) : SliceIs (w.alloc (.cells (xs.map (Value.int .i64)).toArray t)) (some ⟨w.heap.size, 0, none⟩) xs.length xs.length 1 (xs.map fun n => [.int .i64 n]) := by
  refine ⟨by simp, Nat.le_refl _, by unfold maxLen; omega, by simp, fun _ => ⟨_, 0, rfl, by simp, fun i r hr j u hu => ?_⟩⟩
  rw [List.getElem?_map] at hr
  obtain ⟨n, hn, rfl⟩ := Option.map_eq_some_iff.1 hr
  have hj : j = 0 := by
    rcases Nat.eq_zero_or_pos j with h | h
    · exact h
    · rw [List.getElem?_eq_none (by simp; omega)] at hu; cases hu
  subst hj
  simp at hu
  subst hu
  rw [cell_new]
  simp [hn]
theorem or2_c (a b : Int) (w : World) (t : TypeId) : Calls Tryz.prog 46 #[.slice (some ⟨w.heap.size, 0, none⟩) 2 2] (w.alloc (.cells #[.int .i64 a, .int .i64 b] t)) fun e w' => e = .returned (.int .i64 (orL [a, b])) ∧ w.alloc (.cells #[.int .i64 a, .int .i64 b] t) = w' :=
  orL_c _ 2 [a, b] _ (ints_new w [a, b] t (by simp))
theorem or3_c (a b c : Int) (w : World) (t : TypeId) : Calls Tryz.prog 46 #[.slice (some ⟨w.heap.size, 0, none⟩) 3 3] (w.alloc (.cells #[.int .i64 a, .int .i64 b, .int .i64 c] t)) fun e w' => e = .returned (.int .i64 (orL [a, b, c])) ∧ w.alloc (.cells #[.int .i64 a, .int .i64 b, .int .i64 c] t) = w' :=
  orL_c _ 3 [a, b, c] _ (ints_new w [a, b, c] t (by simp))

/-! The order of cells. -/
def ltP (p q : Pt) : Bool := decide (p.z < q.z) || (decide (p.z = q.z) && (decide (p.y < q.y) || (decide (p.y = q.y) && decide (p.x < q.x))))
theorem ltP_iff {p q : Pt} : ltP p q = true ↔ p.z < q.z ∨ (p.z = q.z ∧ (p.y < q.y ∨ (p.y = q.y ∧ p.x < q.x))) := by simp [ltP]
theorem ltP_not {p q : Pt} : ltP p q = false ↔ ¬ (p.z < q.z ∨ (p.z = q.z ∧ (p.y < q.y ∨ (p.y = q.y ∧ p.x < q.x)))) := by rw [← ltP_iff, Bool.not_eq_true]
def ordP (p q : Pt) : Int := orL [ordZ p.z q.z, ordZ p.y q.y, ordZ p.x q.x]
theorem ordP_cases (p q : Pt) : (ltP p q = true ∧ ordP p q = -1) ∨ (p = q ∧ ordP p q = 0) ∨ (ltP q p = true ∧ ordP p q = 1) := by
  obtain ⟨a, b, c⟩ := p
  obtain ⟨d, e, f⟩ := q
  rw [ltP_iff, ltP_iff]
  unfold ordP orL
  rcases Int.lt_trichotomy c f with h | h | h
  · left
    rw [ordZ_lt h]
    exact ⟨Or.inl h, rfl⟩
  · rw [ordZ_eq h, if_pos rfl]
    unfold orL
    rcases Int.lt_trichotomy b e with h2 | h2 | h2
    · left
      rw [ordZ_lt h2]
      exact ⟨Or.inr ⟨h, Or.inl h2⟩, rfl⟩
    · rw [ordZ_eq h2, if_pos rfl]
      unfold orL
      rcases Int.lt_trichotomy a d with h3 | h3 | h3
      · left
        rw [ordZ_lt h3]
        exact ⟨Or.inr ⟨h, Or.inr ⟨h2, h3⟩⟩, rfl⟩
      · right; left
        rw [ordZ_eq h3]
        subst h h2 h3
        exact ⟨rfl, rfl⟩
      · right; right
        rw [ordZ_gt h3]
        exact ⟨Or.inr ⟨h.symm, Or.inr ⟨h2.symm, h3⟩⟩, rfl⟩
    · right; right
      rw [ordZ_gt h2]
      exact ⟨Or.inr ⟨h.symm, Or.inl h2⟩, rfl⟩
  · right; right
    rw [ordZ_gt h]
    exact ⟨Or.inl h, rfl⟩
theorem ltP_irrefl (p : Pt) : ltP p p = false := by rw [ltP_not]; omega
theorem ltP_trans {p q r : Pt} (h : ltP p q = true) (k : ltP q r = true) : ltP p r = true := by rw [ltP_iff] at *; omega
theorem ltP_anti {p q : Pt} (h : ltP p q = true) : ltP q p = false := by rw [ltP_iff] at h; rw [ltP_not]; omega
theorem ordP_neg (p q : Pt) : ordP p q < 0 ↔ ltP p q = true := by
  rcases ordP_cases p q with ⟨h, e⟩ | ⟨rfl, e⟩ | ⟨h, e⟩
  · rw [e]; simp [h]
  · rw [e, ltP_irrefl]; simp
  · rw [e, ltP_anti h]; simp
theorem ordP_zero (p q : Pt) : ordP p q = 0 ↔ p = q := by
  rcases ordP_cases p q with ⟨h, e⟩ | ⟨rfl, e⟩ | ⟨h, e⟩
  · rw [e]
    refine ⟨(fun h => by cases h), fun h' => ?_⟩
    subst h'
    rw [ltP_irrefl] at h
    cases h
  · simp [e]
  · rw [e]
    refine ⟨(fun h => by cases h), fun h' => ?_⟩
    subst h'
    rw [ltP_irrefl] at h
    cases h
set_option maxHeartbeats 1600000 in
theorem order_c (a b c d e f : Int) (w : World) :
    Calls Tryz.prog 48 #[.agg #[.int .i64 a, .int .i64 b, .int .i64 c], .agg #[.int .i64 d, .int .i64 e, .int .i64 f]] w fun v w' => v = .returned (.int .i64 (ordP ⟨a, b, c⟩ ⟨d, e, f⟩)) ∧ Ext w w' := by
  obtain ⟨W1, hW1, E1, B1, hz1⟩ := mk_ w #[.int .i64 a, .int .i64 b, .int .i64 c] 53
  obtain ⟨W2, hW2, E2, B2, hz2⟩ := mk_ W1 #[.int .i64 d, .int .i64 e, .int .i64 f] 53
  have B1' := B1.ext E2
  rw [hz1] at B2
  have b1 := B1'.cell
  have b2 := B2.cell
  have E := E1.trans E2
  go_enter Tryz.func48, Tryz.ntmps48
  go_upto_region 1 with (fail)
  clear hW1 hW2 hz1 hz2 B1 E1 E2
  refine wp_region_tail 15 (by kernel_rfl) (by kernel_rfl) ?_
  simp only [List.take_succ_cons, List.take_zero, List.drop_succ_cons, List.drop_zero]
  repeat (go_big_quiet_step (((go_at_call 47; exact quiet_grow_same (cmpZ_c _ _ _)))))
  refine wpQuiet_nil ?_
  intro W3 hW3
  have E3 : Ext W2 W3 := by
    obtain ⟨x, rfl⟩ := hW3
    exact (Ext.refl _).grow x
  clear hW3
  obtain ⟨hcW3, hfW3, hzW3⟩ := ext_facts E3
  go_wp2_with fail
  refine (or3_c _ _ _ _ _).mono ?_
  rintro v w4 ⟨rfl, rfl⟩
  go_wp2_with fail
  go_ret
  exact ⟨rfl, (E.trans E3).alloc _⟩
end Go.Proofs.YtaaeapjnjjbglaaGreatDoor.Lat
namespace Go.Proofs.YtaaeapjnjjbglaaGreatDoor.Lat
open Go.RowKit

def Pt.cs (p : Pt) : List Value := [.int .i64 p.x, .int .i64 p.y, .int .i64 p.z]
def Cells (w : World) (A : Option Addr) (cap : Nat) (l : List Pt) : Prop := SliceIs w A l.length cap 3 (l.map Pt.cs)
theorem Cells.ext {w w' : World} {A : Option Addr} {cap : Nat} {l : List Pt} (h : Cells w A cap l) (e : Ext w w') : Cells w' A cap l := SliceIs.ext h e
theorem Cells.len {w : World} {A : Option Addr} {cap : Nat} {l : List Pt} (h : Cells w A cap l) : l.length ≤ maxLen := Nat.le_trans h.le h.small
theorem Cells.at_ {w : World} {A : Option Addr} {cap : Nat} {l : List Pt} (h : Cells w A cap l) {k : Nat} (hk : k < l.length) :
    ∃ b off p, A = some ⟨b, off, none⟩ ∧ l[k]? = some p ∧ b < w.heap.size ∧ w.cell? ⟨b, off + k * 3, none⟩ = some (.int .i64 p.x) ∧ w.cell? ⟨b, off + k * 3 + 1, none⟩ = some (.int .i64 p.y) ∧
      w.cell? ⟨b, off + k * 3 + 2, none⟩ = some (.int .i64 p.z) := by
  obtain ⟨b, off, hA, hb, hc⟩ := SliceIs.cells h (by omega)
  have hget : l[k]? = some l[k] := List.getElem?_eq_getElem hk
  have hr : (l.map Pt.cs)[k]? = some l[k].cs := by rw [List.getElem?_map, hget]; rfl
  exact ⟨b, off, l[k], hA, hget, hb, hc k _ hr 0 _ rfl, hc k _ hr 1 _ rfl, hc k _ hr 2 _ rfl⟩

def addP (p q : Pt) : Pt := ⟨p.x + q.x, p.y + q.y, p.z + q.z⟩
def subP (p q : Pt) : Pt := ⟨p.x - q.x, p.y - q.y, p.z - q.z⟩
set_option maxHeartbeats 1600000 in
theorem plus_c (a b c d e f : Int) (w : World) (hp : Pt.ok ⟨a, b, c⟩) (hq : Pt.ok ⟨d, e, f⟩) :
    Calls Tryz.prog 50 #[.agg #[.int .i64 a, .int .i64 b, .int .i64 c], .agg #[.int .i64 d, .int .i64 e, .int .i64 f]] w fun v w' => v = .returned (.agg #[.int .i64 (a + d), .int .i64 (b + e), .int .i64 (c + f)]) ∧ Ext w w' := by
  obtain ⟨h1, h2, h3⟩ := hp
  obtain ⟨k1, k2, k3⟩ := hq
  unfold CB at *
  simp only at h1 h2 h3 k1 k2 k3
  go_enter Tryz.func50, Tryz.ntmps50
  go_wp2
  refine bodyPost_ret (v := .agg #[.int .i64 (a + d), .int .i64 (b + e), .int .i64 (c + f)]) ?_ rfl ⟨rfl, by apply_rules [Ext.refl, Ext.alloc]⟩
  simp [results, Tryz.results50, go_sem]
def hasP (l : List Pt) (p : Pt) : Bool := l.any fun q => q.eqB p
theorem hasP_iff {l : List Pt} {p : Pt} : hasP l p = true ↔ p ∈ l := by
  unfold hasP
  rw [List.any_eq_true]
  exact ⟨fun ⟨q, h, e⟩ => Pt.eqB_iff.1 e ▸ h, fun h => ⟨p, h, Pt.eqB_iff.2 rfl⟩⟩
theorem hasP_drop {l : List Pt} {p q : Pt} {k : Nat} (h : l[k]? = some q) : hasP (l.drop k) p = (q.eqB p || hasP (l.drop (k + 1)) p) := by
  obtain ⟨hk, hn⟩ := List.getElem?_eq_some_iff.1 h
  rw [List.drop_eq_getElem_cons hk, hn]
  rfl
theorem Pt.eqB_comm (p q : Pt) : p.eqB q = q.eqB p := by rw [Bool.eq_iff_iff, Pt.eqB_iff, Pt.eqB_iff]; exact eq_comm
/-- What slices.Index answers: a number that is not negative just if the list has it. -/
def IdxIs (b : Bool) (w : World) (e : Ending) (w' : World) : Prop := ∃ v : Int, e = .returned (.int .i64 v) ∧ decide (0 ≤ v) = b ∧ Ext w w'
set_option maxHeartbeats 1600000 in
theorem idx_c (A : Option Addr) (cap : Nat) (l : List Pt) (a b c : Int) (w : World) (hs : Cells w A cap l) :
    Calls Tryz.prog 73 #[.slice A l.length cap, .agg #[.int .i64 a, .int .i64 b, .int .i64 c]] w (IdxIs (hasP l ⟨a, b, c⟩) w) := by
  have hl : l.length ≤ 9223372036854775807 := by have := hs.len; unfold maxLen at this; omega
  obtain ⟨W1, hW1, E1, B1, hz1⟩ := mk_ w #[.int .i64 a, .int .i64 b, .int .i64 c] 53
  have heq := pt_eql
  go_enter Tryz.func73, Tryz.ntmps73
  go_wp2_with fail
  clear hW1 hz1
  go_loopw [8] (fun i wr => ∃ k : Nat, k ≤ l.length ∧ i = .int .i64 k ∧ Hid (hasP l ⟨a, b, c⟩ = hasP (l.drop k) ⟨a, b, c⟩) ∧ Ext w wr ∧ Blk wr w.heap.size 53 #[.int .i64 a, .int .i64 b, .int .i64 c]) (fun i _ => l.length - (intOf i).toNat)
  case atStart => exact ⟨0, by omega, rfl, Lib.hid rfl, E1, B1⟩
  case round =>
    obtain ⟨k, hk, rfl, Hj, E, B⟩ := hrel
    clear B1 E1
    have b1 := B.cell
    by_cases hlt : k < l.length
    · obtain ⟨g, off, q, rfl, hq, hg, c0, c1, c2⟩ := hs.at_ hlt
      have e0 := E.cell c0
      have e1 := E.cell c1
      have e2 := E.cell c2
      clear c0 c1 c2
      have Hd := Lib.hid (hasP_drop (p := ⟨a, b, c⟩) hq)
      clear hq
      have i1 : (0 : Int) ≤ k := by omega
      have i2 : (k : Int) < l.length := by omega
      go_upto_region 4 with (fail)
      refine wp_region_grow (by kernel_rfl) (by kernel_rfl) ?_
      repeat (go_big_quiet_step (fail))
      refine wpQuiet_nil ?_
      intro W3 hW3
      have E3 : Ext wr W3 := by
        obtain ⟨x, rfl⟩ := hW3
        exact (Ext.refl _).grow x
      clear hW3
      obtain ⟨hcW3, hfW3, hzW3⟩ := ext_facts E3
      replace E := E.trans E3
      replace B := B.ext E3
      clear hcW3 hfW3 hzW3 E3 b1 e0 e1 e2
      obtain ⟨r, hr⟩ : ∃ r, Pt.eqB ⟨a, b, c⟩ ⟨q.x, q.y, q.z⟩ = r := ⟨_, rfl⟩
      rw [hr]
      have Hr := Lib.hid hr
      clear hr
      cases r
      · go_wp2_with fail
        go_roundw
        case rel => exact ⟨k + 1, by omega, by go_num, Lib.hid (by rw [Hj.out, Hd.out, Pt.eqB_comm, show Pt.eqB ⟨a, b, c⟩ q = false from Hr.out]; rfl), E, B⟩
        case measure => simp [intOf]; omega
      · go_wp2_with fail
        go_ret
        exact ⟨k, rfl, by rw [Hj.out, Hd.out, Pt.eqB_comm, show Pt.eqB ⟨a, b, c⟩ q = true from Hr.out]; simp, E⟩
    · obtain rfl : l.length = k := by omega
      go_wp2_with fail
      go_ret
      exact ⟨-1, rfl, by rw [Hj.out, List.drop_length]; rfl, E⟩
set_option maxHeartbeats 800000 in
theorem contains_c (A : Option Addr) (cap : Nat) (l : List Pt) (a b c : Int) (w : World) (hs : Cells w A cap l) :
    Calls Tryz.prog 49 #[.slice A l.length cap, .agg #[.int .i64 a, .int .i64 b, .int .i64 c]] w fun e w' => e = .returned (.bool (hasP l ⟨a, b, c⟩)) ∧ Ext w w' := by
  obtain ⟨W1, hW1, E1, B1, hz1⟩ := mk_ w #[.int .i64 a, .int .i64 b, .int .i64 c] 53
  have b1 := B1.cell
  go_enter Tryz.func49, Tryz.ntmps49
  go_wp2_with fail
  refine (idx_c A cap l a b c _ (hs.ext E1)).mono ?_
  rintro e w2 ⟨v, rfl, hv, E2⟩
  have Hv := Lib.hid hv
  clear hv
  go_wp2_with fail
  go_ret
  exact ⟨by rw [← Hv.out]; rfl, E1.trans E2⟩
end Go.Proofs.YtaaeapjnjjbglaaGreatDoor.Lat
namespace Go.Proofs.YtaaeapjnjjbglaaGreatDoor.Lat
open Go.Shelf

def sortCells_ren : Go.Shelf.Ren := ⟨fun | 6 => 79 | 15 => 77 | 14 => 104 | 28 => 102 | 29 => 103 | 20 => 119 | 21 => 120 | 22 => 121 | 23 => 122 | 24 => 123 | 25 => 124 | 26 => 125 | 27 => 126 | 46 => 131 | 47 => 115 | 48 => 116 | 49 => 132 | 50 => 133 | 57 => 135 | n => n, fun | 22 => 71 | 24 => 53 | 25 => 115 | 3 => 3 | 39 => 159 | 0 => 0 | 53 => 106 | 55 => 183 | 4 => 4 | 46 => 177 | 45 => 176 | 50 => 142 | 5 => 5 | 9 => 9 | 66 => 191 | 70 => 195 | 76 => 204 | 77 => 205 | n => n, fun | n => n⟩
theorem sortCells : SlLaysF0.n6 Tryz.prog sortCells_ren := {
  mixed := by kernel_rfl,
  f6 := ⟨Tryz.f79.name, by decide, Tryz.func79.trans (congrArg some (by kernel_rfl))⟩,
  f14 := ⟨Tryz.f104.name, by decide, Tryz.func104.trans (congrArg some (by kernel_rfl))⟩,
  f15 := Tryz.func77.trans (congrArg some (by kernel_rfl)),
  f20 := ⟨Tryz.f119.name, by decide, Tryz.func119.trans (congrArg some (by kernel_rfl))⟩,
  f21 := ⟨Tryz.f120.name, by decide, Tryz.func120.trans (congrArg some (by kernel_rfl))⟩,
  f22 := ⟨Tryz.f121.name, by decide, Tryz.func121.trans (congrArg some (by kernel_rfl))⟩,
  f23 := ⟨Tryz.f122.name, by decide, Tryz.func122.trans (congrArg some (by kernel_rfl))⟩,
  f24 := ⟨Tryz.f123.name, by decide, Tryz.func123.trans (congrArg some (by kernel_rfl))⟩,
  f25 := ⟨Tryz.f124.name, by decide, Tryz.func124.trans (congrArg some (by kernel_rfl))⟩,
  f26 := ⟨Tryz.f125.name, by decide, Tryz.func125.trans (congrArg some (by kernel_rfl))⟩,
  f27 := ⟨Tryz.f126.name, by decide, Tryz.func126.trans (congrArg some (by kernel_rfl))⟩,
  f28 := Tryz.func102.trans (congrArg some (by kernel_rfl)),
  f29 := Tryz.func103.trans (congrArg some (by kernel_rfl)),
  f46 := ⟨Tryz.f131.name, by decide, Tryz.func131.trans (congrArg some (by kernel_rfl))⟩,
  f47 := Tryz.func115.trans (congrArg some (by kernel_rfl)),
  f48 := Tryz.func116.trans (congrArg some (by kernel_rfl)),
  f49 := ⟨Tryz.f132.name, by decide, Tryz.func132.trans (congrArg some (by kernel_rfl))⟩,
  f50 := ⟨Tryz.f133.name, by decide, Tryz.func133.trans (congrArg some (by kernel_rfl))⟩,
  f57 := ⟨Tryz.f135.name, by decide, Tryz.func135.trans (congrArg some (by kernel_rfl))⟩,
  t0 := Tryz.underlying0,
  a0 := Tryz.isAgg0,
  z0 := Tryz.sizeOf0,
  v0 := Tryz.zeroValue0,
  t3 := Tryz.underlying3,
  a3 := Tryz.isAgg3,
  z3 := Tryz.sizeOf3,
  v3 := Tryz.zeroValue3,
  t4 := Tryz.underlying4,
  a4 := Tryz.isAgg4,
  z4 := Tryz.sizeOf4,
  v4 := Tryz.zeroValue4,
  t5 := Tryz.underlying5,
  a5 := Tryz.isAgg5,
  z5 := Tryz.sizeOf5,
  v5 := Tryz.zeroValue5,
  t9 := Tryz.underlying9,
  a9 := Tryz.isAgg9,
  z9 := Tryz.sizeOf9,
  v9 := Tryz.zeroValue9,
  t22 := Tryz.underlying71,
  a22 := Tryz.isAgg71,
  z22 := Tryz.sizeOf71,
  v22 := Tryz.zeroValue71,
  t25 := Tryz.underlying115,
  a25 := Tryz.isAgg115,
  z25 := Tryz.sizeOf115,
  v25 := Tryz.zeroValue115,
  t39 := Tryz.underlying159,
  a39 := Tryz.isAgg159,
  z39 := Tryz.sizeOf159,
  v39 := Tryz.zeroValue159,
  t45 := Tryz.underlying176,
  a45 := Tryz.isAgg176,
  z45 := Tryz.sizeOf176,
  v45 := Tryz.zeroValue176,
  t46 := Tryz.underlying177,
  a46 := Tryz.isAgg177,
  z46 := Tryz.sizeOf177,
  v46 := Tryz.zeroValue177,
  t50 := Tryz.underlying142,
  a50 := Tryz.isAgg142,
  z50 := Tryz.sizeOf142,
  v50 := Tryz.zeroValue142,
  t53 := Tryz.underlying106,
  a53 := Tryz.isAgg106,
  z53 := Tryz.sizeOf106,
  v53 := Tryz.zeroValue106,
  t55 := Tryz.underlying183,
  a55 := Tryz.isAgg183,
  z55 := Tryz.sizeOf183,
  v55 := Tryz.zeroValue183,
  t66 := Tryz.underlying191,
  a66 := Tryz.isAgg191,
  z66 := Tryz.sizeOf191,
  v66 := Tryz.zeroValue191,
  t70 := Tryz.underlying195,
  a70 := Tryz.isAgg195,
  z70 := Tryz.sizeOf195,
  v70 := Tryz.zeroValue195,
  t76 := Tryz.underlying204,
  a76 := Tryz.isAgg204,
  z76 := Tryz.sizeOf204,
  v76 := Tryz.zeroValue204,
  t77 := Tryz.underlying205,
  a77 := Tryz.isAgg205,
  z77 := Tryz.sizeOf205,
  v77 := Tryz.zeroValue205 }
end Go.Proofs.YtaaeapjnjjbglaaGreatDoor.Lat
namespace Go.Proofs.YtaaeapjnjjbglaaGreatDoor.Lat
open Go.RowKit

instance : Inhabited Pt := ⟨⟨0, 0, 0⟩⟩
theorem wp_region_tailG {P : Program} {id : Nat} {Q : Exit → Act → World → Prop} {a : Act} {w : World} {l : List Oper} (n : Nat) (hm : P.follows .mixedOrders = true) (hB : Region.lexTailB .any l.toArray n = true)
    (h : wpQuiet P l.toArray (fun w' => ∃ p : Go.GrownBy, w' = Go.Sort.grow (w.drewN p.n) p.os) (fun a' => ∀ w', (∃ p : Go.GrownBy, w' = Go.Sort.grow (w.drewN p.n) p.os) → wpList P l.toArray Q (l.drop n) a' w') (l.take n) a) : (Code.region id l.toArray true).wp P Q a w := by
  simp only [Region.lexTailB, Bool.and_eq_true, decide_eq_true_eq] at hB
  obtain ⟨⟨⟨⟨hsel, hn⟩, hs⟩, hc⟩, hlex⟩ := hB
  have hn' : n < l.length := by simpa using hn
  have htl : (l.take n).length = n := by simp; omega
  have hdl : (l.drop n).length = l.toArray.size - n := by simp
  have inv0 : HeadInv .any l.toArray n (Array.replicate l.toArray.size false) :=
    ⟨by simp, fun j oj _ hl => (by rw [getD_replicate_false] at hl; cases hl), fun t _ ht => getD_in (by simpa using ht) (getD_replicate_false _ _)⟩
  have H := headQ_lex (P := P) (C := fun w' => ∃ p : Go.GrownBy, w' = Go.Sort.grow (w.drewN p.n) p.os) (md := .any) (g := l.toArray.size - n) hsel hs hc hn (l.take n) 0 _ a (fun j hj => by
    rw [htl] at hj
    simp [hj]) (by simpa using htl) inv0 (by rw [htl]; exact hlex) h
  refine wp_region_any hm ?_
  have H2 := any_of_headQ (Q' := Q) (g := l.toArray.size - n) (fun listed a' hL w' hw' => by
    have := wpAny_of_seq (md := .any) (Q' := Q) (l.drop n) n listed a' w' (fun j => by simp [List.getElem?_drop]) (by rw [hdl]; exact hL.1) (hL.2 w' hw')
    rwa [hdl] at this) _ _ _ H { w with drawn := w.drawn + 1 } ⟨⟨1, #[]⟩, by rw [Go.Sort.grow_empty]; rfl⟩
  rw [htl, show n + (l.toArray.size - n) = l.toArray.size from by omega] at H2
  exact H2
/-- New blocks and draws, counted. -/
def Grn (w w' : World) : Prop := ∃ q os, w' = Go.Sort.grow (w.drewN q) os
theorem Grn.refl (w : World) : Grn w w := ⟨0, #[], by rw [Go.Sort.grow_empty]; rfl⟩
theorem Grn.trans {a b c : World} (h : Grn a b) (k : Grn b c) : Grn a c := by
  obtain ⟨q, os, rfl⟩ := h
  obtain ⟨q', os', rfl⟩ := k
  exact ⟨q + q', os ++ os', by
    show Go.Sort.grow (Go.Sort.grow ((a.drewN q).drewN q') os) os' = _
    rw [Go.Sort.grow_grow, World.drewN_drewN]⟩
theorem Grn.alloc {a b : World} (h : Grn a b) (o : Obj) : Grn a (b.alloc o) := h.trans ⟨0, #[o], by
  show b.alloc o = Go.Sort.grow b #[o]
  unfold World.alloc Go.Sort.grow
  rw [Array.push_eq_append]⟩
theorem Grn.ext {a b : World} (h : Grn a b) : Ext a b := by
  obtain ⟨q, os, rfl⟩ := h
  exact grow_below a ⟨os, a.drawn + q⟩
set_option maxHeartbeats 1600000 in
theorem order_g (a b c d e f : Int) (w : World) :
    Calls Tryz.prog 48 #[.agg #[.int .i64 a, .int .i64 b, .int .i64 c], .agg #[.int .i64 d, .int .i64 e, .int .i64 f]] w fun v w' => v = .returned (.int .i64 (ordP ⟨a, b, c⟩ ⟨d, e, f⟩)) ∧ Grn w w' := by
  have hG := ((Grn.refl w).alloc (.cells #[.int .i64 a, .int .i64 b, .int .i64 c] 53)).alloc (.cells #[.int .i64 d, .int .i64 e, .int .i64 f] 53)
  obtain ⟨W1, hW1, E1, B1, hz1⟩ := mk_ w #[.int .i64 a, .int .i64 b, .int .i64 c] 53
  obtain ⟨W2, hW2, E2, B2, hz2⟩ := mk_ W1 #[.int .i64 d, .int .i64 e, .int .i64 f] 53
  rw [hW1, hW2] at hG
  have B1' := B1.ext E2
  rw [hz1] at B2
  have a0 := Go.cell_grown B1'.lt (B1'.cell 0)
  have a1 := Go.cell_grown B1'.lt (B1'.cell 1)
  have a2 := Go.cell_grown B1'.lt (B1'.cell 2)
  have c0 := Go.cell_grown B2.lt (B2.cell 0)
  have c1 := Go.cell_grown B2.lt (B2.cell 1)
  have c2 := Go.cell_grown B2.lt (B2.cell 2)
  go_enter Tryz.func48, Tryz.ntmps48
  go_upto_region 1 with (fail)
  clear hW1 hW2 hz1 hz2 B1 E1 E2 B1' B2
  refine wp_region_tailG 15 (by kernel_rfl) (by kernel_rfl) ?_
  simp only [List.take_succ_cons, List.take_zero, List.drop_succ_cons, List.drop_zero]
  repeat (go_big_quiet_step ((go_at_call 47; exact (cmpZ_c _ _ _).mono fun _ _ ⟨he, hw⟩ => ⟨he, _, hw.symm⟩)))
  refine wpQuiet_nil ?_
  intro W3 hW3
  have hG3 : Grn w W3 := by
    obtain ⟨p, rfl⟩ := hW3
    exact hG.trans ⟨p.n, p.os, rfl⟩
  clear hW3 hG a0 a1 a2 c0 c1 c2
  go_wp2_with fail
  refine (or3_c _ _ _ _ _).mono ?_
  rintro v w4 ⟨rfl, rfl⟩
  go_wp2_with fail
  go_ret
  exact ⟨rfl, hG3.alloc _⟩

/-! The sort. -/
def sortP (l : List Pt) : List Pt := l.mergeSort fun x y => !ltP y x
def ptsA (l : List Pt) : Array Value := rowsA (l.map Pt.cs)
theorem pts_wide (l : List Pt) : ∀ r ∈ l.map Pt.cs, r.length = 3 := fun r h => by
  obtain ⟨p, _, rfl⟩ := List.mem_map.1 h
  rfl
theorem ltOf_ordP : ltOf ordP = ltP := by
  funext x y
  unfold ltOf
  rw [Bool.eq_iff_iff, decide_eq_true_eq, ordP_neg]
theorem swoP : Go.Sort.SWO ltP where
  irrefl := ltP_irrefl
  trans _ _ _ := ltP_trans
  ntrans x y z h k := by
    rw [ltP_not] at *
    omega
theorem ltP_total (x y : Pt) (h : ltP x y = false) (k : ltP y x = false) : x = y := by
  rcases ordP_cases x y with ⟨e, _⟩ | ⟨e, _⟩ | ⟨e, _⟩
  · rw [h] at e
    cases e
  · exact e
  · rw [k] at e
    cases e
theorem flatK_pts (l : List Pt) : Go.Sort.flatK Pt.cs 3 l.toArray = ptsA l := by
  refine rowsA_ext (pts_wide l) (by simp) fun i j r u hr hu => ?_
  rw [List.getElem?_map] at hr
  obtain ⟨p, hp, rfl⟩ := Option.map_eq_some_iff.1 hr
  obtain ⟨hi, hpi⟩ := List.getElem?_eq_some_iff.1 hp
  have hj : j < 3 := (List.getElem?_eq_some_iff.1 hu).1
  have hlt : i * 3 + j < l.toArray.size * 3 := by simp; omega
  rw [Array.getElem?_eq_getElem (by simpa using hlt), ← getElem!_pos, Go.Sort.get_flatK _ _ _ _ hlt, show (i * 3 + j) / 3 = i by omega, show (i * 3 + j) % 3 = j by omega, getElem!_pos l.toArray i (by simpa using hi)]
  have e1 : l.toArray[i]'(by simpa using hi) = p := by simpa using hpi
  rw [e1, ← hu]
  rw [List.getElem!_eq_getElem?_getD, hu]
  rfl
theorem putPts {w : World} {g n : Nat} {os : Array Obj} {l l' : List Pt} {t : TypeId} (hl : l'.length = l.length) (hb : Blk w g t (ptsA l)) :
    Blk (sortWorldK Pt.cs 3 w g 0 n l'.toArray os) g t (ptsA l') ∧ w.grownBy (sortWorldK Pt.cs 3 w g 0 n l'.toArray os) (some g) := by
  have hg := hb.lt
  constructor
  · unfold sortWorldK Go.Sort.putRowK
    rw [flatK_pts]
    show (Go.Sort.grow _ _).heap[g]? = _
    rw [Go.Sort.heap_grow_old _ _ (by simpa using hg)]
    have hb' : w.heap[g]? = some (.cells (ptsA l) t (0, 0)) := hb
    have e : Go.Sort.putCells id 0 (ptsA l') (ptsA l) = ptsA l' := by
      apply Array.ext_getElem?
      intro k
      have hs : (ptsA l').size = (ptsA l).size := by unfold ptsA; rw [rowsA_size (pts_wide l), rowsA_size (pts_wide l')]; simp [hl]
      rcases Nat.lt_or_ge k (ptsA l).size with hk | hk
      · have hk' : k < (ptsA l').size := by omega
        simp [Go.Sort.putCells, hk, hk']
      · rw [Array.getElem?_eq_none (by simpa [Go.Sort.putCells] using hk), Array.getElem?_eq_none (by omega)]
    simp [Go.Sort.putRow, Go.Sort.mapBlock, Go.Sort.ahead, Array.getElem?_modify, hb', Go.Sort.onCells, e]
  · refine ⟨rfl, rfl, rfl, by simp [sortWorldK, Go.Sort.putRowK], fun k hk hne => ?_⟩
    unfold sortWorldK Go.Sort.putRowK
    rw [Go.Sort.heap_grow_old _ _ (by simpa using hk)]
    have : g ≠ k := fun e => hne (by rw [e])
    simp [Go.Sort.putRow, Go.Sort.mapBlock, Go.Sort.ahead, Array.getElem?_modify, this]
theorem sortFunc_c (l : List Pt) (g : Nat) (w : World) (hB : Blk w g 53 (ptsA l)) (hn : l.length ≤ 100000) :
    Calls Tryz.prog 79 #[.slice (some ⟨g, 0, none⟩) l.length l.length, .func (.func 48) #[] #[]] w fun e w' => e = .returned (.tuple #[]) ∧ Blk w' g 53 (ptsA (sortP l)) ∧ w.grownBy w' (some g) := by
  have hH : Go.Sort.HoldsK Pt.cs 3 w g 0 l.toArray := by
    unfold Go.Sort.HoldsK
    rw [flatK_pts]
    intro j hj
    refine ⟨?_, by rw [Nat.zero_add]; exact hB.frozen j⟩
    rw [Nat.zero_add, hB.cell, Array.getElem?_eq_getElem hj, getElem!_pos (ptsA l) j hj]
    rfl
  have hcmp : CmpLays Tryz.prog 48 #[] Pt.cs 3 ordP g 0 l.toArray.size w := fun m os dk _ x y => (order_g x.x x.y x.z y.x y.y y.z _).mono fun _ _ ⟨he, q, os', hw⟩ => ⟨he, q, os', hw⟩
  have h := AnyQ.slices_SortFunc sortCells 3 Tryz.isAgg53 Tryz.sizeOf53 Pt.cs (fun _ => rfl) (fun x v hv => by
      simp only [Pt.cs, List.mem_cons, List.not_mem_nil, or_false] at hv
      rcases hv with rfl | rfl | rfl <;> rfl) ordP (by rw [ltOf_ordP]; exact swoP) 48 #[] g 0 l.length l.toArray w (enters_of Tryz.func48 (by kernel_rfl) rfl) hcmp hH hB.lt (by simp; omega)
  rw [ltOf_ordP] at h
  refine (show Calls Tryz.prog 79 _ _ _ from h).mono ?_
  rintro e w' ⟨rfl, d', n, os, hp, hs, rfl⟩
  obtain rfl : d' = (sortP l).toArray := Array.ext' (Go.Sort.sorted_unique_holds swoP ltP_total l.toArray d' hp hs)
  exact ⟨rfl, putPts (List.length_mergeSort l) hB⟩
end Go.Proofs.YtaaeapjnjjbglaaGreatDoor.Lat
namespace Go.Proofs.YtaaeapjnjjbglaaGreatDoor.Lat
open Go.RowKit

theorem sortP_pairs (l : List Pt) : (sortP l).Pairwise fun p q => ltP q p = false := by
  have h := List.pairwise_mergeSort (le := fun x y => !ltP y x) (fun a b c h k => by
    simp only [Bool.not_eq_true', ltP_not] at *
    omega) (fun a b => by
    cases h : ltP b a
    · rfl
    · rw [ltP_anti h]
      rfl) l
  exact h.imp fun h => by simpa using h
theorem sortP_perm (l : List Pt) : (sortP l).Perm l := List.mergeSort_perm _ _
theorem sortP_len (l : List Pt) : (sortP l).length = l.length := List.length_mergeSort _
theorem sortP_is {l l' : List Pt} (hp : l'.Perm l) (hs : l'.Pairwise fun p q => ltP q p = false) : l' = sortP l :=
  List.Perm.eq_of_pairwise (fun a b _ _ h k => ltP_total a b k h) hs (sortP_pairs l) (hp.trans (sortP_perm l).symm)
/-- The state of an insertion: the first cells are in order but for x, which is before all of B. -/
structure Ins (l : List Pt) (j k : Nat) (A : List Pt) (x : Pt) (B C : List Pt) : Prop where
  k : A.length = k
  j : A.length + B.length = j
  perm : (A ++ x :: (B ++ C)).Perm l
  sorted : (A ++ B).Pairwise fun p q => ltP q p = false
  less : ∀ b ∈ B, ltP x b = true
theorem Ins.step {l : List Pt} {j k : Nat} {A : List Pt} {a x : Pt} {B C : List Pt} (h : Ins l j (k + 1) (A ++ [a]) x B C) (hx : ltP x a = true) : Ins l j k A x (a :: B) C := by
  obtain ⟨h1, h2, h3, h4, h5⟩ := h
  simp only [List.length_append, List.length_cons, List.length_nil] at h1 h2
  refine ⟨by omega, by simp only [List.length_cons]; omega, ?_, ?_, fun b hb => ?_⟩
  · refine List.Perm.trans ?_ h3
    rw [List.append_assoc]
    exact List.Perm.append_left _ (List.Perm.swap _ _ _)
  · rw [List.append_assoc] at h4
    exact h4
  · rcases List.mem_cons.1 hb with rfl | hb
    · exact hx
    · exact h5 b hb
theorem Ins.stop {l : List Pt} {j k : Nat} {A : List Pt} {x : Pt} {B C : List Pt} (h : Ins l j k A x B C) (hx : ∀ a A', A = A' ++ [a] → ltP x a = false) : ((A ++ x :: (B ++ C)).take (j + 1)).Pairwise fun p q => ltP q p = false := by
  obtain ⟨h1, h2, h3, h4, h5⟩ := h
  have e : (A ++ x :: (B ++ C)).take (j + 1) = A ++ x :: B := by
    rw [show A ++ x :: (B ++ C) = (A ++ x :: B) ++ C by simp, List.take_append_of_le_length (by simp; omega), List.take_of_length_le (by simp; omega)]
  rw [e]
  rw [List.pairwise_append] at h4 ⊢
  obtain ⟨p1, p2, p3⟩ := h4
  refine ⟨p1, List.pairwise_cons.2 ⟨fun b hb => ltP_anti (h5 b hb), p2⟩, fun a ha b hb => ?_⟩
  rcases List.mem_cons.1 hb with rfl | hb
  · rcases List.eq_nil_or_concat A with rfl | ⟨A', a', hA⟩
    · cases ha
    · rw [List.concat_eq_append] at hA
      have q := hx a' A' hA
      subst hA
      rcases List.mem_append.1 ha with h | h
      · have r := (List.pairwise_append.1 p1).2.2 a h a' (List.mem_singleton_self _)
        rw [ltP_not] at *
        omega
      · rw [List.mem_singleton.1 h]
        exact q
  · exact p3 a ha b hb
theorem Ins.start {l L : List Pt} {j : Nat} {x : Pt} (hp : L.Perm l) (hs : (L.take j).Pairwise fun p q => ltP q p = false) (hx : L[j]? = some x) : Ins l j j (L.take j) x [] (L.drop (j + 1)) ∧ L = L.take j ++ x :: ([] ++ L.drop (j + 1)) := by
  obtain ⟨hj, hxj⟩ := List.getElem?_eq_some_iff.1 hx
  have e : L = L.take j ++ x :: ([] ++ L.drop (j + 1)) := by
    rw [List.nil_append, ← hxj, ← List.drop_eq_getElem_cons hj, List.take_append_drop]
  exact ⟨⟨by rw [List.length_take]; omega, by rw [List.length_take]; simp; omega, by rw [← e]; exact hp, by rw [List.append_nil]; exact hs, fun b hb => by cases hb⟩, e⟩
theorem pt_one {c : List Pt} : ∀ u ∈ (c.map Pt.cs).flatten, u.oneCell' = true := by
  intro u hu
  rw [List.mem_flatten] at hu
  obtain ⟨r, hr, hu⟩ := hu
  obtain ⟨x, _, rfl⟩ := List.mem_map.1 hr
  unfold Pt.cs at hu
  simp only [List.mem_cons, List.not_mem_nil, or_false] at hu
  rcases hu with rfl | rfl | rfl <;> rfl
theorem infoPt3 : (Tryz.prog.info? 53).map (fun i => (i.zero, i.size, i.bytes)) = some (some (.agg #[.int .i64 0, .int .i64 0, .int .i64 0]), 3, 24) := by kernel_rfl
def RCellsPost (l : List Pt) (n : Nat) (w : World) (e : Ending) (w' : World) : Prop := ∃ g cap, w.heap.size ≤ g ∧ e = .returned (.slice (some ⟨g, 0, none⟩) n cap) ∧ n ≤ cap ∧ cap ≤ maxLen ∧ RowX w' g 53 (l.map Pt.cs) ∧ Ext w w'
/-- Two rows exchanged: the new world under one name. -/
theorem _root_.Go.Proofs.YtaaeapjnjjbglaaGreatDoor.RowX.swap3 {w : World} {g : Nat} {t : TypeId} {rows : List (List Value)} (h : RowX w g t rows) (hw : ∀ r ∈ rows, r.length = 3) {k m : Nat} (hk : k < rows.length) (hm : m < rows.length) (a b c d e f : Value) :
    ∃ w2, (((((w.setCell ⟨g, k * 3, none⟩ a).setCell ⟨g, k * 3 + 1, none⟩ b).setCell ⟨g, k * 3 + 2, none⟩ c).setCell ⟨g, m * 3, none⟩ d).setCell ⟨g, m * 3 + 1, none⟩ e).setCell ⟨g, m * 3 + 2, none⟩ f = w2 ∧ RowX w2 g t ((rows.set k [a, b, c]).set m [d, e, f]) ∧ (∀ w0, Ext w0 w → w0.heap.size ≤ g → Ext w0 w2) := by
  refine ⟨_, rfl, ?_, fun w0 hE hg => setsW_ext [d, e, f] (m * 3) (setsW_ext [a, b, c] (k * 3) hE hg) hg⟩
  exact (h.store hw hk [a, b, c] rfl).store (fun r hr => by
    rcases List.mem_or_eq_of_mem_set hr with h | h
    · exact hw r h
    · rw [h]
      rfl) (by rw [List.length_set]; exact hm) [d, e, f] rfl
end Go.Proofs.YtaaeapjnjjbglaaGreatDoor.Lat
namespace Go.Proofs.YtaaeapjnjjbglaaGreatDoor.Lat
open Go.RowKit

structure Knb where
  at_ : Pt
  dir : Int
  sort : Int
def Knb.cs (x : Knb) : List Value := [.int .i64 x.at_.x, .int .i64 x.at_.y, .int .i64 x.at_.z, .int .u8 x.dir, .int .u8 x.sort]
def Knb.byte (x : Knb) : Prop := (0 ≤ x.dir ∧ x.dir ≤ 255) ∧ 0 ≤ x.sort ∧ x.sort ≤ 255
def Knobs (w : World) (A : Option Addr) (cap : Nat) (l : List Knb) : Prop := SliceIs w A l.length cap 5 (l.map Knb.cs) ∧ ∀ x ∈ l, x.byte
theorem Knobs.ext {w w' : World} {A : Option Addr} {cap : Nat} {l : List Knb} (h : Knobs w A cap l) (e : Ext w w') : Knobs w' A cap l := ⟨SliceIs.ext h.1 e, h.2⟩
theorem Knobs.len {w : World} {A : Option Addr} {cap : Nat} {l : List Knb} (h : Knobs w A cap l) : l.length ≤ maxLen := Nat.le_trans h.1.le h.1.small
theorem Knobs.at_ {w : World} {A : Option Addr} {cap : Nat} {l : List Knb} (h : Knobs w A cap l) {k : Nat} (hk : k < l.length) :
    ∃ b off p, A = some ⟨b, off, none⟩ ∧ l[k]? = some p ∧ p.byte ∧ b < w.heap.size ∧ w.cell? ⟨b, off + k * 5, none⟩ = some (.int .i64 p.at_.x) ∧ w.cell? ⟨b, off + k * 5 + 1, none⟩ = some (.int .i64 p.at_.y) ∧
      w.cell? ⟨b, off + k * 5 + 2, none⟩ = some (.int .i64 p.at_.z) ∧ w.cell? ⟨b, off + k * 5 + 3, none⟩ = some (.int .u8 p.dir) ∧ w.cell? ⟨b, off + k * 5 + 4, none⟩ = some (.int .u8 p.sort) := by
  obtain ⟨b, off, hA, hb, hc⟩ := SliceIs.cells h.1 (by omega)
  have hget : l[k]? = some l[k] := List.getElem?_eq_getElem hk
  have hr : (l.map Knb.cs)[k]? = some l[k].cs := by rw [List.getElem?_map, hget]; rfl
  exact ⟨b, off, l[k], hA, hget, h.2 _ (List.getElem_mem hk), hb, hc k _ hr 0 _ rfl, hc k _ hr 1 _ rfl, hc k _ hr 2 _ rfl, hc k _ hr 3 _ rfl, hc k _ hr 4 _ rfl⟩
structure Knd where
  cells : List Pt
  knobs : List Knb
  weight : Int
/-- Where a kind's two lists lie. -/
structure KAt where
  A : Option Addr
  ca : Nat
  B : Option Addr
  cb : Nat
def Knd.cs (k : Knd) (p : KAt) : List Value := [.slice p.A k.cells.length p.ca, .slice p.B k.knobs.length p.cb, .int .i64 k.weight]
/-- A kind, its lists lying in w where p says. -/
structure KindAt (w : World) (p : KAt) (k : Knd) : Prop where
  c : Cells w p.A p.ca k.cells
  n : Knobs w p.B p.cb k.knobs
theorem KindAt.ext {w w' : World} {p : KAt} {k : Knd} (h : KindAt w p k) (e : Ext w w') : KindAt w' p k := ⟨h.c.ext e, h.n.ext e⟩
/-- A list of kinds. -/
structure Kinds (w : World) (A : Option Addr) (cap : Nat) (qs : List (Knd × KAt)) : Prop where
  s : SliceIs w A qs.length cap 3 (qs.map fun q => q.1.cs q.2)
  k : ∀ q ∈ qs, KindAt w q.2 q.1
theorem Kinds.ext {w w' : World} {A : Option Addr} {cap : Nat} {qs : List (Knd × KAt)} (h : Kinds w A cap qs) (e : Ext w w') : Kinds w' A cap qs := ⟨h.s.ext e, fun q hq => (h.k q hq).ext e⟩
theorem Kinds.len {w : World} {A : Option Addr} {cap : Nat} {qs : List (Knd × KAt)} (h : Kinds w A cap qs) : qs.length ≤ maxLen := Nat.le_trans h.s.le h.s.small
theorem Kinds.at_ {w : World} {A : Option Addr} {cap : Nat} {qs : List (Knd × KAt)} (h : Kinds w A cap qs) {i : Nat} (hi : i < qs.length) :
    ∃ b off k p, A = some ⟨b, off, none⟩ ∧ qs[i]? = some (k, p) ∧ KindAt w p k ∧ b < w.heap.size ∧ w.cell? ⟨b, off + i * 3, none⟩ = some (.slice p.A k.cells.length p.ca) ∧ w.cell? ⟨b, off + i * 3 + 1, none⟩ = some (.slice p.B k.knobs.length p.cb) ∧
      w.cell? ⟨b, off + i * 3 + 2, none⟩ = some (.int .i64 k.weight) := by
  obtain ⟨b, off, hA, hb, hc⟩ := SliceIs.cells h.s (by omega)
  have hget : qs[i]? = some qs[i] := List.getElem?_eq_getElem hi
  have hr : (qs.map fun q => q.1.cs q.2)[i]? = some (qs[i].1.cs qs[i].2) := by rw [List.getElem?_map, hget]; rfl
  exact ⟨b, off, qs[i].1, qs[i].2, hA, hget, h.k _ (List.getElem_mem hi), hb, hc i _ hr 0 _ rfl, hc i _ hr 1 _ rfl, hc i _ hr 2 _ rfl⟩

/-! What holds at each of the first n places. -/
def allR (n : Nat) (f : Nat → Bool) : Bool := (List.range n).all f
theorem allR_bad {n k : Nat} {f : Nat → Bool} (hk : k < n) (h : f k = false) : allR n f = false := by
  rw [allR, List.all_eq_false]
  exact ⟨k, List.mem_range.2 hk, by simp [h]⟩
theorem allR_good {n : Nat} {f : Nat → Bool} (h : ∀ j, j < n → f j = true) : allR n f = true := by
  rw [allR, List.all_eq_true]
  exact fun j hj => h j (List.mem_range.1 hj)
theorem allR_at {n k : Nat} {f : Nat → Bool} (h : allR n f = true) (hk : k < n) : f k = true := by
  rw [allR, List.all_eq_true] at h
  exact h k (List.mem_range.2 hk)

/-! Valid kinds. -/
def ptAt (l : List Pt) (k : Nat) : Pt := l.getD k ⟨0, 0, 0⟩
def knbAt (l : List Knb) (k : Nat) : Knb := l.getD k ⟨⟨0, 0, 0⟩, 0, 0⟩
theorem ptAt_eq {l : List Pt} {k : Nat} {p : Pt} (h : l[k]? = some p) : ptAt l k = p := by simp [ptAt, h]
theorem knbAt_eq {l : List Knb} {k : Nat} {p : Knb} (h : l[k]? = some p) : knbAt l k = p := by simp [knbAt, h]
def cellOk (l : List Pt) (i : Nat) : Bool := nearB (ptAt l i) 0 15 && (decide (i = 0) || ltP (ptAt l (i - 1)) (ptAt l i))
def cellsB (l : List Pt) : Bool := allR l.length (cellOk l)
def Knb.lt (y x : Knb) : Bool := ltP y.at_ x.at_ || (y.at_.eqB x.at_ && decide (y.dir < x.dir))
def Knb.one (cs : List Pt) (x : Knb) : Bool := decide (x.dir ≤ 5) && (inB 1 6 x.sort && (hasP cs x.at_ && !hasP cs (addP x.at_ (stepS x.dir.toNat))))
def knobOk (cs : List Pt) (l : List Knb) (i : Nat) : Bool := (knbAt l i).one cs && (decide (i = 0) || (knbAt l (i - 1)).lt (knbAt l i))
def knobsB (cs : List Pt) (l : List Knb) : Bool := allR l.length (knobOk cs l)
def Knd.sized (k : Knd) : Bool := inB 1 24 k.cells.length && (decide (k.knobs.length ≤ 48) && inB 1 100 k.weight)
def Knd.valid (k : Knd) : Bool := k.sized && (cellsB k.cells && knobsB k.cells k.knobs)
def kindErr (k : Knd) : Int := if k.valid then 0 else 10
theorem kindErr_good {k : Knd} (h : k.valid = true) : kindErr k = 0 := if_pos h
theorem kindErr_bad {k : Knd} (h : k.valid = false) : kindErr k = 10 := by rw [kindErr, h]; rfl
theorem valid_bad0 {k : Knd} (h : k.sized = false) : k.valid = false := by rw [Knd.valid, h]; rfl
theorem valid_bad1 {k : Knd} (h : cellsB k.cells = false) : k.valid = false := by rw [Knd.valid, h, Bool.false_and, Bool.and_false]
theorem valid_bad2 {k : Knd} (h : knobsB k.cells k.knobs = false) : k.valid = false := by rw [Knd.valid, h, Bool.and_false, Bool.and_false]
theorem valid_good {k : Knd} (h0 : k.sized = true) (h1 : cellsB k.cells = true) (h2 : knobsB k.cells k.knobs = true) : k.valid = true := by rw [Knd.valid, h0, h1, h2]; rfl
theorem sized_iff {k : Knd} : k.sized = true ↔ (1 ≤ k.cells.length ∧ k.cells.length ≤ 24) ∧ k.knobs.length ≤ 48 ∧ 1 ≤ k.weight ∧ k.weight ≤ 100 := by
  rw [Knd.sized, Bool.and_eq_true, Bool.and_eq_true, inB_iff, inB_iff, decide_eq_true_eq]
  omega
/-- The comparison of knobs as the program makes it. -/
theorem knobLt_or (y x : Knb) : decide (0 ≤ orL [ordP y.at_ x.at_, ordZ y.dir x.dir]) = !y.lt x := by
  unfold Knb.lt orL
  rcases ordP_cases y.at_ x.at_ with ⟨h, e⟩ | ⟨h, e⟩ | ⟨h, e⟩
  · rw [e, h]
    rfl
  · rw [e, if_pos rfl, h, ltP_irrefl, Pt.eqB_iff.2 rfl]
    unfold orL orL
    rcases Int.lt_trichotomy y.dir x.dir with h3 | h3 | h3
    · rw [ordZ_lt h3]; simp [h3]
    · rw [ordZ_eq h3]; simp [h3]
    · rw [ordZ_gt h3]; simp; omega
  · rw [e, ltP_anti h]
    have : y.at_.eqB x.at_ = false := by
      cases hq : y.at_.eqB x.at_
      · rfl
      · rw [Pt.eqB_iff.1 hq, ltP_irrefl] at h
        cases h
    rw [this]
    rfl
def kindAt (l : List Knd) (i : Nat) : Knd := l.getD i ⟨[], [], 0⟩
def kindsErr (l : List Knd) : Int := if 16 < l.length then 4 else if allR l.length (fun i => (kindAt l i).valid) then 0 else 10
end Go.Proofs.YtaaeapjnjjbglaaGreatDoor.Lat
