
/- lattice: the closures of turners, and turners itself. lattice.turners and lattice.turn. studworkref01.Turned: the same turns. -/
import Derived.Test.YtjacbhomhjoolaaGreatBLib
import Derived.Laws.EntriesVeiled
namespace Go.Proofs.YtjacbhomhjoolaaGreat
open Go.RowKit

def CB (x : Int) : Prop := -1000000 ≤ x ∧ x ≤ 1000000

set_option maxHeartbeats 400000 in
theorem tn1_c (x y z : Int) (w : World) (hz : CB z) :
  Calls Tryz.prog 104 #[.agg #[.int .i64 x,.int .i64 y,.int .i64 z]] w fun e w' => e = .returned (.agg #[.int .i64 x,.int .i64 (-z),.int .i64 y]) ∧ Ext w w' := by
 obtain ⟨z1,z2⟩ := hz
 go_enter Tryz.func104,Tryz.ntmps104
 go_wp2
 exact bodyPost_ret (v := .agg #[.int .i64 x,.int .i64 (-z),.int .i64 y]) (by simp [results,Tryz.results104,go_sem]) rfl ⟨rfl,by apply_rules [Ext.refl,Ext.alloc]⟩

set_option maxHeartbeats 400000 in
theorem tn2_c (x y z : Int) (w : World) :
  Calls Tryz.prog 105 #[.agg #[.int .i64 x,.int .i64 y,.int .i64 z]] w fun e w' => e = .returned (.agg #[.int .i64 x,.int .i64 y,.int .i64 z]) ∧ Ext w w' := by
 go_enter Tryz.func105,Tryz.ntmps105
 go_wp2
 exact bodyPost_ret (v := .agg #[.int .i64 x,.int .i64 y,.int .i64 z]) (by simp [results,Tryz.results105,go_sem]) rfl ⟨rfl,by apply_rules [Ext.refl,Ext.alloc]⟩

set_option maxHeartbeats 400000 in
theorem tn5_c (x y z : Int) (w : World) :
  Calls Tryz.prog 108 #[.agg #[.int .i64 x,.int .i64 y,.int .i64 z]] w fun e w' => e = .returned (.agg #[.int .i64 z,.int .i64 x,.int .i64 y]) ∧ Ext w w' := by
 go_enter Tryz.func108,Tryz.ntmps108
 go_wp2
 exact bodyPost_ret (v := .agg #[.int .i64 z,.int .i64 x,.int .i64 y]) (by simp [results,Tryz.results108,go_sem]) rfl ⟨rfl,by apply_rules [Ext.refl,Ext.alloc]⟩

set_option maxHeartbeats 400000 in
theorem tn6_c (x y z : Int) (w : World) (hx : CB x) (hz : CB z) :
  Calls Tryz.prog 109 #[.agg #[.int .i64 x,.int .i64 y,.int .i64 z]] w fun e w' => e = .returned (.agg #[.int .i64 (-z),.int .i64 (-x),.int .i64 y]) ∧ Ext w w' := by
 obtain ⟨x1,x2⟩ := hx
 obtain ⟨z1,z2⟩ := hz
 go_enter Tryz.func109,Tryz.ntmps109
 go_wp2
 exact bodyPost_ret (v := .agg #[.int .i64 (-z),.int .i64 (-x),.int .i64 y]) (by simp [results,Tryz.results109,go_sem]) rfl ⟨rfl,by apply_rules [Ext.refl,Ext.alloc]⟩

theorem CB.neg {x : Int} (h : CB x) : CB (-x) := by unfold CB at *; omega

set_option maxHeartbeats 800000 in
theorem tn3_c (x y z : Int) (g : Nat) (w : World) (hy : CB y) (hz : CB z) (hg : w.cell? ⟨g,0,none⟩ = some (.func (.func 104) #[] #[])) :
  Calls Tryz.prog 106 #[.agg #[.int .i64 x,.int .i64 y,.int .i64 z],.pointer (some ⟨g,0,none⟩)] w fun e w' => e = .returned (.agg #[.int .i64 x,.int .i64 (-y),.int .i64 (-z)]) ∧ Ext w w' := by
 obtain ⟨W,hW,E,ba,bb,hsz⟩ := boxes2 w #[.int .i64 x,.int .i64 y,.int .i64 z] #[.int .i64 0,.int .i64 0,.int .i64 0] 27 27
 have hgW := E.cell hg
 have hz' := hz.neg
 have B3 : Blk W (w.heap.size + 1) 27 #[.int .i64 0,.int .i64 0,.int .i64 0] := by
  rw [← hW]
  have := Blk.new (w.alloc (.cells #[.int .i64 x,.int .i64 y,.int .i64 z] 27)) #[.int .i64 0,.int .i64 0,.int .i64 0] 27
  rwa [World.size_alloc] at this
 go_enter Tryz.func106,Tryz.ntmps106
 go_wp2
 refine wp_region_tail 5 (by kernel_rfl) (by kernel_rfl) ?_
 simp only [List.take_succ_cons,List.take_zero,List.drop_succ_cons,List.drop_zero]
 repeat (go_big_quiet_step ((go_at_call 104; exact quiet_ext (tn1_c _ _ _ _ (by assumption)))))
 refine wpQuiet_nil ?_
 intro W2 hW2
 have E2 : Ext W W2 := by
  obtain ⟨x,rfl⟩ := hW2
  exact (Ext.refl _).grow x
 clear hW2
 have B32 := B3.ext E2
 have cc := B32.cell
 have ff := B32.frozen
 go_wp2
 refine bodyPost_ret (v := .agg #[.int .i64 x,.int .i64 (-y),.int .i64 (-z)]) (by simp [results,Tryz.results106,go_sem,cc]) rfl ⟨rfl,?_⟩
 exact (((E.trans E2).setCell (Nat.le_succ _) _).setCell (Nat.le_succ _) _).setCell (Nat.le_succ _) _

set_option maxHeartbeats 800000 in
theorem tn4_c (x y z : Int) (g : Nat) (w : World) (hy : CB y) (hz : CB z) (hg : w.cell? ⟨g,0,none⟩ = some (.func (.func 104) #[] #[])) :
  Calls Tryz.prog 107 #[.agg #[.int .i64 x,.int .i64 y,.int .i64 z],.pointer (some ⟨g,0,none⟩)] w fun e w' => e = .returned (.agg #[.int .i64 x,.int .i64 z,.int .i64 (-y)]) ∧ Ext w w' := by
 obtain ⟨W,hW,E,ba,bb,hsz⟩ := boxes2 w #[.int .i64 x,.int .i64 y,.int .i64 z] #[.int .i64 0,.int .i64 0,.int .i64 0] 27 27
 have hgW := E.cell hg
 have hz' := hz.neg
 have hy' := hy.neg
 have B3 : Blk W (w.heap.size + 1) 27 #[.int .i64 0,.int .i64 0,.int .i64 0] := by
  rw [← hW]
  have := Blk.new (w.alloc (.cells #[.int .i64 x,.int .i64 y,.int .i64 z] 27)) #[.int .i64 0,.int .i64 0,.int .i64 0] 27
  rwa [World.size_alloc] at this
 go_enter Tryz.func107,Tryz.ntmps107
 go_wp2
 refine wp_region_tail 7 (by kernel_rfl) (by kernel_rfl) ?_
 simp only [List.take_succ_cons,List.take_zero,List.drop_succ_cons,List.drop_zero]
 repeat (go_big_quiet_step ((go_at_call 104; exact quiet_ext (tn1_c _ _ _ _ (by assumption)))))
 refine wpQuiet_nil ?_
 intro W2 hW2
 have E2 : Ext W W2 := by
  obtain ⟨x,rfl⟩ := hW2
  exact (Ext.refl _).grow x
 clear hW2
 have B32 := B3.ext E2
 have cc := B32.cell
 have ff := B32.frozen
 go_wp2
 refine bodyPost_ret (v := .agg #[.int .i64 x,.int .i64 z,.int .i64 (-y)]) (by simp [results,Tryz.results107,go_sem,cc]) rfl ⟨rfl,?_⟩
 exact (((E.trans E2).setCell (Nat.le_succ _) _).setCell (Nat.le_succ _) _).setCell (Nat.le_succ _) _


set_option maxHeartbeats 800000 in
theorem turners_c (w : World) :
  Calls Tryz.prog 76 #[] w fun e w' => ∃ g,e = .returned (.agg #[.func (.func 105) #[] #[],.func (.func 104) #[] #[],
   .func (.func 106) #[] #[.pointer (some ⟨g,0,none⟩)],.func (.func 107) #[] #[.pointer (some ⟨g,0,none⟩)],
   .func (.func 108) #[] #[],.func (.func 109) #[] #[]]) ∧ w'.cell? ⟨g,0,none⟩ = some (.func (.func 104) #[] #[]) ∧ Ext w w' := by
 have hmf : ∀ (fn : Fn) (first cap : Array Value) (w : World),(Instr.makeFunc fn first cap).run Tryz.prog w = .ok (.func fn first cap) w := fun _ _ _ _ => rfl
 go_enter Tryz.func76,Tryz.ntmps76
 go_wp2
 refine bodyPost_ret (v := .agg #[.func (.func 105) #[] #[],.func (.func 104) #[] #[],
   .func (.func 106) #[] #[.pointer (some ⟨w.heap.size + 1,0,none⟩)],.func (.func 107) #[] #[.pointer (some ⟨w.heap.size + 1,0,none⟩)],
   .func (.func 108) #[] #[],.func (.func 109) #[] #[]]) (by simp [results,Tryz.results76,go_sem]) rfl ⟨w.heap.size + 1,rfl,?_,by apply_rules [Ext.refl,Ext.alloc]⟩
 simp [go_sem]

structure Pt where
 x : Int
 y : Int
 z : Int
def Pt.ok (p : Pt) : Prop := CB p.x ∧ CB p.y ∧ CB p.z
def rotZ (p : Pt) : Pt := ⟨-p.y,p.x,p.z⟩
def rotZn (p : Pt) : Nat → Pt
 | 0 => p
 | k + 1 => rotZ (rotZn p k)
def turnQ (p : Pt) (q : Nat) : Pt :=
 match q with
 | 0 => p
 | 1 => ⟨p.x, -p.z,p.y⟩
 | 2 => ⟨p.x, -p.y, -p.z⟩
 | 3 => ⟨p.x,p.z, -p.y⟩
 | 4 => ⟨p.z,p.x,p.y⟩
 | _ => ⟨-p.z, -p.x,p.y⟩
def turnS (p : Pt) (n : Nat) : Pt := turnQ (rotZn p (n % 4)) (n / 4)
theorem rotZn_ok {p : Pt} (h : p.ok) (k : Nat) : (rotZn p k).ok := by
 induction k with
 | zero => exact h
 | succ k ih => exact ⟨ih.2.1.neg,ih.1,ih.2.2⟩
theorem turnQ_ok {p : Pt} (h : p.ok) (q : Nat) : (turnQ p q).ok := by
 obtain ⟨h1,h2,h3⟩ := h
 unfold turnQ
 split
 ·exact ⟨h1,h2,h3⟩
 ·exact ⟨h1,h3.neg,h2⟩
 ·exact ⟨h1,h2.neg,h3.neg⟩
 ·exact ⟨h1,h3,h2.neg⟩
 ·exact ⟨h3,h1,h2⟩
 ·exact ⟨h3.neg,h1.neg,h2⟩
theorem turnS_ok {p : Pt} (h : p.ok) (n : Nat) : (turnS p n).ok := turnQ_ok (rotZn_ok h _) _

set_option maxHeartbeats 3200000 in
theorem turn_c (x y z : Int) (n : Nat) (w : World) (hn : n < 24) (hp : Pt.ok ⟨x,y,z⟩) :
  Calls Tryz.prog 45 #[.agg #[.int .i64 x,.int .i64 y,.int .i64 z],.int .i64 n] w fun e w' =>
   e = .returned (.agg #[.int .i64 (turnS ⟨x,y,z⟩ n).x,.int .i64 (turnS ⟨x,y,z⟩ n).y,.int .i64 (turnS ⟨x,y,z⟩ n).z]) ∧ Ext w w' := by
 go_enter Tryz.func45,Tryz.ntmps45
 go_wp2
 go_loopw [7] (fun i wr => ∃ k : Nat,k ≤ n % 4 ∧ i = .int .i64 k ∧ Ext w wr ∧ Blk wr w.heap.size 27 #[.int .i64 (rotZn ⟨x,y,z⟩ k).x,.int .i64 (rotZn ⟨x,y,z⟩ k).y,.int .i64 (rotZn ⟨x,y,z⟩ k).z] ∧
   Blk wr (w.heap.size + 1) 27 #[.int .i64 0,.int .i64 0,.int .i64 0]) (fun i _ => n % 4 - (intOf i).toNat)
 case atStart =>
  refine ⟨0,by omega,rfl,by apply_rules [Ext.refl,Ext.alloc],(Blk.new _ _ _).alloc _,?_⟩
  have := Blk.new (w.alloc (.cells #[.int .i64 x,.int .i64 y,.int .i64 z] 27)) #[.int .i64 0,.int .i64 0,.int .i64 0] 27
  rwa [World.size_alloc] at this
 case round =>
  obtain ⟨k,hk,rfl,E,B0,B1⟩ := hrel
  obtain ⟨p,hpk⟩ : ∃ p,rotZn ⟨x,y,z⟩ k = p := ⟨_,rfl⟩
  have hok : p.ok := hpk ▸ rotZn_ok hp k
  rw [hpk] at B0
  have Hp := Lib.hid hpk
  clear hpk
  have hz0 := hok.2.1
  obtain ⟨b1,b2⟩ := hz0
  have c0 := B0.cell
  have f0 := B0.frozen
  have c1 := B1.cell
  by_cases hlt : k < n % 4
  ·go_wp2
   go_roundw
   case rel =>
    refine ⟨k + 1,by omega,by go_num,((E.setCell (Nat.le_refl _) _).setCell (Nat.le_refl _) _).setCell (Nat.le_refl _) _,?_,((B1.far (by simp) _).far (by simp) _).far (by simp) _⟩
    have hr : rotZn ⟨x,y,z⟩ (k + 1) = ⟨-p.y,p.x,p.z⟩ := by
     show rotZ (rotZn ⟨x,y,z⟩ k) = _
     rw [Hp.out]
     rfl
    rw [hr]
    have := ((B0.set_ 0 (.int .i64 (-p.y))).set_ 1 (.int .i64 p.x)).set_ 2 (.int .i64 p.z)
    simpa using this
   case measure => simp [intOf]; omega
  ·obtain rfl : n % 4 = k := by omega
   have hq6 : n / 4 = 0 ∨ n / 4 = 1 ∨ n / 4 = 2 ∨ n / 4 = 3 ∨ n / 4 = 4 ∨ n / 4 = 5 := by omega
   have Hq6 := Lib.hid hq6
   clear hq6
   go_wp2
   rcases Hq6.out with hq | hq | hq | hq | hq | hq
   ·have Hfin := Lib.hid (show turnS ⟨x,y,z⟩ n = ⟨p.x,p.y,p.z⟩ from by unfold turnS; rw [Hp.out,hq]; rfl)
    have hqi : (n : Int) / 4 = 0 := by omega
    have hwq : IntKind.i64.wrap 0 = 0 := by decide
    have hfld : ∀ (w : World),(Instr.field 151 (.agg #[.func (.func 105) #[] #[]]) 0).run Tryz.prog w = .ok (.func (.func 105) #[] #[]) w := fun _ => by kernel_rfl
    have hidx : ∀ (g : Nat) (w : World),(Instr.index 152 (.agg #[.func (.func 105) #[] #[],.func (.func 104) #[] #[],.func (.func 106) #[] #[.pointer (some ⟨g,0,none⟩)],.func (.func 107) #[] #[.pointer (some ⟨g,0,none⟩)],.func (.func 108) #[] #[],.func (.func 109) #[] #[]]) (.int .i64 0)).run Tryz.prog w = .ok (.agg #[.func (.func 105) #[] #[]]) w := fun _ _ => by kernel_rfl
    clear hq Hq6
    go_region_law (first
     | (go_simp; go_at_call 76; refine (turners_c _).mono ?_; rintro e w1 ⟨g,rfl,HG,E1⟩; have B01 := B0.drew.ext E1; have B11 := B1.drew.ext E1; have c01 := B01.cell)
     | (go_simp; go_at_call 105; refine (tn2_c p.x p.y p.z _).mono ?_; rintro e w2 ⟨rfl,E2⟩; have B12 := B11.ext E2; have c12 := B12.cell; have f12 := B12.frozen))
    all_goals
     go_wp2
     refine bodyPost_ret (v := .agg #[.int .i64 p.x,.int .i64 p.y,.int .i64 p.z]) (by simp [results,Tryz.results45,go_sem,c12]) rfl ⟨by rw [Hfin.out],?_⟩
     exact ((((E.drew.trans E1).trans E2).setCell (Nat.le_succ _) _).setCell (Nat.le_succ _) _).setCell (Nat.le_succ _) _
   ·have Hfin := Lib.hid (show turnS ⟨x,y,z⟩ n = ⟨p.x,(-p.z),p.y⟩ from by unfold turnS; rw [Hp.out,hq]; rfl)
    have hqi : (n : Int) / 4 = 1 := by omega
    have hwq : IntKind.i64.wrap 1 = 1 := by decide
    have hfld : ∀ (w : World),(Instr.field 151 (.agg #[.func (.func 104) #[] #[]]) 0).run Tryz.prog w = .ok (.func (.func 104) #[] #[]) w := fun _ => by kernel_rfl
    have hidx : ∀ (g : Nat) (w : World),(Instr.index 152 (.agg #[.func (.func 105) #[] #[],.func (.func 104) #[] #[],.func (.func 106) #[] #[.pointer (some ⟨g,0,none⟩)],.func (.func 107) #[] #[.pointer (some ⟨g,0,none⟩)],.func (.func 108) #[] #[],.func (.func 109) #[] #[]]) (.int .i64 1)).run Tryz.prog w = .ok (.agg #[.func (.func 104) #[] #[]]) w := fun _ _ => by kernel_rfl
    clear hq Hq6
    go_region_law (first
     | (go_simp; go_at_call 76; refine (turners_c _).mono ?_; rintro e w1 ⟨g,rfl,HG,E1⟩; have B01 := B0.drew.ext E1; have B11 := B1.drew.ext E1; have c01 := B01.cell)
     | (go_simp; go_at_call 104; refine (tn1_c p.x p.y p.z _ hok.2.2).mono ?_; rintro e w2 ⟨rfl,E2⟩; have B12 := B11.ext E2; have c12 := B12.cell; have f12 := B12.frozen))
    all_goals
     go_wp2
     refine bodyPost_ret (v := .agg #[.int .i64 p.x,.int .i64 (-p.z),.int .i64 p.y]) (by simp [results,Tryz.results45,go_sem,c12]) rfl ⟨by rw [Hfin.out],?_⟩
     exact ((((E.drew.trans E1).trans E2).setCell (Nat.le_succ _) _).setCell (Nat.le_succ _) _).setCell (Nat.le_succ _) _
   ·have Hfin := Lib.hid (show turnS ⟨x,y,z⟩ n = ⟨p.x,(-p.y),(-p.z)⟩ from by unfold turnS; rw [Hp.out,hq]; rfl)
    have hqi : (n : Int) / 4 = 2 := by omega
    have hwq : IntKind.i64.wrap 2 = 2 := by decide
    have hfld : ∀ (g : Nat) (w : World),(Instr.field 151 (.agg #[.func (.func 106) #[] #[.pointer (some ⟨g,0,none⟩)]]) 0).run Tryz.prog w = .ok (.func (.func 106) #[] #[.pointer (some ⟨g,0,none⟩)]) w := fun _ _ => by kernel_rfl
    have hidx : ∀ (g : Nat) (w : World),(Instr.index 152 (.agg #[.func (.func 105) #[] #[],.func (.func 104) #[] #[],.func (.func 106) #[] #[.pointer (some ⟨g,0,none⟩)],.func (.func 107) #[] #[.pointer (some ⟨g,0,none⟩)],.func (.func 108) #[] #[],.func (.func 109) #[] #[]]) (.int .i64 2)).run Tryz.prog w = .ok (.agg #[.func (.func 106) #[] #[.pointer (some ⟨g,0,none⟩)]]) w := fun _ _ => by kernel_rfl
    clear hq Hq6
    go_region_law (first
     | (go_simp; go_at_call 76; refine (turners_c _).mono ?_; rintro e w1 ⟨g,rfl,HG,E1⟩; have B01 := B0.drew.ext E1; have B11 := B1.drew.ext E1; have c01 := B01.cell)
     | (go_simp; go_at_call 106; refine (tn3_c p.x p.y p.z g _ hok.2.1 hok.2.2 HG).mono ?_; rintro e w2 ⟨rfl,E2⟩; have B12 := B11.ext E2; have c12 := B12.cell; have f12 := B12.frozen))
    all_goals
     go_wp2
     refine bodyPost_ret (v := .agg #[.int .i64 p.x,.int .i64 (-p.y),.int .i64 (-p.z)]) (by simp [results,Tryz.results45,go_sem,c12]) rfl ⟨by rw [Hfin.out],?_⟩
     exact ((((E.drew.trans E1).trans E2).setCell (Nat.le_succ _) _).setCell (Nat.le_succ _) _).setCell (Nat.le_succ _) _
   ·have Hfin := Lib.hid (show turnS ⟨x,y,z⟩ n = ⟨p.x,p.z,(-p.y)⟩ from by unfold turnS; rw [Hp.out,hq]; rfl)
    have hqi : (n : Int) / 4 = 3 := by omega
    have hwq : IntKind.i64.wrap 3 = 3 := by decide
    have hfld : ∀ (g : Nat) (w : World),(Instr.field 151 (.agg #[.func (.func 107) #[] #[.pointer (some ⟨g,0,none⟩)]]) 0).run Tryz.prog w = .ok (.func (.func 107) #[] #[.pointer (some ⟨g,0,none⟩)]) w := fun _ _ => by kernel_rfl
    have hidx : ∀ (g : Nat) (w : World),(Instr.index 152 (.agg #[.func (.func 105) #[] #[],.func (.func 104) #[] #[],.func (.func 106) #[] #[.pointer (some ⟨g,0,none⟩)],.func (.func 107) #[] #[.pointer (some ⟨g,0,none⟩)],.func (.func 108) #[] #[],.func (.func 109) #[] #[]]) (.int .i64 3)).run Tryz.prog w = .ok (.agg #[.func (.func 107) #[] #[.pointer (some ⟨g,0,none⟩)]]) w := fun _ _ => by kernel_rfl
    clear hq Hq6
    go_region_law (first
     | (go_simp; go_at_call 76; refine (turners_c _).mono ?_; rintro e w1 ⟨g,rfl,HG,E1⟩; have B01 := B0.drew.ext E1; have B11 := B1.drew.ext E1; have c01 := B01.cell)
     | (go_simp; go_at_call 107; refine (tn4_c p.x p.y p.z g _ hok.2.1 hok.2.2 HG).mono ?_; rintro e w2 ⟨rfl,E2⟩; have B12 := B11.ext E2; have c12 := B12.cell; have f12 := B12.frozen))
    all_goals
     go_wp2
     refine bodyPost_ret (v := .agg #[.int .i64 p.x,.int .i64 p.z,.int .i64 (-p.y)]) (by simp [results,Tryz.results45,go_sem,c12]) rfl ⟨by rw [Hfin.out],?_⟩
     exact ((((E.drew.trans E1).trans E2).setCell (Nat.le_succ _) _).setCell (Nat.le_succ _) _).setCell (Nat.le_succ _) _
   ·have Hfin := Lib.hid (show turnS ⟨x,y,z⟩ n = ⟨p.z,p.x,p.y⟩ from by unfold turnS; rw [Hp.out,hq]; rfl)
    have hqi : (n : Int) / 4 = 4 := by omega
    have hwq : IntKind.i64.wrap 4 = 4 := by decide
    have hfld : ∀ (w : World),(Instr.field 151 (.agg #[.func (.func 108) #[] #[]]) 0).run Tryz.prog w = .ok (.func (.func 108) #[] #[]) w := fun _ => by kernel_rfl
    have hidx : ∀ (g : Nat) (w : World),(Instr.index 152 (.agg #[.func (.func 105) #[] #[],.func (.func 104) #[] #[],.func (.func 106) #[] #[.pointer (some ⟨g,0,none⟩)],.func (.func 107) #[] #[.pointer (some ⟨g,0,none⟩)],.func (.func 108) #[] #[],.func (.func 109) #[] #[]]) (.int .i64 4)).run Tryz.prog w = .ok (.agg #[.func (.func 108) #[] #[]]) w := fun _ _ => by kernel_rfl
    clear hq Hq6
    go_region_law (first
     | (go_simp; go_at_call 76; refine (turners_c _).mono ?_; rintro e w1 ⟨g,rfl,HG,E1⟩; have B01 := B0.drew.ext E1; have B11 := B1.drew.ext E1; have c01 := B01.cell)
     | (go_simp; go_at_call 108; refine (tn5_c p.x p.y p.z _).mono ?_; rintro e w2 ⟨rfl,E2⟩; have B12 := B11.ext E2; have c12 := B12.cell; have f12 := B12.frozen))
    all_goals
     go_wp2
     refine bodyPost_ret (v := .agg #[.int .i64 p.z,.int .i64 p.x,.int .i64 p.y]) (by simp [results,Tryz.results45,go_sem,c12]) rfl ⟨by rw [Hfin.out],?_⟩
     exact ((((E.drew.trans E1).trans E2).setCell (Nat.le_succ _) _).setCell (Nat.le_succ _) _).setCell (Nat.le_succ _) _
   ·have Hfin := Lib.hid (show turnS ⟨x,y,z⟩ n = ⟨(-p.z),(-p.x),p.y⟩ from by unfold turnS; rw [Hp.out,hq]; rfl)
    have hqi : (n : Int) / 4 = 5 := by omega
    have hwq : IntKind.i64.wrap 5 = 5 := by decide
    have hfld : ∀ (w : World),(Instr.field 151 (.agg #[.func (.func 109) #[] #[]]) 0).run Tryz.prog w = .ok (.func (.func 109) #[] #[]) w := fun _ => by kernel_rfl
    have hidx : ∀ (g : Nat) (w : World),(Instr.index 152 (.agg #[.func (.func 105) #[] #[],.func (.func 104) #[] #[],.func (.func 106) #[] #[.pointer (some ⟨g,0,none⟩)],.func (.func 107) #[] #[.pointer (some ⟨g,0,none⟩)],.func (.func 108) #[] #[],.func (.func 109) #[] #[]]) (.int .i64 5)).run Tryz.prog w = .ok (.agg #[.func (.func 109) #[] #[]]) w := fun _ _ => by kernel_rfl
    clear hq Hq6
    go_region_law (first
     | (go_simp; go_at_call 76; refine (turners_c _).mono ?_; rintro e w1 ⟨g,rfl,HG,E1⟩; have B01 := B0.drew.ext E1; have B11 := B1.drew.ext E1; have c01 := B01.cell)
     | (go_simp; go_at_call 109; refine (tn6_c p.x p.y p.z _ hok.1 hok.2.2).mono ?_; rintro e w2 ⟨rfl,E2⟩; have B12 := B11.ext E2; have c12 := B12.cell; have f12 := B12.frozen))
    all_goals
     go_wp2
     refine bodyPost_ret (v := .agg #[.int .i64 (-p.z),.int .i64 (-p.x),.int .i64 p.y]) (by simp [results,Tryz.results45,go_sem,c12]) rfl ⟨by rw [Hfin.out],?_⟩
     exact ((((E.drew.trans E1).trans E2).setCell (Nat.le_succ _) _).setCell (Nat.le_succ _) _).setCell (Nat.le_succ _) _

def rotX (p : Pt) : Pt := ⟨p.x, -p.z,p.y⟩
def rotXn (p : Pt) : Nat → Pt
 | 0 => p
 | k + 1 => rotX (rotXn p k)
theorem rotXn_ok {p : Pt} (h : p.ok) (k : Nat) : (rotXn p k).ok := by
 induction k with
 | zero => exact h
 | succ k ih => exact ⟨ih.1,ih.2.2.neg,ih.2.1⟩

set_option maxHeartbeats 1600000 in
theorem aboutZ_c (x y z n : Int) (w : World) (h0 : 0 ≤ n) (h1 : n ≤ 1000) (hp : Pt.ok ⟨x,y,z⟩) :
  Calls Tryz.prog 152 #[.agg #[.int .i64 x,.int .i64 y,.int .i64 z],.int .i64 n] w fun e w' =>
   e = .returned (.agg #[.int .i64 (rotZn ⟨x,y,z⟩ n.toNat).x,.int .i64 (rotZn ⟨x,y,z⟩ n.toNat).y,.int .i64 (rotZn ⟨x,y,z⟩ n.toNat).z]) ∧ Ext w w' := by
 obtain ⟨m,rfl⟩ := Int.eq_ofNat_of_zero_le h0
 rw [Int.toNat_natCast]
 go_enter Tryz.func152,Tryz.ntmps152
 go_wp2
 go_loopw [5] (fun i wr => ∃ k : Nat,k ≤ m ∧ i = .int .i64 k ∧ Ext w wr ∧ Blk wr w.heap.size 27 #[.int .i64 (rotZn ⟨x,y,z⟩ k).x,.int .i64 (rotZn ⟨x,y,z⟩ k).y,.int .i64 (rotZn ⟨x,y,z⟩ k).z] ∧
   Blk wr (w.heap.size + 1) 27 #[.int .i64 0,.int .i64 0,.int .i64 0]) (fun i _ => m - (intOf i).toNat)
 case atStart =>
  refine ⟨0,by omega,rfl,by apply_rules [Ext.refl,Ext.alloc],(Blk.new _ _ _).alloc _,?_⟩
  have := Blk.new (w.alloc (.cells #[.int .i64 x,.int .i64 y,.int .i64 z] 27)) #[.int .i64 0,.int .i64 0,.int .i64 0] 27
  rwa [World.size_alloc] at this
 case round =>
  obtain ⟨k,hk,rfl,E,B0,B1⟩ := hrel
  obtain ⟨p,hpk⟩ : ∃ p,rotZn ⟨x,y,z⟩ k = p := ⟨_,rfl⟩
  have hok : p.ok := hpk ▸ rotZn_ok hp k
  rw [hpk] at B0
  have Hp := Lib.hid hpk
  clear hpk
  obtain ⟨_,⟨b1,b2⟩,b3,b4⟩ := hok
  have c0 := B0.cell
  have f0 := B0.frozen
  have c1 := B1.cell
  have f1 := B1.frozen
  by_cases hlt : k < m
  ·go_wp2
   go_roundw
   case rel =>
    refine ⟨k + 1,by omega,by go_num,((E.setCell (Nat.le_refl _) _).setCell (Nat.le_refl _) _).setCell (Nat.le_refl _) _,?_,((B1.far (by simp) _).far (by simp) _).far (by simp) _⟩
    have hr : rotZn ⟨x,y,z⟩ (k + 1) = ⟨(-p.y),p.x,p.z⟩ := by
     show rotZ (rotZn ⟨x,y,z⟩ k) = _
     rw [Hp.out]
     rfl
    rw [hr]
    have := ((B0.set_ 0 (.int .i64 (-p.y))).set_ 1 (.int .i64 p.x)).set_ 2 (.int .i64 p.z)
    simpa using this
   case measure => simp [intOf]; omega
  ·obtain rfl : m = k := by omega
   go_wp2
   refine bodyPost_ret (v := .agg #[.int .i64 p.x,.int .i64 p.y,.int .i64 p.z]) (by simp [results,Tryz.results152,go_sem,c1]) rfl ⟨by rw [Hp.out],?_⟩
   exact ((E.setCell (Nat.le_succ _) _).setCell (Nat.le_succ _) _).setCell (Nat.le_succ _) _

set_option maxHeartbeats 1600000 in
theorem aboutX_c (x y z n : Int) (w : World) (h0 : 0 ≤ n) (h1 : n ≤ 1000) (hp : Pt.ok ⟨x,y,z⟩) :
  Calls Tryz.prog 153 #[.agg #[.int .i64 x,.int .i64 y,.int .i64 z],.int .i64 n] w fun e w' =>
   e = .returned (.agg #[.int .i64 (rotXn ⟨x,y,z⟩ n.toNat).x,.int .i64 (rotXn ⟨x,y,z⟩ n.toNat).y,.int .i64 (rotXn ⟨x,y,z⟩ n.toNat).z]) ∧ Ext w w' := by
 obtain ⟨m,rfl⟩ := Int.eq_ofNat_of_zero_le h0
 rw [Int.toNat_natCast]
 go_enter Tryz.func153,Tryz.ntmps153
 go_wp2
 go_loopw [5] (fun i wr => ∃ k : Nat,k ≤ m ∧ i = .int .i64 k ∧ Ext w wr ∧ Blk wr w.heap.size 27 #[.int .i64 (rotXn ⟨x,y,z⟩ k).x,.int .i64 (rotXn ⟨x,y,z⟩ k).y,.int .i64 (rotXn ⟨x,y,z⟩ k).z] ∧
   Blk wr (w.heap.size + 1) 27 #[.int .i64 0,.int .i64 0,.int .i64 0]) (fun i _ => m - (intOf i).toNat)
 case atStart =>
  refine ⟨0,by omega,rfl,by apply_rules [Ext.refl,Ext.alloc],(Blk.new _ _ _).alloc _,?_⟩
  have := Blk.new (w.alloc (.cells #[.int .i64 x,.int .i64 y,.int .i64 z] 27)) #[.int .i64 0,.int .i64 0,.int .i64 0] 27
  rwa [World.size_alloc] at this
 case round =>
  obtain ⟨k,hk,rfl,E,B0,B1⟩ := hrel
  obtain ⟨p,hpk⟩ : ∃ p,rotXn ⟨x,y,z⟩ k = p := ⟨_,rfl⟩
  have hok : p.ok := hpk ▸ rotXn_ok hp k
  rw [hpk] at B0
  have Hp := Lib.hid hpk
  clear hpk
  obtain ⟨_,⟨b1,b2⟩,b3,b4⟩ := hok
  have c0 := B0.cell
  have f0 := B0.frozen
  have c1 := B1.cell
  have f1 := B1.frozen
  by_cases hlt : k < m
  ·go_wp2
   go_roundw
   case rel =>
    refine ⟨k + 1,by omega,by go_num,((E.setCell (Nat.le_refl _) _).setCell (Nat.le_refl _) _).setCell (Nat.le_refl _) _,?_,((B1.far (by simp) _).far (by simp) _).far (by simp) _⟩
    have hr : rotXn ⟨x,y,z⟩ (k + 1) = ⟨p.x,(-p.z),p.y⟩ := by
     show rotX (rotXn ⟨x,y,z⟩ k) = _
     rw [Hp.out]
     rfl
    rw [hr]
    have := ((B0.set_ 0 (.int .i64 p.x)).set_ 1 (.int .i64 (-p.z))).set_ 2 (.int .i64 p.y)
    simpa using this
   case measure => simp [intOf]; omega
  ·obtain rfl : m = k := by omega
   go_wp2
   refine bodyPost_ret (v := .agg #[.int .i64 p.x,.int .i64 p.y,.int .i64 p.z]) (by simp [results,Tryz.results153,go_sem,c1]) rfl ⟨by rw [Hp.out],?_⟩
   exact ((E.setCell (Nat.le_succ _) _).setCell (Nat.le_succ _) _).setCell (Nat.le_succ _) _

theorem aboutX_1 (x y z : Int) (w : World) (hp : Pt.ok ⟨x,y,z⟩) :
  Calls Tryz.prog 153 #[.agg #[.int .i64 x,.int .i64 y,.int .i64 z],.int .i64 1] w fun e w' => e = .returned (.agg #[.int .i64 x,.int .i64 (-z),.int .i64 y]) ∧ Ext w w' :=
 (aboutX_c x y z 1 w (by omega) (by omega) hp).mono fun _ _ ⟨he,hE⟩ => ⟨by rw [he]; rfl,hE⟩
theorem aboutZ_1 (x y z : Int) (w : World) (hp : Pt.ok ⟨x,y,z⟩) :
  Calls Tryz.prog 152 #[.agg #[.int .i64 x,.int .i64 y,.int .i64 z],.int .i64 1] w fun e w' => e = .returned (.agg #[.int .i64 (-y),.int .i64 x,.int .i64 z]) ∧ Ext w w' :=
 (aboutZ_c x y z 1 w (by omega) (by omega) hp).mono fun _ _ ⟨he,hE⟩ => ⟨by rw [he]; rfl,hE⟩
theorem aboutZ_3 (x y z : Int) (w : World) (hp : Pt.ok ⟨x,y,z⟩) :
  Calls Tryz.prog 152 #[.agg #[.int .i64 x,.int .i64 y,.int .i64 z],.int .i64 3] w fun e w' => e = .returned (.agg #[.int .i64 y,.int .i64 (-x),.int .i64 z]) ∧ Ext w w' :=
 (aboutZ_c x y z 3 w (by omega) (by omega) hp).mono fun _ _ ⟨he,hE⟩ => ⟨by rw [he]; show Ending.returned (.agg #[.int .i64 (- -y),.int .i64 (-x),.int .i64 z]) = _; rw [Int.neg_neg],hE⟩

theorem turnS_low (p : Pt) (n : Nat) (h : n / 4 < 4) : turnS p n = rotXn (rotZn p (n % 4)) (n / 4) := by
 unfold turnS
 generalize rotZn p (n % 4) = q
 have : n / 4 = 0 ∨ n / 4 = 1 ∨ n / 4 = 2 ∨ n / 4 = 3 := by omega
 rcases this with h | h | h | h <;> rw [h] <;> simp [turnQ,rotXn,rotX]
theorem turnS_four (p : Pt) (n : Nat) (h : n / 4 = 4) : turnS p n = rotZn (rotXn (rotZn p (n % 4)) 1) 1 := by
 unfold turnS
 rw [h]
 simp [turnQ,rotXn,rotX,rotZn,rotZ]
theorem turnS_five (p : Pt) (n : Nat) (h : n / 4 = 5) : turnS p n = rotZn (rotXn (rotZn p (n % 4)) 1) 3 := by
 unfold turnS
 rw [h]
 simp [turnQ,rotXn,rotX,rotZn,rotZ]

set_option maxHeartbeats 1600000 in
theorem turned_c (x y z : Int) (n : Nat) (w : World) (hn : n < 24) (hp : Pt.ok ⟨x,y,z⟩) :
  Calls Tryz.prog 116 #[.agg #[.int .i64 x,.int .i64 y,.int .i64 z],.int .i64 n] w fun e w' =>
   e = .returned (.agg #[.int .i64 (turnS ⟨x,y,z⟩ n).x,.int .i64 (turnS ⟨x,y,z⟩ n).y,.int .i64 (turnS ⟨x,y,z⟩ n).z]) ∧ Ext w w' := by
 have e1 : ((n : Int) % 4).toNat = n % 4 := by omega
 have e2 : ((n : Int) / 4).toNat = n / 4 := by omega
 have H1 := Lib.hid e1
 have H2 := Lib.hid e2
 clear e1 e2
 obtain ⟨W,hW,E,ba,bb,hz⟩ := boxes2 w #[.int .i64 x,.int .i64 y,.int .i64 z] #[.int .i64 0,.int .i64 0,.int .i64 0] 27 27
 have B0 : Blk W w.heap.size 27 #[.int .i64 x,.int .i64 y,.int .i64 z] := by rw [← hW]; exact (Blk.new _ _ _).alloc _
 have B1 : Blk W (w.heap.size + 1) 27 #[.int .i64 0,.int .i64 0,.int .i64 0] := by
  rw [← hW]
  have := Blk.new (w.alloc (.cells #[.int .i64 x,.int .i64 y,.int .i64 z] 27)) #[.int .i64 0,.int .i64 0,.int .i64 0] 27
  rwa [World.size_alloc] at this
 go_enter Tryz.func116,Tryz.ntmps116
 go_wp2_with fail
 refine (aboutZ_c x y z _ _ (by omega) (by omega) hp).mono ?_
 rintro e w1 ⟨rfl,E1⟩
 have hp1 := rotZn_ok hp (n % 4)
 rw [H1.out]
 obtain ⟨p,hpk⟩ : ∃ p,rotZn ⟨x,y,z⟩ (n % 4) = p := ⟨_,rfl⟩
 rw [hpk] at hp1 ⊢
 have Hp := Lib.hid hpk
 clear hpk
 have B01 := B0.ext E1
 have B11 := B1.ext E1
 have c0 := B01.cell
 have f0 := B01.frozen
 obtain ⟨w2,hw2,B02,far2,ext2,_⟩ := B01.store3 (.int .i64 p.x) (.int .i64 p.y) (.int .i64 p.z)
 have B12 := far2 _ _ _ (by omega) B11
 have E2 := ext2 w (E.trans E1) (Nat.le_refl _)
 clear far2 ext2
 have c2 := B02.cell
 by_cases h4 : n / 4 < 4
 ·go_wp2_with fail
  refine (aboutX_c p.x p.y p.z _ _ (by omega) (by omega) hp1).mono ?_
  rintro e w3 ⟨rfl,E3⟩
  rw [H2.out]
  have Hf := Lib.hid (turnS_low ⟨x,y,z⟩ n h4)
  obtain ⟨q,hq⟩ : ∃ q,rotXn ⟨p.x,p.y,p.z⟩ (n / 4) = q := ⟨_,rfl⟩
  have Hq := Lib.hid hq
  rw [hq]
  clear hq
  have B13 := B12.ext E3
  have c3 := B13.cell
  have f3 := B13.frozen
  go_wp2_with fail
  refine bodyPost_ret (v := .agg #[.int .i64 q.x,.int .i64 q.y,.int .i64 q.z]) (by simp [results,Tryz.results116,go_sem,c3]) rfl ⟨by rw [Hf.out,Hp.out,show rotXn p (n / 4) = q from Hq.out],?_⟩
  exact (((E2.trans E3).setCell (Nat.le_succ _) _).setCell (Nat.le_succ _) _).setCell (Nat.le_succ _) _
 ·go_wp2_with fail
  refine (aboutX_1 p.x p.y p.z _ hp1).mono ?_
  rintro e w3 ⟨rfl,E3⟩
  have hp2 : Pt.ok ⟨p.x, -p.z,p.y⟩ := ⟨hp1.1,hp1.2.2.neg,hp1.2.1⟩
  have B03 := B02.ext E3
  have B13 := B12.ext E3
  have c3 := B03.cell
  have f3 := B03.frozen
  obtain ⟨w4,hw4,B04,far4,ext4,_⟩ := B03.store3 (.int .i64 p.x) (.int .i64 (-p.z)) (.int .i64 p.y)
  have B14 := far4 _ _ _ (by omega) B13
  have E4 := ext4 w (E2.trans E3) (Nat.le_refl _)
  clear far4 ext4
  have c4 := B04.cell
  by_cases h5 : n / 4 = 4
  ·have Hf := Lib.hid (turnS_four ⟨x,y,z⟩ n h5)
   have hi : (n : Int) / 4 = 4 := by omega
   clear h5 h4
   go_wp2_with fail
   refine (aboutZ_1 p.x (-p.z) p.y _ hp2).mono ?_
   rintro e w5 ⟨rfl,E5⟩
   have B15 := B14.ext E5
   have c5 := B15.cell
   have f5 := B15.frozen
   go_wp2_with fail
   refine bodyPost_ret (v := .agg #[.int .i64 (- -p.z),.int .i64 p.x,.int .i64 p.y]) (by simp [results,Tryz.results116,go_sem,c5]) rfl ⟨by rw [Hf.out,Hp.out]; rfl,?_⟩
   exact (((E4.trans E5).setCell (Nat.le_succ _) _).setCell (Nat.le_succ _) _).setCell (Nat.le_succ _) _
  ·have Hf := Lib.hid (turnS_five ⟨x,y,z⟩ n (by omega))
   have hi : (n : Int) / 4 = 5 := by omega
   clear h5 h4
   go_wp2_with fail
   refine (aboutZ_3 p.x (-p.z) p.y _ hp2).mono ?_
   rintro e w5 ⟨rfl,E5⟩
   have B15 := B14.ext E5
   have c5 := B15.cell
   have f5 := B15.frozen
   go_wp2_with fail
   refine bodyPost_ret (v := .agg #[.int .i64 (-p.z),.int .i64 (-p.x),.int .i64 p.y]) (by simp [results,Tryz.results116,go_sem,c5]) rfl ⟨?_,?_⟩
   ·rw [Hf.out,Hp.out]
    show _ = Ending.returned (.agg #[.int .i64 (- -(-p.z)),.int .i64 (-p.x),.int .i64 p.y])
    rw [Int.neg_neg]
   exact (((E4.trans E5).setCell (Nat.le_succ _) _).setCell (Nat.le_succ _) _).setCell (Nat.le_succ _) _
end Go.Proofs.YtjacbhomhjoolaaGreat
