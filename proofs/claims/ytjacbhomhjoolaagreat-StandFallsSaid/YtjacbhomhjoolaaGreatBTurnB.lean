
/- near, Near, isTurn, IsTurn. step, Step, direction: the six directions. Turn, Direction, and the reference's. The reference's Pointed, Direction, Composed, Compose, Inverse, Invert. The reference's Compose, Inverse, Invert. which: the iterator over the 24 turns and what each makes of (1, 2, 3). compose, Compose, Invert of the program. Compose, Invert of the program. -/
import Derived.Test.YtjacbhomhjoolaaGreatBTurn
import Derived.Test.YtjacbhomhjoolaaGreatBLib
import Derived.RangeFuncNested
import Derived.RangeFuncBound
import Derived.RangeFuncCalls
import Derived.RangeFuncLeaves
import Derived.Shelf.Abstract
import Derived.Shelf.RegionOpen
import Derived.OwnWalkIn
import Derived.TacticsInMore
import Derived.LoopNIn
import Derived.LoopIn
namespace Go.Proofs.YtjacbhomhjoolaaGreat
open Go.RowKit

def inB (lo hi n : Int) : Bool := decide (lo ≤ n) && decide (n ≤ hi)
theorem inB_iff {lo hi n : Int} : inB lo hi n = true ↔ lo ≤ n ∧ n ≤ hi := by simp [inB]
theorem inB_not {lo hi n : Int} : inB lo hi n = false ↔ ¬ (lo ≤ n ∧ n ≤ hi) := by
 rw [← inB_iff]; simp
def nearB (p : Pt) (lo hi : Int) : Bool := inB lo hi p.x && (inB lo hi p.y && inB lo hi p.z)
theorem nearB_iff {p : Pt} {lo hi : Int} : nearB p lo hi = true ↔ (lo ≤ p.x ∧ p.x ≤ hi) ∧ (lo ≤ p.y ∧ p.y ≤ hi) ∧ (lo ≤ p.z ∧ p.z ≤ hi) := by
 simp [nearB,inB]
set_option maxHeartbeats 400000 in
theorem within_c (n lo hi : Int) (w : World) :
  Calls Tryz.prog 169 #[.int .i64 n,.int .i64 lo,.int .i64 hi] w fun e w' => e = .returned (.bool (inB lo hi n)) ∧ w = w' := by
 by_cases h : lo ≤ n
 ·go_enter Tryz.func169,Tryz.ntmps169
  go_wp2
  go_ret
  exact ⟨by simp [h,inB],rfl⟩
 ·go_enter Tryz.func169,Tryz.ntmps169
  go_wp2
  go_ret
  exact ⟨by simp [inB]; omega,rfl⟩

set_option maxHeartbeats 400000 in
theorem rnear_c (x y z lo hi : Int) (w : World) :
  Calls Tryz.prog 170 #[.agg #[.int .i64 x,.int .i64 y,.int .i64 z],.int .i64 lo,.int .i64 hi] w fun e w' => e = .returned (.bool (nearB ⟨x,y,z⟩ lo hi)) ∧ Ext w w' := by
 unfold nearB
 cases h1 : inB lo hi x
 ·go_enter Tryz.func170,Tryz.ntmps170
  go_wp2_with (go_at_call 169; refine (within_c _ _ _ _).mono ?_; rintro e w' ⟨rfl,rfl⟩)
  go_ret
  exact ⟨rfl,by apply_rules [Ext.refl,Ext.alloc]⟩
 ·cases h2 : inB lo hi y
  ·go_enter Tryz.func170,Tryz.ntmps170
   go_wp2_with (go_at_call 169; refine (within_c _ _ _ _).mono ?_; rintro e w' ⟨rfl,rfl⟩)
   go_ret
   exact ⟨rfl,by apply_rules [Ext.refl,Ext.alloc]⟩
  ·go_enter Tryz.func170,Tryz.ntmps170
   go_wp2_with (go_at_call 169; refine (within_c _ _ _ _).mono ?_; rintro e w' ⟨rfl,rfl⟩)
   go_ret
   exact ⟨rfl,by apply_rules [Ext.refl,Ext.alloc]⟩

theorem ret_bool {a b : Bool} (h : a = true ↔ b = true) : Ending.returned (.bool a) = .returned (.bool b) := by rw [Bool.eq_iff_iff.2 h]

set_option maxHeartbeats 800000 in
theorem near_c (x y z lo hi : Int) (w : World) :
  Calls Tryz.prog 43 #[.agg #[.int .i64 x,.int .i64 y,.int .i64 z],.int .i64 lo,.int .i64 hi] w fun e w' => e = .returned (.bool (nearB ⟨x,y,z⟩ lo hi)) ∧ Ext w w' := by
 by_cases h1 : lo ≤ min (min x y) z
 ·go_enter Tryz.func43,Tryz.ntmps43
  go_wp2
  all_goals
   go_ret
   refine ⟨ret_bool ?_,by apply_rules [Ext.refl,Ext.alloc]⟩
   rw [nearB_iff]
   simp
   omega
 ·go_enter Tryz.func43,Tryz.ntmps43
  go_wp2
  all_goals
   go_ret
   refine ⟨ret_bool ?_,by apply_rules [Ext.refl,Ext.alloc]⟩
   rw [nearB_iff]
   simp
   try omega

def allTurn (xs : List Int) : Bool := xs.all fun n => inB 0 23 n

def stepS (d : Nat) : Pt :=
 match d with
 | 0 => ⟨1,0,0⟩
 | 1 => ⟨-1,0,0⟩
 | 2 => ⟨0,1,0⟩
 | 3 => ⟨0, -1,0⟩
 | 4 => ⟨0,0,1⟩
 | _ => ⟨0,0, -1⟩
theorem stepS_ok (d : Nat) : (stepS d).ok := by
 unfold stepS
 split <;> (unfold Pt.ok CB; simp)

def Pt.eqB (a b : Pt) : Bool := a.x == b.x && (a.y == b.y && a.z == b.z)
theorem Pt.eqB_iff {a b : Pt} : a.eqB b = true ↔ a = b := by
 cases a
 cases b
 simp [Pt.eqB]
theorem pt_eql (a b c d e f : Int) (w : World) : (binOp .eql 27 (.agg #[.int .i64 a,.int .i64 b,.int .i64 c]) (.agg #[.int .i64 d,.int .i64 e,.int .i64 f])).run Tryz.prog w = .ok (.bool (Pt.eqB ⟨a,b,c⟩ ⟨d,e,f⟩)) w := by
 unfold Pt.eqB
 by_cases h1 : a = d <;> by_cases h2 : b = e <;> by_cases h3 : c = f <;> simp [go_sem,h1,h2,h3]
theorem pt_neq (a b c d e f : Int) (w : World) : (binOp .neq 27 (.agg #[.int .i64 a,.int .i64 b,.int .i64 c]) (.agg #[.int .i64 d,.int .i64 e,.int .i64 f])).run Tryz.prog w = .ok (.bool (!Pt.eqB ⟨a,b,c⟩ ⟨d,e,f⟩)) w := by
 unfold Pt.eqB
 by_cases h1 : a = d <;> by_cases h2 : b = e <;> by_cases h3 : c = f <;> simp [go_sem,h1,h2,h3]
theorem stepS_inj {a b : Nat} (ha : a < 6) (hb : b < 6) (h : stepS a = stepS b) : a = b := by
 have e1 : a = 0 ∨ a = 1 ∨ a = 2 ∨ a = 3 ∨ a = 4 ∨ a = 5 := by omega
 have e2 : b = 0 ∨ b = 1 ∨ b = 2 ∨ b = 3 ∨ b = 4 ∨ b = 5 := by omega
 rcases e1 with rfl | rfl | rfl | rfl | rfl | rfl <;> rcases e2 with rfl | rfl | rfl | rfl | rfl | rfl <;> first | rfl | (exfalso; simp [stepS] at h)

set_option maxHeartbeats 1600000 in
theorem step_c (d : Nat) (hd : d < 6) (w : World) :
  Calls Tryz.prog 52 #[.int .i64 d] w fun e w' => e = .returned (.agg #[.int .i64 (stepS d).x,.int .i64 (stepS d).y,.int .i64 (stepS d).z]) ∧ Ext w w' := by
 have hi : ∀ (a b c : Int) (w : World),(Instr.index 163 (.agg #[.int .i64 a,.int .i64 0,.int .i64 0,.int .i64 0,.int .i64 b,.int .i64 0,.int .i64 0,.int .i64 0,.int .i64 c]) (.int .i64 0)).run Tryz.prog w = .ok (.agg #[.int .i64 a,.int .i64 0,.int .i64 0]) w := fun _ _ _ _ => by kernel_rfl
 have hj : ∀ (a b c : Int) (w : World),(Instr.index 163 (.agg #[.int .i64 a,.int .i64 0,.int .i64 0,.int .i64 0,.int .i64 b,.int .i64 0,.int .i64 0,.int .i64 0,.int .i64 c]) (.int .i64 1)).run Tryz.prog w = .ok (.agg #[.int .i64 0,.int .i64 b,.int .i64 0]) w := fun _ _ _ _ => by kernel_rfl
 have hk : ∀ (a b c : Int) (w : World),(Instr.index 163 (.agg #[.int .i64 a,.int .i64 0,.int .i64 0,.int .i64 0,.int .i64 b,.int .i64 0,.int .i64 0,.int .i64 0,.int .i64 c]) (.int .i64 2)).run Tryz.prog w = .ok (.agg #[.int .i64 0,.int .i64 0,.int .i64 c]) w := fun _ _ _ _ => by kernel_rfl
 have e1 : d = 0 ∨ d = 1 ∨ d = 2 ∨ d = 3 ∨ d = 4 ∨ d = 5 := by omega
 rcases e1 with rfl | rfl | rfl | rfl | rfl | rfl
 all_goals
  go_enter Tryz.func52,Tryz.ntmps52
  go_wp2
  refine bodyPost_ret (v := .agg #[.int .i64 (stepS _).x,.int .i64 (stepS _).y,.int .i64 (stepS _).z]) ?_ rfl ⟨rfl,by apply_rules [Ext.refl,Ext.alloc]⟩
  simp [results,Tryz.results52,go_sem,stepS]

set_option maxHeartbeats 1600000 in
theorem rstep_c (d : Nat) (hd : d < 6) (w : World) :
  Calls Tryz.prog 181 #[.int .i64 d] w fun e w' => e = .returned (.agg #[.int .i64 (stepS d).x,.int .i64 (stepS d).y,.int .i64 (stepS d).z]) ∧ Ext w w' := by
 have e1 : d = 0 ∨ d = 1 ∨ d = 2 ∨ d = 3 ∨ d = 4 ∨ d = 5 := by omega
 rcases e1 with rfl | rfl | rfl | rfl | rfl | rfl
 all_goals
  go_enter Tryz.func181,Tryz.ntmps181
  go_wp2
  refine bodyPost_ret (v := .agg #[.int .i64 (stepS _).x,.int .i64 (stepS _).y,.int .i64 (stepS _).z]) ?_ rfl ⟨rfl,by apply_rules [Ext.refl,Ext.alloc]⟩
  simp [results,Tryz.results181,go_sem,stepS]

set_option maxHeartbeats 1600000 in
theorem direction_c (d : Nat) (hd : d < 6) (w : World) :
  Calls Tryz.prog 51 #[.agg #[.int .i64 (stepS d).x,.int .i64 (stepS d).y,.int .i64 (stepS d).z]] w fun e w' => e = .returned (.int .i64 d) ∧ Ext w w' := by
 obtain ⟨W,hW,E,ba,hz⟩ := boxes1 w #[.int .i64 (stepS d).x,.int .i64 (stepS d).y,.int .i64 (stepS d).z] 27
 have B : Blk W w.heap.size 27 #[.int .i64 (stepS d).x,.int .i64 (stepS d).y,.int .i64 (stepS d).z] := by rw [← hW]; exact Blk.new _ _ _
 go_enter Tryz.func51,Tryz.ntmps51
 go_wp2
 go_loopw [4] (fun i wr => ∃ k : Nat,k ≤ d ∧ i = .int .i64 k ∧ Ext W wr) (fun i _ => 6 - (intOf i).toNat)
 case atStart => exact ⟨0,by omega,rfl,Ext.refl _⟩
 case round =>
  obtain ⟨k,hk,rfl,E1⟩ := hrel
  have c := (B.ext E1).cell
  have hq : ∀ w,(binOp .eql 27 (.agg #[.int .i64 (stepS k).x,.int .i64 (stepS k).y,.int .i64 (stepS k).z]) (.agg #[.int .i64 (stepS d).x,.int .i64 (stepS d).y,.int .i64 (stepS d).z])).run Tryz.prog w = .ok (.bool (decide (k = d))) w := fun w => by
   rw [pt_eql]
   have : Pt.eqB (stepS k) (stepS d) = decide (k = d) := by
    by_cases h : k = d
    ·subst h
     simp [Pt.eqB]
    ·simp only [h,decide_false]
     rw [Bool.eq_false_iff]
     intro h'
     exact h (stepS_inj (by omega) hd (Pt.eqB_iff.1 h'))
   exact congrArg (fun b => Result.ok (Value.bool b) w) this
  by_cases hkd : k = d
  ·have hkd' : decide (k = d) = true := by simp [hkd]
   simp only [hkd'] at hq
   clear hkd'
   have Hkd := Lib.hid hkd
   clear hkd
   go_wp2
   refine wp_region_grow (by kernel_rfl) (by kernel_rfl) ?_
   repeat (go_big_quiet_step ((go_at_call 52; exact quiet_ext (step_c k (by omega) _))))
   refine wpQuiet_nil ?_
   intro W2 hW2
   have E2 : Ext wr W2 := by
    obtain ⟨x,rfl⟩ := hW2
    exact (Ext.refl _).grow x
   clear hW2
   go_wp2
   go_ret
   exact ⟨by rw [Hkd.out]; rfl,(E.trans E1).trans E2⟩
  ·have hkd' : decide (k = d) = false := by simp [hkd]
   simp only [hkd'] at hq
   clear hkd'
   go_wp2
   refine wp_region_grow (by kernel_rfl) (by kernel_rfl) ?_
   repeat (go_big_quiet_step ((go_at_call 52; exact quiet_ext (step_c k (by omega) _))))
   refine wpQuiet_nil ?_
   intro W2 hW2
   have E2 : Ext wr W2 := by
    obtain ⟨x,rfl⟩ := hW2
    exact (Ext.refl _).grow x
   clear hW2
   go_wp2
   go_roundw
   case rel => exact ⟨k + 1,by omega,by go_num,E1.trans E2⟩
   case measure => simp [intOf]; omega

def turnOk (p : Pt) (n : Int) : Prop := nearB p (-2000) 2000 = true ∧ 0 ≤ n ∧ n < 24
def dirT (d n : Nat) : Nat := ((List.range 6).find? fun i => (stepS i).eqB (turnS (stepS d) n)).getD 0
theorem dirT_all : ∀ d,d < 6 → ∀ n,n < 24 → (dirT d n < 6 ∧ Pt.eqB (stepS (dirT d n)) (turnS (stepS d) n) = true) := by decide +kernel
theorem dirT_lt {d n : Nat} (hd : d < 6) (hn : n < 24) : dirT d n < 6 := (dirT_all d hd n hn).1
theorem dirT_eq {d n : Nat} (hd : d < 6) (hn : n < 24) : turnS (stepS d) n = stepS (dirT d n) := (Pt.eqB_iff.1 (dirT_all d hd n hn).2).symm


set_option maxHeartbeats 1600000 in
theorem pointed_c (d n : Nat) (hd : d < 6) (hn : n < 24) (w : World) :
  Calls Tryz.prog 180 #[.int .i64 d,.int .i64 n] w fun e w' => e = .returned (.int .i64 (dirT d n)) ∧ Ext w w' := by
 have hlt := dirT_lt hd hn
 have He := Lib.hid (dirT_eq hd hn)
 go_enter Tryz.func180,Tryz.ntmps180
 go_wp2_with fail
 refine (rstep_c d hd _).mono ?_
 rintro e w1 ⟨rfl,E1⟩
 go_wp2_with fail
 refine (turned_c (stepS d).x (stepS d).y (stepS d).z n _ hn (stepS_ok d)).mono ?_
 rintro e w2 ⟨rfl,E2⟩
 rw [show turnS ⟨(stepS d).x,(stepS d).y,(stepS d).z⟩ n = stepS (dirT d n) from He.out]
 obtain ⟨g,hg⟩ : ∃ g,dirT d n = g := ⟨_,rfl⟩
 have Hg := Lib.hid hg
 rw [hg] at hlt ⊢
 clear hg
 obtain ⟨W,hW,E,ba,hz⟩ := boxes1 w2 #[.int .i64 (stepS g).x,.int .i64 (stepS g).y,.int .i64 (stepS g).z] 27
 have B : Blk W w2.heap.size 27 #[.int .i64 (stepS g).x,.int .i64 (stepS g).y,.int .i64 (stepS g).z] := by rw [← hW]; exact Blk.new _ _ _
 go_wp2_with fail
 go_loopw [6] (fun i wr => ∃ k : Nat,k ≤ g ∧ i = .int .i64 k ∧ Ext W wr) (fun i _ => 6 - (intOf i).toNat)
 case atStart => exact ⟨0,by omega,rfl,Ext.refl _⟩
 case round =>
  obtain ⟨k,hk,rfl,E3⟩ := hrel
  have c := (B.ext E3).cell
  have hq : ∀ w,(binOp .eql 27 (.agg #[.int .i64 (stepS k).x,.int .i64 (stepS k).y,.int .i64 (stepS k).z]) (.agg #[.int .i64 (stepS g).x,.int .i64 (stepS g).y,.int .i64 (stepS g).z])).run Tryz.prog w = .ok (.bool (decide (k = g))) w := fun w => by
   rw [pt_eql]
   have : Pt.eqB (stepS k) (stepS g) = decide (k = g) := by
    by_cases h : k = g
    ·subst h
     simp [Pt.eqB]
    ·simp only [h,decide_false]
     rw [Bool.eq_false_iff]
     intro h'
     exact h (stepS_inj (by omega) hlt (Pt.eqB_iff.1 h'))
   exact congrArg (fun b => Result.ok (Value.bool b) w) this
  by_cases hkd : k = g
  ·have hkd' : decide (k = g) = true := by simp [hkd]
   simp only [hkd'] at hq
   clear hkd'
   have Hkd := Lib.hid hkd
   clear hkd
   go_wp2
   refine wp_region_grow (by kernel_rfl) (by kernel_rfl) ?_
   repeat (go_big_quiet_step ((go_at_call 181; exact quiet_ext (rstep_c k (by omega) _))))
   refine wpQuiet_nil ?_
   intro W2 hW2
   have E4 : Ext wr W2 := by
    obtain ⟨x,rfl⟩ := hW2
    exact (Ext.refl _).grow x
   clear hW2
   go_wp2
   go_ret
   exact ⟨by rw [Hg.out,Hkd.out]; rfl,((((E1.trans E2).trans E).trans E3).trans E4)⟩
  ·have hkd' : decide (k = g) = false := by simp [hkd]
   simp only [hkd'] at hq
   clear hkd'
   go_wp2
   refine wp_region_grow (by kernel_rfl) (by kernel_rfl) ?_
   repeat (go_big_quiet_step ((go_at_call 181; exact quiet_ext (rstep_c k (by omega) _))))
   refine wpQuiet_nil ?_
   intro W2 hW2
   have E4 : Ext wr W2 := by
    obtain ⟨x,rfl⟩ := hW2
    exact (Ext.refl _).grow x
   clear hW2
   go_wp2
   go_roundw
   case rel => exact ⟨k + 1,by omega,by go_num,E3.trans E4⟩
   case measure => simp [intOf]; omega

def compB (a b n : Nat) : Bool := Pt.eqB (turnS ⟨1,0,0⟩ n) (turnS (turnS ⟨1,0,0⟩ a) b) && Pt.eqB (turnS ⟨0,1,0⟩ n) (turnS (turnS ⟨0,1,0⟩ a) b)
def compT (a b : Nat) : Nat := ((List.range 24).find? (compB a b)).getD 0

def invT (a : Nat) : Nat := ((List.range 24).find? fun n => compT a n == 0).getD 0

open Go.Shelf
attribute [local go_sem] Oper.semAt_some

def p123 : Pt := ⟨1,2,3⟩
def at123 (n : Nat) : Value := .agg #[.int .i64 (turnS p123 n).x,.int .i64 (turnS p123 n).y,.int .i64 (turnS p123 n).z]
abbrev encW (x : Fin 24) : Array Value := #[.int .i64 (x.val : Int),at123 x.val]
def upto (k : Nat) : List (Fin 24) := (List.finRange 24).take k
attribute [local go_sem] Oper.semAt_some

deriving instance DecidableEq for Pt
attribute [local go_sem] Oper.semAt_some

end Go.Proofs.YtjacbhomhjoolaaGreat
