/- Texts of the proof: Turn, Turned, Slice, Near, Step, Ext. -/
import Derived.Test.YtojolpbpjimfgaaGreatDoorZy1
import Derived.Laws.EntriesVeiled
set_option maxHeartbeats 3200000
namespace Go.Proofs.YtojolpbpjimfgaaGreatDoor
open Go.RowKit
theorem turners_c(w:World) :
  Calls Tryz.prog 148 #[] w fun e w'=> ∃g,e = .returned (.agg #[.func (.func 170) #[] #[],.func (.func 169) #[] #[],
   .func (.func 171) #[] #[.pointer (some ⟨g,0,none⟩)],.func (.func 172) #[] #[.pointer (some ⟨g,0,none⟩)],
   .func (.func 173) #[] #[],.func (.func 174) #[] #[]])∧w'.cell? ⟨g,0,none⟩=some (.func (.func 169) #[] #[])∧Ext w w':=by
 have hmf: ∀(fn:Fn) (first cap:Array Value) (w:World),(Instr.makeFunc fn first cap).run Tryz.prog w = .ok (.func fn first cap) w:=fun _ _ _ _=>rfl;go_enter Tryz.func148,Tryz.ntmps148
 go_wp2
 refine bodyPost_ret (v:= .agg #[.func (.func 170) #[] #[],.func (.func 169) #[] #[],
   .func (.func 171) #[] #[.pointer (some ⟨w.heap.size+1,0,none⟩)],.func (.func 172) #[] #[.pointer (some ⟨w.heap.size+1,0,none⟩)],
   .func (.func 173) #[] #[],.func (.func 174) #[] #[]]) (by simp[results,Tryz.results148,go_sem]) rfl ⟨w.heap.size+1,rfl,?_,by apply_rules [Ext.refl,Ext.alloc]⟩
 simp[go_sem]
structure Pt where
 x:Int
 y:Int
 z:Int
def Pt.ok(p:Pt):Prop:=CB p.x∧CB p.y∧CB p.z
def rotZ(p:Pt):Pt:=⟨-p.y,p.x,p.z⟩
def rotZn(p:Pt):Nat→Pt
 | 0=>p
 | k+1=>rotZ (rotZn p k)
def turnQ(p:Pt)(q:Nat):Pt :=
 match q with
 | 0=>p
 | 1=>⟨p.x,-p.z,p.y⟩
 | 2=>⟨p.x,-p.y,-p.z⟩
 | 3=>⟨p.x,p.z,-p.y⟩
 | 4=>⟨p.z,p.x,p.y⟩
 | _=>⟨-p.z,-p.x,p.y⟩
def turnS(p:Pt)(n:Nat):Pt:=turnQ (rotZn p (n % 4)) (n / 4)
theorem rotZn_ok{p:Pt}(h:p.ok)(k:Nat):(rotZn p k).ok:=by
 induction k with
 | zero=>exact h
 | succ k ih=>exact⟨ih.2.1.neg,ih.1,ih.2.2⟩
theorem turnQ_ok{p:Pt}(h:p.ok)(q:Nat):(turnQ p q).ok:=by
 obtain⟨h1,h2,h3⟩:=h;unfold turnQ
 split
 ·exact⟨h1,h2,h3⟩
 ·exact⟨h1,h3.neg,h2⟩
 ·exact⟨h1,h2.neg,h3.neg⟩
 ·exact⟨h1,h3,h2.neg⟩
 ·exact⟨h3,h1,h2⟩
 ·exact⟨h3.neg,h1.neg,h2⟩
theorem turnS_ok{p:Pt}(h:p.ok)(n:Nat):(turnS p n).ok:=turnQ_ok (rotZn_ok h _) _
theorem turn_c(x y z:Int)(n:Nat)(w:World)(hn:n<24)(hp:Pt.ok ⟨x,y,z⟩) :
  Calls Tryz.prog 118 #[.agg #[.int .i64 x,.int .i64 y,.int .i64 z],.int .i64 n] w fun e w' =>
   e = .returned (.agg #[.int .i64 (turnS ⟨x,y,z⟩ n).x,.int .i64 (turnS ⟨x,y,z⟩ n).y,.int .i64 (turnS ⟨x,y,z⟩ n).z])∧Ext w w':=by
 go_enter Tryz.func118,Tryz.ntmps118
 go_wp2
 go_loopw [7] (fun i wr=> ∃k:Nat,k≤n % 4∧i = .int .i64 k∧Ext w wr∧Blk wr w.heap.size 124 #[.int .i64 (rotZn ⟨x,y,z⟩ k).x,.int .i64 (rotZn ⟨x,y,z⟩ k).y,.int .i64 (rotZn ⟨x,y,z⟩ k).z] ∧
   Blk wr (w.heap.size+1) 124 #[.int .i64 0,.int .i64 0,.int .i64 0]) (fun i _=>n % 4-(intOf i).toNat)
 case atStart =>
  refine⟨0,by omega,rfl,by apply_rules [Ext.refl,Ext.alloc],(Blk.new _ _ _).alloc _,?_⟩;have:=Blk.new (w.alloc (.cells #[.int .i64 x,.int .i64 y,.int .i64 z] 124)) #[.int .i64 0,.int .i64 0,.int .i64 0] 124;rwa [World.size_alloc] at this
 case round =>
  obtain⟨k,hk,rfl,E,B0,B1⟩:=hrel;obtain⟨p,hpk⟩:=nm (rotZn ⟨x,y,z⟩ k);have hok:p.ok:=hpk▸rotZn_ok hp k;rw[hpk] at B0;have Hp:=h_ hpk;clear hpk;have hz0:=hok.2.1;obtain⟨b1,b2⟩:=hz0;have c0:=B0.cell;have f0:=B0.frozen;have c1:=B1.cell;by_cases hlt:k<n % 4
  ·go_wp2
   go_roundw
   case rel =>
    refine⟨k+1,by omega,by go_num,((E.setCell (Nat.le_refl _) _).setCell (Nat.le_refl _) _).setCell (Nat.le_refl _) _,?_,((B1.far (by simp) _).far (by simp) _).far (by simp) _⟩;have hr:rotZn ⟨x,y,z⟩ (k+1)=⟨-p.y,p.x,p.z⟩:=by
     show rotZ (rotZn ⟨x,y,z⟩ k)=_
     rw[Hp.out];rfl
    rw[hr];have:=((B0.set_ 0 (.int .i64 (-p.y))).set_ 1 (.int .i64 p.x)).set_ 2 (.int .i64 p.z)
    simpa using this
   case measure=>simp[intOf];omega
  ·obtain rfl:n % 4=k:=by omega
   have hq6:n / 4=0∨n / 4=1∨n / 4=2∨n / 4=3∨n / 4=4∨n / 4=5:=by omega
   have Hq6:=h_ hq6;clear hq6
   go_wp2
   rcases Hq6.out with hq|hq|hq|hq|hq|hq
   ·have Hfin:=h_ (show turnS ⟨x,y,z⟩ n=⟨p.x,p.y,p.z⟩ from by unfold turnS;rw[Hp.out,hq];rfl);have hqi:(n:Int) / 4=0:=by omega
    have hwq:IntKind.i64.wrap 0=0:=by decide
    have hfld: ∀(w:World),(Instr.field 248 (.agg #[.func (.func 170) #[] #[]]) 0).run Tryz.prog w = .ok (.func (.func 170) #[] #[]) w:=fun _=>by kernel_rfl
    have hidx: ∀(g:Nat) (w:World),(Instr.index 249 (.agg #[.func (.func 170) #[] #[],.func (.func 169) #[] #[],.func (.func 171) #[] #[.pointer (some ⟨g,0,none⟩)],.func (.func 172) #[] #[.pointer (some ⟨g,0,none⟩)],.func (.func 173) #[] #[],.func (.func 174) #[] #[]]) (.int .i64 0)).run Tryz.prog w = .ok (.agg #[.func (.func 170) #[] #[]]) w:=fun _ _=>by kernel_rfl
    clear hq Hq6
    go_region_law (first
     | (go_simp;go_at_call 148;refine(turners_c _).mono ?_;rintro e w1 ⟨g,rfl,HG,E1⟩;have B01:=B0.drew.ext E1;have B11:=B1.drew.ext E1;have c01:=B01.cell)
     | (go_simp;go_at_call 170;refine(tn2_c p.x p.y p.z _).mono ?_;rintro e w2 ⟨rfl,E2⟩;have B12:=B11.ext E2;have c12:=B12.cell;have f12:=B12.frozen))
    all_goals
     go_wp2
     refine bodyPost_ret (v:= .agg #[.int .i64 p.x,.int .i64 p.y,.int .i64 p.z]) (by simp[results,Tryz.results118,go_sem,c12]) rfl ⟨by rw[Hfin.out],?_⟩;exact((((E.drew.trans E1).trans E2).setCell (Nat.le_succ _) _).setCell (Nat.le_succ _) _).setCell (Nat.le_succ _) _
   ·have Hfin:=h_ (show turnS ⟨x,y,z⟩ n=⟨p.x,(-p.z),p.y⟩ from by unfold turnS;rw[Hp.out,hq];rfl);have hqi:(n:Int) / 4=1:=by omega
    have hwq:IntKind.i64.wrap 1=1:=by decide
    have hfld: ∀(w:World),(Instr.field 248 (.agg #[.func (.func 169) #[] #[]]) 0).run Tryz.prog w = .ok (.func (.func 169) #[] #[]) w:=fun _=>by kernel_rfl
    have hidx: ∀(g:Nat) (w:World),(Instr.index 249 (.agg #[.func (.func 170) #[] #[],.func (.func 169) #[] #[],.func (.func 171) #[] #[.pointer (some ⟨g,0,none⟩)],.func (.func 172) #[] #[.pointer (some ⟨g,0,none⟩)],.func (.func 173) #[] #[],.func (.func 174) #[] #[]]) (.int .i64 1)).run Tryz.prog w = .ok (.agg #[.func (.func 169) #[] #[]]) w:=fun _ _=>by kernel_rfl
    clear hq Hq6
    go_region_law (first
     | (go_simp;go_at_call 148;refine(turners_c _).mono ?_;rintro e w1 ⟨g,rfl,HG,E1⟩;have B01:=B0.drew.ext E1;have B11:=B1.drew.ext E1;have c01:=B01.cell)
     | (go_simp;go_at_call 169;refine(tn1_c p.x p.y p.z _ hok.2.2).mono ?_;rintro e w2 ⟨rfl,E2⟩;have B12:=B11.ext E2;have c12:=B12.cell;have f12:=B12.frozen))
    all_goals
     go_wp2
     refine bodyPost_ret (v:= .agg #[.int .i64 p.x,.int .i64 (-p.z),.int .i64 p.y]) (by simp[results,Tryz.results118,go_sem,c12]) rfl ⟨by rw[Hfin.out],?_⟩;exact((((E.drew.trans E1).trans E2).setCell (Nat.le_succ _) _).setCell (Nat.le_succ _) _).setCell (Nat.le_succ _) _
   ·have Hfin:=h_ (show turnS ⟨x,y,z⟩ n=⟨p.x,(-p.y),(-p.z)⟩ from by unfold turnS;rw[Hp.out,hq];rfl);have hqi:(n:Int) / 4=2:=by omega
    have hwq:IntKind.i64.wrap 2=2:=by decide
    have hfld: ∀(g:Nat) (w:World),(Instr.field 248 (.agg #[.func (.func 171) #[] #[.pointer (some ⟨g,0,none⟩)]]) 0).run Tryz.prog w = .ok (.func (.func 171) #[] #[.pointer (some ⟨g,0,none⟩)]) w:=fun _ _=>by kernel_rfl
    have hidx: ∀(g:Nat) (w:World),(Instr.index 249 (.agg #[.func (.func 170) #[] #[],.func (.func 169) #[] #[],.func (.func 171) #[] #[.pointer (some ⟨g,0,none⟩)],.func (.func 172) #[] #[.pointer (some ⟨g,0,none⟩)],.func (.func 173) #[] #[],.func (.func 174) #[] #[]]) (.int .i64 2)).run Tryz.prog w = .ok (.agg #[.func (.func 171) #[] #[.pointer (some ⟨g,0,none⟩)]]) w:=fun _ _=>by kernel_rfl
    clear hq Hq6
    go_region_law (first
     | (go_simp;go_at_call 148;refine(turners_c _).mono ?_;rintro e w1 ⟨g,rfl,HG,E1⟩;have B01:=B0.drew.ext E1;have B11:=B1.drew.ext E1;have c01:=B01.cell)
     | (go_simp;go_at_call 171;refine(tn3_c p.x p.y p.z g _ hok.2.1 hok.2.2 HG).mono ?_;rintro e w2 ⟨rfl,E2⟩;have B12:=B11.ext E2;have c12:=B12.cell;have f12:=B12.frozen))
    all_goals
     go_wp2
     refine bodyPost_ret (v:= .agg #[.int .i64 p.x,.int .i64 (-p.y),.int .i64 (-p.z)]) (by simp[results,Tryz.results118,go_sem,c12]) rfl ⟨by rw[Hfin.out],?_⟩;exact((((E.drew.trans E1).trans E2).setCell (Nat.le_succ _) _).setCell (Nat.le_succ _) _).setCell (Nat.le_succ _) _
   ·have Hfin:=h_ (show turnS ⟨x,y,z⟩ n=⟨p.x,p.z,(-p.y)⟩ from by unfold turnS;rw[Hp.out,hq];rfl);have hqi:(n:Int) / 4=3:=by omega
    have hwq:IntKind.i64.wrap 3=3:=by decide
    have hfld: ∀(g:Nat) (w:World),(Instr.field 248 (.agg #[.func (.func 172) #[] #[.pointer (some ⟨g,0,none⟩)]]) 0).run Tryz.prog w = .ok (.func (.func 172) #[] #[.pointer (some ⟨g,0,none⟩)]) w:=fun _ _=>by kernel_rfl
    have hidx: ∀(g:Nat) (w:World),(Instr.index 249 (.agg #[.func (.func 170) #[] #[],.func (.func 169) #[] #[],.func (.func 171) #[] #[.pointer (some ⟨g,0,none⟩)],.func (.func 172) #[] #[.pointer (some ⟨g,0,none⟩)],.func (.func 173) #[] #[],.func (.func 174) #[] #[]]) (.int .i64 3)).run Tryz.prog w = .ok (.agg #[.func (.func 172) #[] #[.pointer (some ⟨g,0,none⟩)]]) w:=fun _ _=>by kernel_rfl
    clear hq Hq6
    go_region_law (first
     | (go_simp;go_at_call 148;refine(turners_c _).mono ?_;rintro e w1 ⟨g,rfl,HG,E1⟩;have B01:=B0.drew.ext E1;have B11:=B1.drew.ext E1;have c01:=B01.cell)
     | (go_simp;go_at_call 172;refine(tn4_c p.x p.y p.z g _ hok.2.1 hok.2.2 HG).mono ?_;rintro e w2 ⟨rfl,E2⟩;have B12:=B11.ext E2;have c12:=B12.cell;have f12:=B12.frozen))
    all_goals
     go_wp2
     refine bodyPost_ret (v:= .agg #[.int .i64 p.x,.int .i64 p.z,.int .i64 (-p.y)]) (by simp[results,Tryz.results118,go_sem,c12]) rfl ⟨by rw[Hfin.out],?_⟩;exact((((E.drew.trans E1).trans E2).setCell (Nat.le_succ _) _).setCell (Nat.le_succ _) _).setCell (Nat.le_succ _) _
   ·have Hfin:=h_ (show turnS ⟨x,y,z⟩ n=⟨p.z,p.x,p.y⟩ from by unfold turnS;rw[Hp.out,hq];rfl);have hqi:(n:Int) / 4=4:=by omega
    have hwq:IntKind.i64.wrap 4=4:=by decide
    have hfld: ∀(w:World),(Instr.field 248 (.agg #[.func (.func 173) #[] #[]]) 0).run Tryz.prog w = .ok (.func (.func 173) #[] #[]) w:=fun _=>by kernel_rfl
    have hidx: ∀(g:Nat) (w:World),(Instr.index 249 (.agg #[.func (.func 170) #[] #[],.func (.func 169) #[] #[],.func (.func 171) #[] #[.pointer (some ⟨g,0,none⟩)],.func (.func 172) #[] #[.pointer (some ⟨g,0,none⟩)],.func (.func 173) #[] #[],.func (.func 174) #[] #[]]) (.int .i64 4)).run Tryz.prog w = .ok (.agg #[.func (.func 173) #[] #[]]) w:=fun _ _=>by kernel_rfl
    clear hq Hq6
    go_region_law (first
     | (go_simp;go_at_call 148;refine(turners_c _).mono ?_;rintro e w1 ⟨g,rfl,HG,E1⟩;have B01:=B0.drew.ext E1;have B11:=B1.drew.ext E1;have c01:=B01.cell)
     | (go_simp;go_at_call 173;refine(tn5_c p.x p.y p.z _).mono ?_;rintro e w2 ⟨rfl,E2⟩;have B12:=B11.ext E2;have c12:=B12.cell;have f12:=B12.frozen))
    all_goals
     go_wp2
     refine bodyPost_ret (v:= .agg #[.int .i64 p.z,.int .i64 p.x,.int .i64 p.y]) (by simp[results,Tryz.results118,go_sem,c12]) rfl ⟨by rw[Hfin.out],?_⟩;exact((((E.drew.trans E1).trans E2).setCell (Nat.le_succ _) _).setCell (Nat.le_succ _) _).setCell (Nat.le_succ _) _
   ·have Hfin:=h_ (show turnS ⟨x,y,z⟩ n=⟨(-p.z),(-p.x),p.y⟩ from by unfold turnS;rw[Hp.out,hq];rfl);have hqi:(n:Int) / 4=5:=by omega
    have hwq:IntKind.i64.wrap 5=5:=by decide
    have hfld: ∀(w:World),(Instr.field 248 (.agg #[.func (.func 174) #[] #[]]) 0).run Tryz.prog w = .ok (.func (.func 174) #[] #[]) w:=fun _=>by kernel_rfl
    have hidx: ∀(g:Nat) (w:World),(Instr.index 249 (.agg #[.func (.func 170) #[] #[],.func (.func 169) #[] #[],.func (.func 171) #[] #[.pointer (some ⟨g,0,none⟩)],.func (.func 172) #[] #[.pointer (some ⟨g,0,none⟩)],.func (.func 173) #[] #[],.func (.func 174) #[] #[]]) (.int .i64 5)).run Tryz.prog w = .ok (.agg #[.func (.func 174) #[] #[]]) w:=fun _ _=>by kernel_rfl
    clear hq Hq6
    go_region_law (first
     | (go_simp;go_at_call 148;refine(turners_c _).mono ?_;rintro e w1 ⟨g,rfl,HG,E1⟩;have B01:=B0.drew.ext E1;have B11:=B1.drew.ext E1;have c01:=B01.cell)
     | (go_simp;go_at_call 174;refine(tn6_c p.x p.y p.z _ hok.1 hok.2.2).mono ?_;rintro e w2 ⟨rfl,E2⟩;have B12:=B11.ext E2;have c12:=B12.cell;have f12:=B12.frozen))
    all_goals
     go_wp2
     refine bodyPost_ret (v:= .agg #[.int .i64 (-p.z),.int .i64 (-p.x),.int .i64 p.y]) (by simp[results,Tryz.results118,go_sem,c12]) rfl ⟨by rw[Hfin.out],?_⟩;exact((((E.drew.trans E1).trans E2).setCell (Nat.le_succ _) _).setCell (Nat.le_succ _) _).setCell (Nat.le_succ _) _
def rotX(p:Pt):Pt:=⟨p.x,-p.z,p.y⟩
def rotXn(p:Pt):Nat→Pt
 | 0=>p
 | k+1=>rotX (rotXn p k)
theorem rotXn_ok{p:Pt}(h:p.ok)(k:Nat):(rotXn p k).ok:=by
 induction k with
 | zero=>exact h
 | succ k ih=>exact⟨ih.1,ih.2.2.neg,ih.2.1⟩
theorem aboutZ_c(x y z n:Int)(w:World)(h0:0≤n)(h1:n≤1000)(hp:Pt.ok ⟨x,y,z⟩) :
  Calls Tryz.prog 130 #[.agg #[.int .i64 x,.int .i64 y,.int .i64 z],.int .i64 n] w fun e w' =>
   e = .returned (.agg #[.int .i64 (rotZn ⟨x,y,z⟩ n.toNat).x,.int .i64 (rotZn ⟨x,y,z⟩ n.toNat).y,.int .i64 (rotZn ⟨x,y,z⟩ n.toNat).z])∧Ext w w':=by
 obtain⟨m,rfl⟩:=Int.eq_ofNat_of_zero_le h0;rw[Int.toNat_natCast];go_enter Tryz.func130,Tryz.ntmps130
 go_wp2
 go_loopw [5] (fun i wr=> ∃k:Nat,k≤m∧i = .int .i64 k∧Ext w wr∧Blk wr w.heap.size 124 #[.int .i64 (rotZn ⟨x,y,z⟩ k).x,.int .i64 (rotZn ⟨x,y,z⟩ k).y,.int .i64 (rotZn ⟨x,y,z⟩ k).z] ∧
   Blk wr (w.heap.size+1) 124 #[.int .i64 0,.int .i64 0,.int .i64 0]) (fun i _=>m-(intOf i).toNat)
 case atStart =>
  refine⟨0,by omega,rfl,by apply_rules [Ext.refl,Ext.alloc],(Blk.new _ _ _).alloc _,?_⟩;have:=Blk.new (w.alloc (.cells #[.int .i64 x,.int .i64 y,.int .i64 z] 124)) #[.int .i64 0,.int .i64 0,.int .i64 0] 124;rwa [World.size_alloc] at this
 case round =>
  obtain⟨k,hk,rfl,E,B0,B1⟩:=hrel;obtain⟨p,hpk⟩:=nm (rotZn ⟨x,y,z⟩ k);have hok:p.ok:=hpk▸rotZn_ok hp k;rw[hpk] at B0;have Hp:=h_ hpk;clear hpk;obtain⟨_,⟨b1,b2⟩,b3,b4⟩:=hok;have c0:=B0.cell;have f0:=B0.frozen;have c1:=B1.cell;have f1:=B1.frozen;by_cases hlt:k<m
  ·go_wp2
   go_roundw
   case rel =>
    refine⟨k+1,by omega,by go_num,((E.setCell (Nat.le_refl _) _).setCell (Nat.le_refl _) _).setCell (Nat.le_refl _) _,?_,((B1.far (by simp) _).far (by simp) _).far (by simp) _⟩;have hr:rotZn ⟨x,y,z⟩ (k+1)=⟨(-p.y),p.x,p.z⟩:=by
     show rotZ (rotZn ⟨x,y,z⟩ k)=_
     rw[Hp.out];rfl
    rw[hr];have:=((B0.set_ 0 (.int .i64 (-p.y))).set_ 1 (.int .i64 p.x)).set_ 2 (.int .i64 p.z)
    simpa using this
   case measure=>simp[intOf];omega
  ·obtain rfl:m=k:=by omega
   go_wp2
   refine bodyPost_ret (v:= .agg #[.int .i64 p.x,.int .i64 p.y,.int .i64 p.z]) (by simp[results,Tryz.results130,go_sem,c1]) rfl ⟨by rw[Hp.out],?_⟩;exact((E.setCell (Nat.le_succ _) _).setCell (Nat.le_succ _) _).setCell (Nat.le_succ _) _
theorem aboutX_c(x y z n:Int)(w:World)(h0:0≤n)(h1:n≤1000)(hp:Pt.ok ⟨x,y,z⟩) :
  Calls Tryz.prog 131 #[.agg #[.int .i64 x,.int .i64 y,.int .i64 z],.int .i64 n] w fun e w' =>
   e = .returned (.agg #[.int .i64 (rotXn ⟨x,y,z⟩ n.toNat).x,.int .i64 (rotXn ⟨x,y,z⟩ n.toNat).y,.int .i64 (rotXn ⟨x,y,z⟩ n.toNat).z])∧Ext w w':=by
 obtain⟨m,rfl⟩:=Int.eq_ofNat_of_zero_le h0;rw[Int.toNat_natCast];go_enter Tryz.func131,Tryz.ntmps131
 go_wp2
 go_loopw [5] (fun i wr=> ∃k:Nat,k≤m∧i = .int .i64 k∧Ext w wr∧Blk wr w.heap.size 124 #[.int .i64 (rotXn ⟨x,y,z⟩ k).x,.int .i64 (rotXn ⟨x,y,z⟩ k).y,.int .i64 (rotXn ⟨x,y,z⟩ k).z] ∧
   Blk wr (w.heap.size+1) 124 #[.int .i64 0,.int .i64 0,.int .i64 0]) (fun i _=>m-(intOf i).toNat)
 case atStart =>
  refine⟨0,by omega,rfl,by apply_rules [Ext.refl,Ext.alloc],(Blk.new _ _ _).alloc _,?_⟩;have:=Blk.new (w.alloc (.cells #[.int .i64 x,.int .i64 y,.int .i64 z] 124)) #[.int .i64 0,.int .i64 0,.int .i64 0] 124;rwa [World.size_alloc] at this
 case round =>
  obtain⟨k,hk,rfl,E,B0,B1⟩:=hrel;obtain⟨p,hpk⟩:=nm (rotXn ⟨x,y,z⟩ k);have hok:p.ok:=hpk▸rotXn_ok hp k;rw[hpk] at B0;have Hp:=h_ hpk;clear hpk;obtain⟨_,⟨b1,b2⟩,b3,b4⟩:=hok;have c0:=B0.cell;have f0:=B0.frozen;have c1:=B1.cell;have f1:=B1.frozen;by_cases hlt:k<m
  ·go_wp2
   go_roundw
   case rel =>
    refine⟨k+1,by omega,by go_num,((E.setCell (Nat.le_refl _) _).setCell (Nat.le_refl _) _).setCell (Nat.le_refl _) _,?_,((B1.far (by simp) _).far (by simp) _).far (by simp) _⟩;have hr:rotXn ⟨x,y,z⟩ (k+1)=⟨p.x,(-p.z),p.y⟩:=by
     show rotX (rotXn ⟨x,y,z⟩ k)=_
     rw[Hp.out];rfl
    rw[hr];have:=((B0.set_ 0 (.int .i64 p.x)).set_ 1 (.int .i64 (-p.z))).set_ 2 (.int .i64 p.y)
    simpa using this
   case measure=>simp[intOf];omega
  ·obtain rfl:m=k:=by omega
   go_wp2
   refine bodyPost_ret (v:= .agg #[.int .i64 p.x,.int .i64 p.y,.int .i64 p.z]) (by simp[results,Tryz.results131,go_sem,c1]) rfl ⟨by rw[Hp.out],?_⟩;exact((E.setCell (Nat.le_succ _) _).setCell (Nat.le_succ _) _).setCell (Nat.le_succ _) _
theorem aboutX_1(x y z:Int)(w:World)(hp:Pt.ok ⟨x,y,z⟩) :
  Calls Tryz.prog 131 #[.agg #[.int .i64 x,.int .i64 y,.int .i64 z],.int .i64 1] w fun e w'=>e = .returned (.agg #[.int .i64 x,.int .i64 (-z),.int .i64 y])∧Ext w w' :=
 (aboutX_c x y z 1 w (by omega) (by omega) hp).mono fun _ _ ⟨he,hE⟩=>⟨by rw[he];rfl,hE⟩
theorem aboutZ_1(x y z:Int)(w:World)(hp:Pt.ok ⟨x,y,z⟩) :
  Calls Tryz.prog 130 #[.agg #[.int .i64 x,.int .i64 y,.int .i64 z],.int .i64 1] w fun e w'=>e = .returned (.agg #[.int .i64 (-y),.int .i64 x,.int .i64 z])∧Ext w w' :=
 (aboutZ_c x y z 1 w (by omega) (by omega) hp).mono fun _ _ ⟨he,hE⟩=>⟨by rw[he];rfl,hE⟩
theorem aboutZ_3(x y z:Int)(w:World)(hp:Pt.ok ⟨x,y,z⟩) :
  Calls Tryz.prog 130 #[.agg #[.int .i64 x,.int .i64 y,.int .i64 z],.int .i64 3] w fun e w'=>e = .returned (.agg #[.int .i64 y,.int .i64 (-x),.int .i64 z])∧Ext w w' :=
 (aboutZ_c x y z 3 w (by omega) (by omega) hp).mono fun _ _ ⟨he,hE⟩=>⟨by rw[he];show Ending.returned (.agg #[.int .i64 (- -y),.int .i64 (-x),.int .i64 z])=_;rw[Int.neg_neg],hE⟩
theorem turnS_low(p:Pt)(n:Nat)(h:n / 4<4):turnS p n=rotXn (rotZn p (n % 4)) (n / 4):=by
 unfold turnS;generalize rotZn p (n % 4)=q;have:n / 4=0∨n / 4=1∨n / 4=2∨n / 4=3:=by omega
 rcases this with h|h|h|h <;> rw[h] <;> simp[turnQ,rotXn,rotX]
theorem turnS_four(p:Pt)(n:Nat)(h:n / 4=4):turnS p n=rotZn (rotXn (rotZn p (n % 4)) 1) 1:=by
 unfold turnS;rw[h];simp[turnQ,rotXn,rotX,rotZn,rotZ]
theorem turnS_five(p:Pt)(n:Nat)(h:n / 4=5):turnS p n=rotZn (rotXn (rotZn p (n % 4)) 1) 3:=by
 unfold turnS;rw[h];simp[turnQ,rotXn,rotX,rotZn,rotZ]
theorem turned_c(x y z:Int)(n:Nat)(w:World)(hn:n<24)(hp:Pt.ok ⟨x,y,z⟩) :
  Calls Tryz.prog 97 #[.agg #[.int .i64 x,.int .i64 y,.int .i64 z],.int .i64 n] w fun e w' =>
   e = .returned (.agg #[.int .i64 (turnS ⟨x,y,z⟩ n).x,.int .i64 (turnS ⟨x,y,z⟩ n).y,.int .i64 (turnS ⟨x,y,z⟩ n).z])∧Ext w w':=by
 have e1:((n:Int) % 4).toNat=n % 4:=by omega
 have e2:((n:Int) / 4).toNat=n / 4:=by omega
 have H1:=h_ e1;have H2:=h_ e2;clear e1 e2;obtain⟨W,hW,E,ba,bb,hz⟩:=boxes2 w #[.int .i64 x,.int .i64 y,.int .i64 z] #[.int .i64 0,.int .i64 0,.int .i64 0] 124 124;have B0:Blk W w.heap.size 124 #[.int .i64 x,.int .i64 y,.int .i64 z]:=by rw[←hW];exact(Blk.new _ _ _).alloc _
 have B1:Blk W (w.heap.size+1) 124 #[.int .i64 0,.int .i64 0,.int .i64 0]:=by
  rw[←hW];have:=Blk.new (w.alloc (.cells #[.int .i64 x,.int .i64 y,.int .i64 z] 124)) #[.int .i64 0,.int .i64 0,.int .i64 0] 124;rwa [World.size_alloc] at this
 go_enter Tryz.func97,Tryz.ntmps97;go_wp2_with fail;refine(aboutZ_c x y z _ _ (by omega) (by omega) hp).mono ?_;rintro e w1 ⟨rfl,E1⟩;have hp1:=rotZn_ok hp (n % 4);rw[H1.out];obtain⟨p,hpk⟩:=nm (rotZn ⟨x,y,z⟩ (n % 4));rw[hpk] at hp1 ⊢;have Hp:=h_ hpk;clear hpk;have B01:=B0.ext E1;have B11:=B1.ext E1;have c0:=B01.cell;have f0:=B01.frozen;obtain⟨w2,hw2,B02,far2,ext2,_⟩:=B01.store3 (.int .i64 p.x) (.int .i64 p.y) (.int .i64 p.z);have B12:=far2 _ _ _ (by omega) B11;have E2:=ext2 w (E.trans E1) (Nat.le_refl _);clear far2 ext2;have c2:=B02.cell;by_cases h4:n / 4<4
 ·go_wp2_with fail;refine(aboutX_c p.x p.y p.z _ _ (by omega) (by omega) hp1).mono ?_;rintro e w3 ⟨rfl,E3⟩;rw[H2.out];have Hf:=h_ (turnS_low ⟨x,y,z⟩ n h4);obtain⟨q,hq⟩:=nm (rotXn ⟨p.x,p.y,p.z⟩ (n / 4));have Hq:=h_ hq;rw[hq];clear hq;have B13:=B12.ext E3;have c3:=B13.cell;have f3:=B13.frozen;go_wp2_with fail;refine bodyPost_ret (v:= .agg #[.int .i64 q.x,.int .i64 q.y,.int .i64 q.z]) (by simp[results,Tryz.results97,go_sem,c3]) rfl ⟨by rw[Hf.out,Hp.out,show rotXn p (n / 4)=q from Hq.out],?_⟩;exact(((E2.trans E3).setCell (Nat.le_succ _) _).setCell (Nat.le_succ _) _).setCell (Nat.le_succ _) _
 ·go_wp2_with fail;refine(aboutX_1 p.x p.y p.z _ hp1).mono ?_;rintro e w3 ⟨rfl,E3⟩;have hp2:Pt.ok ⟨p.x,-p.z,p.y⟩:=⟨hp1.1,hp1.2.2.neg,hp1.2.1⟩;have B03:=B02.ext E3;have B13:=B12.ext E3;have c3:=B03.cell;have f3:=B03.frozen;obtain⟨w4,hw4,B04,far4,ext4,_⟩:=B03.store3 (.int .i64 p.x) (.int .i64 (-p.z)) (.int .i64 p.y);have B14:=far4 _ _ _ (by omega) B13;have E4:=ext4 w (E2.trans E3) (Nat.le_refl _);clear far4 ext4;have c4:=B04.cell;by_cases h5:n / 4=4
  ·have Hf:=h_ (turnS_four ⟨x,y,z⟩ n h5);have hi:(n:Int) / 4=4:=by omega
   clear h5 h4;go_wp2_with fail;refine(aboutZ_1 p.x (-p.z) p.y _ hp2).mono ?_;rintro e w5 ⟨rfl,E5⟩;have B15:=B14.ext E5;have c5:=B15.cell;have f5:=B15.frozen;go_wp2_with fail;refine bodyPost_ret (v:= .agg #[.int .i64 (- -p.z),.int .i64 p.x,.int .i64 p.y]) (by simp[results,Tryz.results97,go_sem,c5]) rfl ⟨by rw[Hf.out,Hp.out];rfl,?_⟩;exact(((E4.trans E5).setCell (Nat.le_succ _) _).setCell (Nat.le_succ _) _).setCell (Nat.le_succ _) _
  ·have Hf:=h_ (turnS_five ⟨x,y,z⟩ n (by omega));have hi:(n:Int) / 4=5:=by omega
   clear h5 h4;go_wp2_with fail;refine(aboutZ_3 p.x (-p.z) p.y _ hp2).mono ?_;rintro e w5 ⟨rfl,E5⟩;have B15:=B14.ext E5;have c5:=B15.cell;have f5:=B15.frozen;go_wp2_with fail;refine bodyPost_ret (v:= .agg #[.int .i64 (-p.z),.int .i64 (-p.x),.int .i64 p.y]) (by simp[results,Tryz.results97,go_sem,c5]) rfl ⟨?_,?_⟩
   ·rw[Hf.out,Hp.out];show _=Ending.returned (.agg #[.int .i64 (- -(-p.z)),.int .i64 (-p.x),.int .i64 p.y])
    rw[Int.neg_neg]
   exact(((E4.trans E5).setCell (Nat.le_succ _) _).setCell (Nat.le_succ _) _).setCell (Nat.le_succ _) _
structure SliceIs(w:World)(A:Option Addr)(n cap sz:Nat)(rows:List (List Value)):Prop where
 len:rows.length=n
 le:n≤cap
 small:cap≤maxLen
 wide: ∀r∈rows,r.length=sz
 cells:0<n → ∃b off,A=some ⟨b,off,none⟩∧b<w.heap.size ∧ ∀i r,rows[i]? = some r → ∀j u,r[j]? = some u→w.cell? ⟨b,off+i*sz+j,none⟩=some u
theorem SliceIs.ext{w w':World}{A:Option Addr}{n cap sz:Nat}{rows:List (List Value)}(h:SliceIs w A n cap sz rows)(e:Ext w w'):SliceIs w' A n cap sz rows:=by
 obtain⟨h1,h2,h3,h4,h5⟩:=h;refine⟨h1,h2,h3,h4,fun hn=> ?_⟩;obtain⟨b,off,hA,hb,hc⟩:=h5 hn;exact⟨b,off,hA,Nat.lt_of_lt_of_le hb e.size,fun i r hr j u hu=>e.cell (hc i r hr j u hu)⟩
def inB(lo hi n:Int):Bool:=decide (lo≤n)&&decide (n≤hi)
theorem inB_iff{lo hi n:Int}:inB lo hi n=true↔lo≤n∧n≤hi:=by simp[inB]
theorem inB_not{lo hi n:Int}:inB lo hi n=false ↔ ¬(lo≤n∧n≤hi):=by
 rw[←inB_iff];simp
def nearB(p:Pt)(lo hi:Int):Bool:=inB lo hi p.x&&(inB lo hi p.y&&inB lo hi p.z)
theorem nearB_iff{p:Pt}{lo hi:Int}:nearB p lo hi=true↔(lo≤p.x∧p.x≤hi)∧(lo≤p.y∧p.y≤hi)∧(lo≤p.z∧p.z≤hi):=by
 simp[nearB,inB]
theorem within_c(n lo hi:Int)(w:World) :
  Calls Tryz.prog 143 #[.int .i64 n,.int .i64 lo,.int .i64 hi] w fun e w'=>e = .returned (.bool (inB lo hi n))∧w=w':=by
 by_cases h:lo≤n
 ·go_enter Tryz.func143,Tryz.ntmps143
  go_wp2
  go_ret;exact⟨by simp[h,inB],rfl⟩
 ·go_enter Tryz.func143,Tryz.ntmps143
  go_wp2
  go_ret;exact⟨by simp[inB];omega,rfl⟩
theorem rnear_c(x y z lo hi:Int)(w:World) :
  Calls Tryz.prog 144 #[.agg #[.int .i64 x,.int .i64 y,.int .i64 z],.int .i64 lo,.int .i64 hi] w fun e w'=>e = .returned (.bool (nearB ⟨x,y,z⟩ lo hi))∧Ext w w':=by
 unfold nearB;cases h1:inB lo hi x
 ·go_enter Tryz.func144,Tryz.ntmps144;go_wp2_with (go_at_call 143;refine(within_c _ _ _ _).mono ?_;rintro e w' ⟨rfl,rfl⟩);go_ret;exact⟨rfl,by apply_rules [Ext.refl,Ext.alloc]⟩
 ·cases h2:inB lo hi y
  ·go_enter Tryz.func144,Tryz.ntmps144;go_wp2_with (go_at_call 143;refine(within_c _ _ _ _).mono ?_;rintro e w' ⟨rfl,rfl⟩);go_ret;exact⟨rfl,by apply_rules [Ext.refl,Ext.alloc]⟩
  ·go_enter Tryz.func144,Tryz.ntmps144;go_wp2_with (go_at_call 143;refine(within_c _ _ _ _).mono ?_;rintro e w' ⟨rfl,rfl⟩);go_ret;exact⟨rfl,by apply_rules [Ext.refl,Ext.alloc]⟩
theorem ret_bool{a b:Bool}(h:a=true↔b=true):Ending.returned (.bool a) = .returned (.bool b):=by rw[Bool.eq_iff_iff.2 h]
theorem near_c(x y z lo hi:Int)(w:World) :
  Calls Tryz.prog 147 #[.agg #[.int .i64 x,.int .i64 y,.int .i64 z],.int .i64 lo,.int .i64 hi] w fun e w'=>e = .returned (.bool (nearB ⟨x,y,z⟩ lo hi))∧Ext w w':=by
 by_cases h1:lo≤min (min x y) z
 ·go_enter Tryz.func147,Tryz.ntmps147
  go_wp2
  all_goals
   go_ret;refine⟨ret_bool ?_,by apply_rules [Ext.refl,Ext.alloc]⟩;rw[nearB_iff];simp;omega
 ·go_enter Tryz.func147,Tryz.ntmps147
  go_wp2
  all_goals
   go_ret;refine⟨ret_bool ?_,by apply_rules [Ext.refl,Ext.alloc]⟩;rw[nearB_iff];simp
   try omega
def allTurn(xs:List Int):Bool:=xs.all fun n=>inB 0 23 n
def stepS(d:Nat):Pt :=
 match d with
 | 0=>⟨1,0,0⟩
 | 1=>⟨-1,0,0⟩
 | 2=>⟨0,1,0⟩
 | 3=>⟨0,-1,0⟩
 | 4=>⟨0,0,1⟩
 | _=>⟨0,0,-1⟩
theorem stepS_ok(d:Nat):(stepS d).ok:=by
 unfold stepS
 split<;>(unfold Pt.ok CB;simp)
def Pt.eqB(a b:Pt):Bool:=a.x==b.x&&(a.y==b.y&&a.z==b.z)
theorem Pt.eqB_iff{a b:Pt}:a.eqB b=true↔a=b:=by
 cases a;cases b;simp[Pt.eqB]
theorem pt_eql(a b c d e f:Int)(w:World):(binOp .eql 124 (.agg #[.int .i64 a,.int .i64 b,.int .i64 c]) (.agg #[.int .i64 d,.int .i64 e,.int .i64 f])).run Tryz.prog w = .ok (.bool (Pt.eqB ⟨a,b,c⟩ ⟨d,e,f⟩)) w:=by
 unfold Pt.eqB;by_cases h1:a=d <;> by_cases h2:b=e <;> by_cases h3:c=f <;> simp[go_sem,h1,h2,h3]
theorem pt_neq(a b c d e f:Int)(w:World):(binOp .neq 124 (.agg #[.int .i64 a,.int .i64 b,.int .i64 c]) (.agg #[.int .i64 d,.int .i64 e,.int .i64 f])).run Tryz.prog w = .ok (.bool (!Pt.eqB ⟨a,b,c⟩ ⟨d,e,f⟩)) w:=by
 unfold Pt.eqB;by_cases h1:a=d <;> by_cases h2:b=e <;> by_cases h3:c=f <;> simp[go_sem,h1,h2,h3]
theorem stepS_inj{a b:Nat}(ha:a<6)(hb:b<6)(h:stepS a=stepS b):a=b:=by
 have e1:a=0∨a=1∨a=2∨a=3∨a=4∨a=5:=by omega
 have e2:b=0∨b=1∨b=2∨b=3∨b=4∨b=5:=by omega
 rcases e1 with rfl|rfl|rfl|rfl|rfl|rfl <;> rcases e2 with rfl|rfl|rfl|rfl|rfl|rfl <;> first|rfl|(exfalso;simp[stepS] at h)
theorem step_c(d:Nat)(hd:d<6)(w:World) :
  Calls Tryz.prog 122 #[.int .i64 d] w fun e w'=>e = .returned (.agg #[.int .i64 (stepS d).x,.int .i64 (stepS d).y,.int .i64 (stepS d).z])∧Ext w w':=by
 have hi: ∀(a b c:Int) (w:World),(Instr.index 234 (.agg #[.int .i64 a,.int .i64 0,.int .i64 0,.int .i64 0,.int .i64 b,.int .i64 0,.int .i64 0,.int .i64 0,.int .i64 c]) (.int .i64 0)).run Tryz.prog w = .ok (.agg #[.int .i64 a,.int .i64 0,.int .i64 0]) w:=fun _ _ _ _=>by kernel_rfl
 have hj: ∀(a b c:Int) (w:World),(Instr.index 234 (.agg #[.int .i64 a,.int .i64 0,.int .i64 0,.int .i64 0,.int .i64 b,.int .i64 0,.int .i64 0,.int .i64 0,.int .i64 c]) (.int .i64 1)).run Tryz.prog w = .ok (.agg #[.int .i64 0,.int .i64 b,.int .i64 0]) w:=fun _ _ _ _=>by kernel_rfl
 have hk: ∀(a b c:Int) (w:World),(Instr.index 234 (.agg #[.int .i64 a,.int .i64 0,.int .i64 0,.int .i64 0,.int .i64 b,.int .i64 0,.int .i64 0,.int .i64 0,.int .i64 c]) (.int .i64 2)).run Tryz.prog w = .ok (.agg #[.int .i64 0,.int .i64 0,.int .i64 c]) w:=fun _ _ _ _=>by kernel_rfl
 have e1:d=0∨d=1∨d=2∨d=3∨d=4∨d=5:=by omega
 rcases e1 with rfl|rfl|rfl|rfl|rfl|rfl
 all_goals
  go_enter Tryz.func122,Tryz.ntmps122
  go_wp2
  refine bodyPost_ret (v:= .agg #[.int .i64 (stepS _).x,.int .i64 (stepS _).y,.int .i64 (stepS _).z]) ?_ rfl ⟨rfl,by apply_rules [Ext.refl,Ext.alloc]⟩;simp[results,Tryz.results122,go_sem,stepS]
theorem rstep_c(d:Nat)(hd:d<6)(w:World) :
  Calls Tryz.prog 138 #[.int .i64 d] w fun e w'=>e = .returned (.agg #[.int .i64 (stepS d).x,.int .i64 (stepS d).y,.int .i64 (stepS d).z])∧Ext w w':=by
 have e1:d=0∨d=1∨d=2∨d=3∨d=4∨d=5:=by omega
 rcases e1 with rfl|rfl|rfl|rfl|rfl|rfl
 all_goals
  go_enter Tryz.func138,Tryz.ntmps138
  go_wp2
  refine bodyPost_ret (v:= .agg #[.int .i64 (stepS _).x,.int .i64 (stepS _).y,.int .i64 (stepS _).z]) ?_ rfl ⟨rfl,by apply_rules [Ext.refl,Ext.alloc]⟩;simp[results,Tryz.results138,go_sem,stepS]
theorem direction_c(d:Nat)(hd:d<6)(w:World) :
  Calls Tryz.prog 121 #[.agg #[.int .i64 (stepS d).x,.int .i64 (stepS d).y,.int .i64 (stepS d).z]] w fun e w'=>e = .returned (.int .i64 d)∧Ext w w':=by
 obtain⟨W,hW,E,ba,hz⟩:=boxes1 w #[.int .i64 (stepS d).x,.int .i64 (stepS d).y,.int .i64 (stepS d).z] 124;have B:Blk W w.heap.size 124 #[.int .i64 (stepS d).x,.int .i64 (stepS d).y,.int .i64 (stepS d).z]:=by rw[←hW];exact Blk.new _ _ _
 go_enter Tryz.func121,Tryz.ntmps121
 go_wp2
 go_loopw [4] (fun i wr=> ∃k:Nat,k≤d∧i = .int .i64 k∧Ext W wr) (fun i _=>6-(intOf i).toNat)
 case atStart=>exact⟨0,by omega,rfl,Ext.refl _⟩
 case round =>
  obtain⟨k,hk,rfl,E1⟩:=hrel;have c:=(B.ext E1).cell;have hq: ∀w,(binOp .eql 124 (.agg #[.int .i64 (stepS k).x,.int .i64 (stepS k).y,.int .i64 (stepS k).z]) (.agg #[.int .i64 (stepS d).x,.int .i64 (stepS d).y,.int .i64 (stepS d).z])).run Tryz.prog w = .ok (.bool (decide (k=d))) w:=fun w=>by
   rw[pt_eql];have:Pt.eqB (stepS k) (stepS d)=decide (k=d):=by
    by_cases h:k=d
    ·subst h;simp[Pt.eqB]
    ·simp only[h,decide_false];rw[Bool.eq_false_iff];intro h';exact h (stepS_inj (by omega) hd (Pt.eqB_iff.1 h'))
   exact congrArg (fun b=>Result.ok (Value.bool b) w) this
  by_cases hkd:k=d
  ·have hkd':decide (k=d)=true:=by simp[hkd]
   simp only[hkd'] at hq;clear hkd';have Hkd:=h_ hkd;clear hkd
   go_wp2
   refine w_g ?_
   repeat (go_big_quiet_step ((go_at_call 122;exact quiet_ext (step_c k (by omega) _))))
   refine wpQuiet_nil ?_;intro W2 hW2;have E2:Ext wr W2:=by
    obtain⟨x,rfl⟩:=hW2;exact(Ext.refl _).grow x
   clear hW2
   go_wp2
   go_ret;exact⟨by rw[Hkd.out];rfl,(E.trans E1).trans E2⟩
  ·have hkd':decide (k=d)=false:=by simp[hkd]
   simp only[hkd'] at hq;clear hkd'
   go_wp2
   refine w_g ?_
   repeat (go_big_quiet_step ((go_at_call 122;exact quiet_ext (step_c k (by omega) _))))
   refine wpQuiet_nil ?_;intro W2 hW2;have E2:Ext wr W2:=by
    obtain⟨x,rfl⟩:=hW2;exact(Ext.refl _).grow x
   clear hW2
   go_wp2
   go_roundw
   case rel=>exact⟨k+1,by omega,by go_num,E1.trans E2⟩
   case measure=>simp[intOf];omega
theorem ext_facts{w w':World}(E:Ext w w') :
  (∀a,(w.cell? a).isSome=true→w'.cell? a=w.cell? a)∧(∀a,(w.cell? a).isSome=true→w'.frozen? a=w.frozen? a)∧w.heap.size≤w'.heap.size:=by
 refine⟨fun a h=> ?_,fun a h=> ?_,E.size⟩
 ·obtain⟨u,hu⟩:=Option.isSome_iff_exists.1 h;rw[hu];exact E.cell hu
 ·obtain⟨u,hu⟩:=Option.isSome_iff_exists.1 h;exact E.frozen (World.block_lt_of_cell? w a hu)
/-! A loop that may leave early, as a fold that may fail. -/
section
variable {α:Type}
def runs(f:Nat→α→Option α):Nat→α→Option α
 | 0,a=>some a
 | k+1,a=>(runs f k a).bind (f k)
end
end Go.Proofs.YtojolpbpjimfgaaGreatDoor
