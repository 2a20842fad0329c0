/- Texts of the proof: RValidKind, RKind. -/
import Derived.Test.YtojolpbpjimfgaaGreatDoorZy4
set_option maxHeartbeats 16000000
set_option maxRecDepth 100000
namespace Go.Proofs.YtojolpbpjimfgaaGreatDoor
open Go.RowKit
theorem rnear_is{x y z lo hi:Int}{r:Bool}(h:nearB ⟨x,y,z⟩ lo hi=r)(w:World) :
  Calls Tryz.prog 144 #[.agg #[.int .i64 x,.int .i64 y,.int .i64 z],.int .i64 lo,.int .i64 hi] w fun e w'=>e = .returned (.bool r)∧Ext w w':=by
 subst h;exact rnear_c _ _ _ _ _ _
theorem within_is{n lo hi:Int}{r:Bool}(h:inB lo hi n=r)(w:World) :
  Calls Tryz.prog 143 #[.int .i64 n,.int .i64 lo,.int .i64 hi] w fun e w'=>e = .returned (.bool r)∧w=w':=by
 subst h;exact within_c _ _ _ _
theorem rBefore_is{a b c d e f:Int}{r:Bool}(h:ltP ⟨a,b,c⟩ ⟨d,e,f⟩=r)(w:World) :
  Calls Tryz.prog 132 #[.agg #[.int .i64 a,.int .i64 b,.int .i64 c],.agg #[.int .i64 d,.int .i64 e,.int .i64 f]] w fun v w'=>v = .returned (.bool r)∧Ext w w':=by
 subst h;exact rBefore_c _ _ _ _ _ _ _
theorem cells_ok{cells:List Pt}(h:cellsB cells=true){p:Pt}(hp:p∈cells):p.ok:=by
 obtain⟨i,hi⟩:=List.getElem?_of_mem hp;have hil:i<cells.length:=(List.getElem?_eq_some_iff.1 hi).1;have:=allR_at h hil;rw[cellOk,ptAt_eq hi,Bool.and_eq_true] at this;exact pt_near this.1
theorem knobbed_c(cells:List Pt)(knobs:List Knb)(wt:Int)(A:Option Addr)(ca:Nat)(B:Option Addr)(cb:Nat)(w:World)(hc:Cells w A ca cells)(hn:Knobs w B cb knobs)(hcb:cellsB cells=true) :
  Calls Tryz.prog 168 #[.agg #[.slice A cells.length ca,.slice B knobs.length cb,.int .i64 wt]] w fun e w'=>e = .returned (.bool (decide (knobs.length≤48)&&knobsB cells knobs))∧Ext w w':=by
 have hl1:cells.length≤9223372036854775807:=by have:=hc.len;unfold maxLen at this;omega
 have hl2:knobs.length≤9223372036854775807:=by have:=hn.len;unfold maxLen at this;omega
 have Hcb:=h_ hcb;clear hcb;obtain⟨W1,hW1,E1,B1,hz1⟩:=mk_ w #[.slice A cells.length ca,.slice B knobs.length cb,.int .i64 wt] 112;have b1:=B1.cell;by_cases a3:(48:Int)<knobs.length
 ·have Hb:=h_ (show(decide (knobs.length≤48)&&knobsB cells knobs)=false by rw[decide_eq_false (by omega)];rfl);go_enter Tryz.func168,Tryz.ntmps168;go_wp2_with fail;go_ret;exact⟨by rw[Hb.out];rfl,E1⟩
 have H48:=h_ (show decide (knobs.length≤48)=true by rw[decide_eq_true_eq];omega);go_enter Tryz.func168,Tryz.ntmps168;go_wp2_with fail;clear hW1 hz1 b1;go_loopw [3] (fun i wr=> ∃j:Nat,j≤knobs.length∧i = .int .i64 j∧Ext w wr∧Blk wr w.heap.size 112 #[.slice A cells.length ca,.slice B knobs.length cb,.int .i64 wt]∧Hid (∀i,i<j→knobOk cells knobs i=true)) (fun i _=>knobs.length-(intOf i).toNat)
 case atStart=>exact⟨0,by omega,rfl,E1,B1,h_ (fun i hi=>by omega)⟩
 case round =>
  clear E1 B1;obtain⟨j,hj,rfl,E,BK,Hj⟩:=hrel;have b1:=BK.cell;by_cases hlt:j<knobs.length
  ·obtain⟨g,off,⟨⟨x,y,z⟩,dir,sort⟩,rfl,hq,⟨⟨hd0,hd1⟩,hs0,hs1⟩,hg,c0,c1,c2,c3,c4⟩:=hn.at_ hlt;simp only at c0 c1 c2 c3 c4 hd0 hd1 hs0 hs1;obtain⟨d,rfl⟩: ∃d:Nat,dir=d:=⟨dir.toNat,by omega⟩;have d0:=E.cell c0;have d1:=E.cell c1;have d2:=E.cell c2;have d3:=E.cell c3;have d4:=E.cell c4;clear c0 c1 c2 c3 c4;have Hq:=h_ hq;clear hq;have i1:(0:Int)≤j:=by omega
   have i2:(j:Int)<knobs.length:=by omega
   obtain⟨W4,hW4,E4,B4,hz4⟩:=mk_ wr #[.int .i64 x,.int .i64 y,.int .i64 z,.int .u8 d,.int .u8 sort] 137;have b4:=B4.cell;have b1':=(BK.ext E4).cell;have EE:=E.trans E4;have f1:IntKind.i64.wrap (d:Int)=d:=IntWalk.i64_in _ (by omega);cases hh:hasP cells ⟨x,y,z⟩
   ·have Hb:=h_ (show(decide (knobs.length≤48)&&knobsB cells knobs)=false by
     rw[show knobsB cells knobs=false from allR_bad hlt (knobOk_bad Hq.out (by
      rw[←Bool.not_eq_true,Knb.one_iff]
      exact fun h=>by rw[h.2.2.1] at hh;cases hh)),Bool.and_false])
    go_upto_region 7 with(fail)
    refine w_g ?_
    repeat (go_big_quiet_step (((go_at_call 145;exact quiet_ext (rHas_c A ca cells _ _ _ _ (hc.ext (EE.grow _)))))))
    refine wpQuiet_nil ?_;intro W5 hW5;have E5:Ext W4 W5:=by
     obtain⟨x,rfl⟩:=hW5;exact(Ext.refl _).grow x
    clear hW5;obtain⟨hcW5,hfW5,hzW5⟩:=ext_facts E5;go_wp2_with fail;go_ret;exact⟨by rw[Hb.out];rfl,EE.trans E5⟩
   have Hok1:=h_ (cells_ok Hcb.out (hasP_iff.1 hh));by_cases a1:(5:Int)<d
   ·have Hb:=h_ (show(decide (knobs.length≤48)&&knobsB cells knobs)=false by
     rw[show knobsB cells knobs=false from allR_bad hlt (knobOk_bad Hq.out (by
      rw[←Bool.not_eq_true,Knb.one_iff]
      exact fun h=>by have:(d:Int)≤5:=h.1;omega)),Bool.and_false])
    go_upto_region 7 with(fail)
    refine w_g ?_
    repeat (go_big_quiet_step (((go_at_call 145;exact quiet_ext (rHas_c A ca cells _ _ _ _ (hc.ext (EE.grow _)))))))
    refine wpQuiet_nil ?_;intro W5 hW5;have E5:Ext W4 W5:=by
     obtain⟨x,rfl⟩:=hW5;exact(Ext.refl _).grow x
    clear hW5;obtain⟨hcW5,hfW5,hzW5⟩:=ext_facts E5;go_wp2_with fail;go_ret;exact⟨by rw[Hb.out];rfl,EE.trans E5⟩
   cases hh2:hasP cells ⟨x+(stepS d).x,y+(stepS d).y,z+(stepS d).z⟩;rotate_left
   ·have Hb:=h_ (show(decide (knobs.length≤48)&&knobsB cells knobs)=false by
     rw[show knobsB cells knobs=false from allR_bad hlt (knobOk_bad Hq.out (by
      rw[←Bool.not_eq_true,Knb.one_iff]
      exact fun h=>by rw[show hasP cells (addP ⟨x,y,z⟩ (stepS (d:Int).toNat))=true from hh2] at h;cases h.2.2.2)),Bool.and_false])
    go_upto_region 7 with(fail)
    refine w_g ?_
    repeat (go_big_quiet_step ((first|(go_at_call 145;exact quiet_ext (rHas_c A ca cells _ _ _ _ (hc.ext (EE.grow _))))|(go_at_call 138;exact quiet_ext (rstep_c d (by omega) _))|(go_at_call 96;exact quiet_ext (rPlus_c _ _ _ _ _ _ _ Hok1.out (stepS_ok d))))))
    refine wpQuiet_nil ?_;intro W5 hW5;have E5:Ext W4 W5:=by
     obtain⟨x,rfl⟩:=hW5;exact(Ext.refl _).grow x
    clear hW5;obtain⟨hcW5,hfW5,hzW5⟩:=ext_facts E5;go_wp2_with fail;go_ret;exact⟨by rw[Hb.out];rfl,EE.trans E5⟩
   by_cases a2:sort<1
   ·have Hb:=h_ (show(decide (knobs.length≤48)&&knobsB cells knobs)=false by
     rw[show knobsB cells knobs=false from allR_bad hlt (knobOk_bad Hq.out (by
      rw[←Bool.not_eq_true,Knb.one_iff]
      exact fun h=>by have:1≤sort:=h.2.1.1;omega)),Bool.and_false])
    go_upto_region 7 with(fail)
    refine w_g ?_
    repeat (go_big_quiet_step ((first|(go_at_call 145;exact quiet_ext (rHas_c A ca cells _ _ _ _ (hc.ext (EE.grow _))))|(go_at_call 138;exact quiet_ext (rstep_c d (by omega) _))|(go_at_call 96;exact quiet_ext (rPlus_c _ _ _ _ _ _ _ Hok1.out (stepS_ok d))))))
    refine wpQuiet_nil ?_;intro W5 hW5;have E5:Ext W4 W5:=by
     obtain⟨x,rfl⟩:=hW5;exact(Ext.refl _).grow x
    clear hW5;obtain⟨hcW5,hfW5,hzW5⟩:=ext_facts E5;go_wp2_with fail;go_ret;exact⟨by rw[Hb.out];rfl,EE.trans E5⟩
   by_cases a3:6<sort
   ·have Hb:=h_ (show(decide (knobs.length≤48)&&knobsB cells knobs)=false by
     rw[show knobsB cells knobs=false from allR_bad hlt (knobOk_bad Hq.out (by
      rw[←Bool.not_eq_true,Knb.one_iff]
      exact fun h=>by have:sort≤6:=h.2.1.2;omega)),Bool.and_false])
    go_upto_region 7 with(fail)
    refine w_g ?_
    repeat (go_big_quiet_step ((first|(go_at_call 145;exact quiet_ext (rHas_c A ca cells _ _ _ _ (hc.ext (EE.grow _))))|(go_at_call 138;exact quiet_ext (rstep_c d (by omega) _))|(go_at_call 96;exact quiet_ext (rPlus_c _ _ _ _ _ _ _ Hok1.out (stepS_ok d))))))
    refine wpQuiet_nil ?_;intro W5 hW5;have E5:Ext W4 W5:=by
     obtain⟨x,rfl⟩:=hW5;exact(Ext.refl _).grow x
    clear hW5;obtain⟨hcW5,hfW5,hzW5⟩:=ext_facts E5;go_wp2_with fail;go_ret;exact⟨by rw[Hb.out];rfl,EE.trans E5⟩
   have Hone:=h_ ((Knb.one_iff (cs:=cells) (x:=⟨⟨x,y,z⟩,d,sort⟩)).2 ⟨by show(d:Int)≤5;omega,⟨by show 1≤sort;omega,by show sort≤6;omega⟩,hh,hh2⟩);by_cases hj0:j=0
   ·have z1:decide ((0:Int)<(j:Int))=false:=by simp;omega
    have z2:decide (0<j)=false:=by simp;omega
    have hok: ∀i,i<j+1→knobOk cells knobs i=true:=fun i hi=>by
     obtain rfl:i=0:=by omega
     subst hj0;rw[knobOk_zero Hq.out];exact Hone.out
    have Hok:=h_ hok;clear hok hj0
    go_upto_region 7 with(fail)
    refine w_g ?_
    repeat (go_big_quiet_step ((first|(go_at_call 145;exact quiet_ext (rHas_c A ca cells _ _ _ _ (hc.ext (EE.grow _))))|(go_at_call 138;exact quiet_ext (rstep_c d (by omega) _))|(go_at_call 96;exact quiet_ext (rPlus_c _ _ _ _ _ _ _ Hok1.out (stepS_ok d))))))
    refine wpQuiet_nil ?_;intro W5 hW5;have E5:Ext W4 W5:=by
     obtain⟨x,rfl⟩:=hW5;exact(Ext.refl _).grow x
    clear hW5;obtain⟨hcW5,hfW5,hzW5⟩:=ext_facts E5;go_wp2_with fail;go_roundw
    case rel=>exact⟨j+1,by omega,by go_num,EE.trans E5,(BK.ext E4).ext E5,Hok⟩
    case measure=>simp only[intOf];omega
   ·obtain⟨g',off',⟨⟨rx,ry,rz⟩,rdir,rsort⟩,hA',hr,-,hg',p0,p1,p2,p3,p4⟩:=(hn.ext EE).at_ (k:=j-1) (by omega);cases hA';simp only at p0 p1 p2 p3 p4;have Hr:=h_ hr;clear hr;have z1:decide ((0:Int)<(j:Int))=true:=by simp;omega
    have z2:decide (0<j)=true:=by simp;omega
    have hkc:(((j-1:Nat):Nat):Int)=(j:Int)-1:=by omega
    have ht:((j:Int)-1).toNat=j-1:=by omega
    have hk1:(1:Int)≤j:=by omega
    have hok:knobOk cells knobs j=Knb.lt ⟨⟨rx,ry,rz⟩,rdir,rsort⟩ ⟨⟨x,y,z⟩,d,sort⟩:=by rw[knobOk_next Hq.out hj0 Hr.out,Hone.out,Bool.true_and]
    have Hok:=h_ hok;clear hok
    go_upto_region 7 with(fail)
    refine w_g ?_
    repeat (go_big_quiet_step ((first|(go_at_call 145;exact quiet_ext (rHas_c A ca cells _ _ _ _ (hc.ext (EE.grow _))))|(go_at_call 138;exact quiet_ext (rstep_c d (by omega) _))|(go_at_call 96;exact quiet_ext (rPlus_c _ _ _ _ _ _ _ Hok1.out (stepS_ok d))))))
    refine wpQuiet_nil ?_;intro W5 hW5;have E5:Ext W4 W5:=by
     obtain⟨x,rfl⟩:=hW5;exact(Ext.refl _).grow x
    clear hW5;obtain⟨hcW5,hfW5,hzW5⟩:=ext_facts E5;obtain⟨W6,hW6,E6,B6,hz6⟩:=mk_ W5 #[.int .i64 rx,.int .i64 ry,.int .i64 rz,.int .u8 rdir,.int .u8 rsort] 137;have b6:=B6.cell;have b4'':=((B4.ext E5).ext E6).cell;have b1'':=(((BK.ext E4).ext E5).ext E6).cell;have hne:=pt_neq;have EF:=(EE.trans E5).trans E6;cases hlp:ltP ⟨rx,ry,rz⟩ ⟨x,y,z⟩
    ·cases heq:Pt.eqB ⟨rx,ry,rz⟩ ⟨x,y,z⟩
     ·have Hv:=h_ (show Knb.lt ⟨⟨rx,ry,rz⟩,rdir,rsort⟩ ⟨⟨x,y,z⟩,d,sort⟩=false by simp[Knb.lt,hlp,heq]);go_wp2_with fail;refine(rBefore_is hlp _).mono ?_;rintro v w7 ⟨rfl,E7⟩;obtain⟨hcW7,hfW7,hzW7⟩:=ext_facts E7;have Hb:=h_ (show(decide (knobs.length≤48)&&knobsB cells knobs)=false by
       rw[show knobsB cells knobs=false from allR_bad hlt (by rw[Hok.out,Hv.out]),Bool.and_false])
      go_wp2_with fail;go_ret;exact⟨by rw[Hb.out];rfl,EF.trans E7⟩
     ·by_cases hdd:rdir<d
      ·have Hv:=h_ (show Knb.lt ⟨⟨rx,ry,rz⟩,rdir,rsort⟩ ⟨⟨x,y,z⟩,d,sort⟩=true by simp[Knb.lt,hlp,heq,hdd]);have hd2:decide ((d:Int)≤rdir)=false:=by simp;omega
       go_wp2_with fail;refine(rBefore_is hlp _).mono ?_;rintro v w7 ⟨rfl,E7⟩;obtain⟨hcW7,hfW7,hzW7⟩:=ext_facts E7;go_wp2_with fail;go_roundw
       case rel=>exact⟨j+1,by omega,by go_num,EF.trans E7,(((BK.ext E4).ext E5).ext E6).ext E7,h_ (fun i hi=>by
        rcases Nat.lt_or_ge i j with h' | h'
        ·exact Hj.out i h'
        ·obtain rfl:i=j:=by omega
         rw[Hok.out,Hv.out])⟩
       case measure=>simp only[intOf];omega
      ·have Hv:=h_ (show Knb.lt ⟨⟨rx,ry,rz⟩,rdir,rsort⟩ ⟨⟨x,y,z⟩,d,sort⟩=false by simp[Knb.lt,hlp,hdd]);have hd2:decide ((d:Int)≤rdir)=true:=by simp;omega
       go_wp2_with fail;refine(rBefore_is hlp _).mono ?_;rintro v w7 ⟨rfl,E7⟩;obtain⟨hcW7,hfW7,hzW7⟩:=ext_facts E7;have Hb:=h_ (show(decide (knobs.length≤48)&&knobsB cells knobs)=false by
        rw[show knobsB cells knobs=false from allR_bad hlt (by rw[Hok.out,Hv.out]),Bool.and_false])
       go_wp2_with fail;go_ret;exact⟨by rw[Hb.out];rfl,EF.trans E7⟩
    ·have Hv:=h_ (show Knb.lt ⟨⟨rx,ry,rz⟩,rdir,rsort⟩ ⟨⟨x,y,z⟩,d,sort⟩=true by simp[Knb.lt,hlp]);go_wp2_with fail;refine(rBefore_is hlp _).mono ?_;rintro v w7 ⟨rfl,E7⟩;obtain⟨hcW7,hfW7,hzW7⟩:=ext_facts E7;go_wp2_with fail;go_roundw
     case rel=>exact⟨j+1,by omega,by go_num,EF.trans E7,(((BK.ext E4).ext E5).ext E6).ext E7,h_ (fun i hi=>by
      rcases Nat.lt_or_ge i j with h' | h'
      ·exact Hj.out i h'
      ·obtain rfl:i=j:=by omega
       rw[Hok.out,Hv.out])⟩
     case measure=>simp only[intOf];omega
  ·obtain rfl:knobs.length=j:=by omega
   have Hg:=h_ (show(decide (knobs.length≤48)&&knobsB cells knobs)=true by rw[H48.out,show knobsB cells knobs=true from allR_good Hj.out];rfl);go_wp2_with fail;go_ret;exact⟨by rw[Hg.out];rfl,E⟩
theorem validKind_c(cells:List Pt)(knobs:List Knb)(wt:Int)(A:Option Addr)(ca:Nat)(B:Option Addr)(cb:Nat)(w:World)(hc:Cells w A ca cells)(hn:Knobs w B cb knobs) :
  Calls Tryz.prog 142 #[.agg #[.slice A cells.length ca,.slice B knobs.length cb,.int .i64 wt]] w fun e w'=>e = .returned (.bool (Knd.valid ⟨cells,knobs,wt⟩))∧Ext w w':=by
 have hl1:cells.length≤9223372036854775807:=by have:=hc.len;unfold maxLen at this;omega
 obtain⟨W1,hW1,E1,B1,hz1⟩:=mk_ w #[.slice A cells.length ca,.slice B knobs.length cb,.int .i64 wt] 112;have b1:=B1.cell;by_cases a1:(cells.length:Int)<1
 ·have Hb:=h_ (valid_bad0 (k:=⟨cells,knobs,wt⟩) (by
   rw[←Bool.not_eq_true,sized_iff];show ¬((1≤cells.length∧cells.length≤24)∧knobs.length≤48∧1≤wt∧wt≤100)
   omega))
  go_enter Tryz.func142,Tryz.ntmps142;go_wp2_with fail;go_ret;exact⟨by rw[Hb.out];rfl,E1⟩
 by_cases a2:(24:Int)<cells.length
 ·have Hb:=h_ (valid_bad0 (k:=⟨cells,knobs,wt⟩) (by
   rw[←Bool.not_eq_true,sized_iff];show ¬((1≤cells.length∧cells.length≤24)∧knobs.length≤48∧1≤wt∧wt≤100)
   omega))
  go_enter Tryz.func142,Tryz.ntmps142;go_wp2_with fail;go_ret;exact⟨by rw[Hb.out];rfl,E1⟩
 cases hwt:inB 1 100 wt
 ·have Hb:=h_ (valid_bad0 (k:=⟨cells,knobs,wt⟩) (by
   rw[←Bool.not_eq_true,sized_iff];show ¬((1≤cells.length∧cells.length≤24)∧knobs.length≤48∧1≤wt∧wt≤100)
   have:=inB_not.1 hwt
   omega))
  go_enter Tryz.func142,Tryz.ntmps142;go_wp2_with fail;refine(within_is hwt _).mono ?_;rintro v w2 ⟨rfl,rfl⟩;go_wp2_with fail;go_ret;exact⟨by rw[Hb.out];rfl,E1⟩
 go_enter Tryz.func142,Tryz.ntmps142;go_wp2_with fail;refine(within_is hwt _).mono ?_;rintro v w2 ⟨rfl,rfl⟩;have Hwt:=h_ hwt;clear hwt;go_wp2_with fail;clear hW1 hz1 b1;go_loopw [3] (fun i wr=> ∃j:Nat,j≤cells.length∧i = .int .i64 j∧Ext w wr∧Blk wr w.heap.size 112 #[.slice A cells.length ca,.slice B knobs.length cb,.int .i64 wt]∧Hid (∀i,i<j→cellOk cells i=true)) (fun i _=>cells.length-(intOf i).toNat)
 case atStart=>exact⟨0,by omega,rfl,E1,B1,h_ (fun i hi=>by omega)⟩
 case round =>
  clear E1 B1;obtain⟨j,hj,rfl,E,BK,Hj⟩:=hrel;have b1:=BK.cell;by_cases hlt:j<cells.length
  ·obtain⟨g,off,q,rfl,hq,hg,c0,c1,c2⟩:=hc.at_ hlt;have d0:=E.cell c0;have d1:=E.cell c1;have d2:=E.cell c2;clear c0 c1 c2;have Hq:=h_ hq;clear hq;have i1:(0:Int)≤j:=by omega
   have i2:(j:Int)<cells.length:=by omega
   cases hnr:nearB ⟨q.x,q.y,q.z⟩ 0 15
   ·have Hb:=h_ (valid_bad1 (k:=⟨cells,knobs,wt⟩) (allR_bad hlt (cellOk_near Hq.out hnr)));have N:=fun W=>rnear_is hnr W;clear hnr
    go_upto_region 6 with(fail)
    refine w_g ?_
    repeat (go_big_quiet_step (((go_at_call 144;exact quiet_ext (N _)))))
    refine wpQuiet_nil ?_;intro W5 hW5;have E5:Ext wr W5:=by
     obtain⟨x,rfl⟩:=hW5;exact(Ext.refl _).grow x
    clear hW5;obtain⟨hcW5,hfW5,hzW5⟩:=ext_facts E5;go_wp2_with fail;go_ret;exact⟨by rw[Hb.out];rfl,E.trans E5⟩
   ·have N:=fun W=>rnear_is hnr W;have Hnr:=h_ hnr;clear hnr;by_cases hj0:j=0
    ·have z1:decide ((0:Int)<(j:Int))=false:=by simp;omega
     have z2:decide (0<j)=false:=by simp;omega
     have hok: ∀i,i<j+1→cellOk cells i=true:=fun i hi=>by
      obtain rfl:i=0:=by omega
      subst hj0;exact cellOk_zero Hq.out Hnr.out
     have Hok:=h_ hok;clear hok hj0
     go_upto_region 6 with(fail)
     refine w_g ?_
     repeat (go_big_quiet_step (((go_at_call 144;exact quiet_ext (N _)))))
     refine wpQuiet_nil ?_;intro W5 hW5;have E5:Ext wr W5:=by
      obtain⟨x,rfl⟩:=hW5;exact(Ext.refl _).grow x
     clear hW5;obtain⟨hcW5,hfW5,hzW5⟩:=ext_facts E5;go_wp2_with fail;go_roundw
     case rel=>exact⟨j+1,by omega,by go_num,E.trans E5,BK.ext E5,Hok⟩
     case measure=>simp only[intOf];omega
    ·obtain⟨g',off',r,hA',hr,hg',p0,p1,p2⟩:=(hc.ext E).at_ (k:=j-1) (by omega);cases hA';have Hr:=h_ hr;clear hr;have z1:decide ((0:Int)<(j:Int))=true:=by simp;omega
     have z2:decide (0<j)=true:=by simp;omega
     have hkc:(((j-1:Nat):Nat):Int)=(j:Int)-1:=by omega
     have ht:((j:Int)-1).toNat=j-1:=by omega
     have hk1:(1:Int)≤j:=by omega
     have hok:cellOk cells j=ltP r q:=cellOk_next Hq.out Hnr.out hj0 Hr.out;have Hok:=h_ hok;clear hok;cases hlp:ltP ⟨r.x,r.y,r.z⟩ ⟨q.x,q.y,q.z⟩
     ·have O:=fun W=>rBefore_is hlp W;have Hb:=h_ (valid_bad1 (k:=⟨cells,knobs,wt⟩) (allR_bad hlt (by rw[Hok.out];exact hlp)));clear hlp
      go_upto_region 6 with(fail)
      refine w_g ?_
      repeat (go_big_quiet_step ((first|(go_at_call 144;exact quiet_ext (N _))|(go_at_call 132;exact quiet_ext (O _)))))
      refine wpQuiet_nil ?_;intro W5 hW5;have E5:Ext wr W5:=by
       obtain⟨x,rfl⟩:=hW5;exact(Ext.refl _).grow x
      clear hW5;obtain⟨hcW5,hfW5,hzW5⟩:=ext_facts E5;go_wp2_with fail;go_ret;exact⟨by rw[Hb.out];rfl,E.trans E5⟩
     ·have O:=fun W=>rBefore_is hlp W;have Hl:=h_ hlp;clear hlp
      go_upto_region 6 with(fail)
      refine w_g ?_
      repeat (go_big_quiet_step ((first|(go_at_call 144;exact quiet_ext (N _))|(go_at_call 132;exact quiet_ext (O _)))))
      refine wpQuiet_nil ?_;intro W5 hW5;have E5:Ext wr W5:=by
       obtain⟨x,rfl⟩:=hW5;exact(Ext.refl _).grow x
      clear hW5;obtain⟨hcW5,hfW5,hzW5⟩:=ext_facts E5;go_wp2_with fail;go_roundw
      case rel=>exact⟨j+1,by omega,by go_num,E.trans E5,BK.ext E5,h_ (fun i hi=>by
       rcases Nat.lt_or_ge i j with h' | h'
       ·exact Hj.out i h'
       ·obtain rfl:i=j:=by omega
        rw[Hok.out]
        exact Hl.out)⟩
      case measure=>simp only[intOf];omega
  ·obtain rfl:cells.length=j:=by omega
   have Hcells:=h_ (allR_good Hj.out);have hv:Knd.valid ⟨cells,knobs,wt⟩=(decide (knobs.length≤48)&&knobsB cells knobs):=by
    have h1:cellsB cells=true:=Hcells.out;unfold Knd.valid Knd.sized;rw[h1,Hwt.out,inB_iff.2 ⟨by show(1:Int)≤cells.length;omega,by show(cells.length:Int)≤24;omega⟩,Bool.true_and,Bool.true_and,Bool.and_true]
   have Hv:=h_ hv;clear hv;go_wp2_with fail;refine(knobbed_c cells knobs wt A ca B cb _ (hc.ext E) (hn.ext E) Hcells.out).mono ?_;rintro v w2 ⟨rfl,E2⟩;go_wp2_with fail;go_ret;exact⟨by rw[Hv.out];rfl,E.trans E2⟩
theorem validKind_is{cells:List Pt}{knobs:List Knb}{wt:Int}{r:Bool}(h:Knd.valid ⟨cells,knobs,wt⟩=r){A:Option Addr}{ca:Nat}{B:Option Addr}{cb:Nat}{w:World}(hc:Cells w A ca cells)(hn:Knobs w B cb knobs) :
  Calls Tryz.prog 142 #[.agg #[.slice A cells.length ca,.slice B knobs.length cb,.int .i64 wt]] w fun e w'=>e = .returned (.bool r)∧Ext w w':=by
 subst h;exact validKind_c _ _ _ _ _ _ _ _ hc hn
theorem checkKind_is{cells:List Pt}{knobs:List Knb}{wt r:Int}(h:kindErr ⟨cells,knobs,wt⟩=r){A:Option Addr}{ca:Nat}{B:Option Addr}{cb:Nat}{w:World}(hc:Cells w A ca cells)(hn:Knobs w B cb knobs) :
  Calls Tryz.prog 139 #[.agg #[.slice A cells.length ca,.slice B knobs.length cb,.int .i64 wt]] w fun e w'=>e = .returned (.int .i64 r)∧Ext w w':=by
 subst h;exact checkKind_c _ _ _ _ _ _ _ _ hc hn
/-! Lists of kinds. -/
theorem kindAt_eq{qs:List (Knd×KAt)}{j:Nat}{k:Knd}{p:KAt}(h:qs[j]? = some (k,p)):kindAt (qs.map (·.1)) j=k:=by simp[kindAt,h]
theorem kindsErr_bad{l:List Knd}{j:Nat}(hl: ¬16<l.length)(hj:j<l.length)(h:(kindAt l j).valid=false):kindsErr l=10:=by
 rw[kindsErr,if_neg hl,allR_bad hj h];rfl
theorem kindsErr_good{l:List Knd}(hl: ¬16<l.length)(h: ∀j,j<l.length→(kindAt l j).valid=true):kindsErr l=0:=by
 rw[kindsErr,if_neg hl,allR_good h];rfl
theorem checkKinds_c(qs:List (Knd×KAt))(A:Option Addr)(cap:Nat)(w:World)(hk:Kinds w A cap qs) :
  Calls Tryz.prog 107 #[.slice A qs.length cap] w fun e w'=>e = .returned (.int .i64 (kindsErr (qs.map (·.1))))∧Ext w w':=by
 have hl1:qs.length≤9223372036854775807:=by have:=hk.len;unfold maxLen at this;omega
 have hml:(qs.map (·.1)).length=qs.length:=List.length_map _;by_cases a1:(16:Int)<qs.length
 ·have Hb:=h_ (show kindsErr (qs.map (·.1))=4 by rw[kindsErr,if_pos (by rw[hml];omega)]);clear hml;go_enter Tryz.func107,Tryz.ntmps107;go_wp2_with fail;go_ret;exact⟨by rw[Hb.out];rfl,Ext.refl w⟩
 have Hml:=h_ hml;clear hml;go_enter Tryz.func107,Tryz.ntmps107;go_wp2_with fail;go_loopw [11] (fun i wr=> ∃j:Nat,j≤qs.length∧i = .int .i64 j∧Ext w wr∧Hid (∀i,i<j→(kindAt (qs.map (·.1)) i).valid=true)) (fun i _=>qs.length-(intOf i).toNat)
 case atStart=>exact⟨0,by omega,rfl,Ext.refl w,h_ (fun i hi=>by omega)⟩
 case round =>
  obtain⟨j,hj,rfl,E,Hj⟩:=hrel;by_cases hlt:j<qs.length
  ·obtain⟨g,off,⟨kc,kn,kw⟩,⟨KA,kca,KB,kcb⟩,rfl,hq,⟨hkc,hkn⟩,hg,c0,c1,c2⟩:=(hk.ext E).at_ hlt;simp only at c0 c1 c2 hkc hkn;have Hq:=h_ hq;clear hq;obtain⟨W4,hW4,E4,B4,hz4⟩:=mk_ wr #[.slice KA kc.length kca,.slice KB kn.length kcb,.int .i64 kw] 112;have b4:=B4.cell;cases hv:Knd.valid ⟨kc,kn,kw⟩
   ·have Hb:=h_ (kindsErr_bad (l:=qs.map (·.1)) (by rw[Hml.out];omega) (j:=j) (by rw[Hml.out];omega) (by rw[kindAt_eq Hq.out];exact hv));have HV:=h_ (fun W (EW:Ext wr W)=>checkKind_is (kindErr_bad hv) (hkc.ext EW) (hkn.ext EW));clear hv;go_wp2_with fail;refine(HV.out _ E4).mono ?_;rintro v w2 ⟨rfl,E2⟩;go_wp2_with fail;go_ret;exact⟨by rw[Hb.out];rfl,(E.trans E4).trans E2⟩
   ·have hok: ∀i,i<j+1→(kindAt (qs.map (·.1)) i).valid=true:=fun i hi=>by
     rcases Nat.lt_or_ge i j with h' | h'
     ·exact Hj.out i h'
     ·obtain rfl:i=j:=by omega
      rw[kindAt_eq Hq.out];exact hv
    have Hok:=h_ hok;have HV:=h_ (fun W (EW:Ext wr W)=>checkKind_is (kindErr_good hv) (hkc.ext EW) (hkn.ext EW));clear hv hok;go_wp2_with fail;refine(HV.out _ E4).mono ?_;rintro v w2 ⟨rfl,E2⟩;go_wp2_with fail;go_roundw
    case rel=>exact⟨j+1,by omega,by go_num,(E.trans E4).trans E2,Hok⟩
    case measure=>simp only[intOf];omega
  ·obtain rfl:qs.length=j:=by omega
   have Hg:=h_ (kindsErr_good (l:=qs.map (·.1)) (by rw[Hml.out];omega) (by rw[Hml.out];exact Hj.out));go_wp2_with fail;go_ret;exact⟨by rw[Hg.out];rfl,E⟩
theorem rCheckKinds_c(qs:List (Knd×KAt))(A:Option Addr)(cap:Nat)(w:World)(hk:Kinds w A cap qs) :
  Calls Tryz.prog 112 #[.slice A qs.length cap] w fun e w'=>e = .returned (.int .i64 (kindsErr (qs.map (·.1))))∧Ext w w':=by
 have hl1:qs.length≤9223372036854775807:=by have:=hk.len;unfold maxLen at this;omega
 have hml:(qs.map (·.1)).length=qs.length:=List.length_map _;by_cases a1:(16:Int)<qs.length
 ·have Hb:=h_ (show kindsErr (qs.map (·.1))=4 by rw[kindsErr,if_pos (by rw[hml];omega)]);clear hml;go_enter Tryz.func112,Tryz.ntmps112;go_wp2_with fail;go_ret;exact⟨by rw[Hb.out];rfl,Ext.refl w⟩
 have Hml:=h_ hml;clear hml;go_enter Tryz.func112,Tryz.ntmps112;go_wp2_with fail;go_loopw [3] (fun i wr=> ∃j:Nat,j≤qs.length∧i = .int .i64 j∧Ext w wr∧Hid (∀i,i<j→(kindAt (qs.map (·.1)) i).valid=true)) (fun i _=>qs.length-(intOf i).toNat)
 case atStart=>exact⟨0,by omega,rfl,Ext.refl w,h_ (fun i hi=>by omega)⟩
 case round =>
  obtain⟨j,hj,rfl,E,Hj⟩:=hrel;by_cases hlt:j<qs.length
  ·obtain⟨g,off,⟨kc,kn,kw⟩,⟨KA,kca,KB,kcb⟩,rfl,hq,⟨hkc,hkn⟩,hg,c0,c1,c2⟩:=(hk.ext E).at_ hlt;simp only at c0 c1 c2 hkc hkn;have Hq:=h_ hq;clear hq;cases hv:Knd.valid ⟨kc,kn,kw⟩
   ·have Hb:=h_ (kindsErr_bad (l:=qs.map (·.1)) (by rw[Hml.out];omega) (j:=j) (by rw[Hml.out];omega) (by rw[kindAt_eq Hq.out];exact hv));have HV:=h_ (fun W (EW:Ext wr W)=>validKind_is hv (hkc.ext EW) (hkn.ext EW));clear hv;go_wp2_with fail;refine(HV.out _ (Ext.refl _)).mono ?_;rintro v w2 ⟨rfl,E2⟩;go_wp2_with fail;go_ret;exact⟨by rw[Hb.out];rfl,E.trans E2⟩
   ·have hok: ∀i,i<j+1→(kindAt (qs.map (·.1)) i).valid=true:=fun i hi=>by
     rcases Nat.lt_or_ge i j with h' | h'
     ·exact Hj.out i h'
     ·obtain rfl:i=j:=by omega
      rw[kindAt_eq Hq.out];exact hv
    have Hok:=h_ hok;have HV:=h_ (fun W (EW:Ext wr W)=>validKind_is hv (hkc.ext EW) (hkn.ext EW));clear hv hok;go_wp2_with fail;refine(HV.out _ (Ext.refl _)).mono ?_;rintro v w2 ⟨rfl,E2⟩;go_wp2_with fail;go_roundw
    case rel=>exact⟨j+1,by omega,by go_num,E.trans E2,Hok⟩
    case measure=>simp only[intOf];omega
  ·obtain rfl:qs.length=j:=by omega
   have Hg:=h_ (kindsErr_good (l:=qs.map (·.1)) (by rw[Hml.out];omega) (by rw[Hml.out];exact Hj.out));go_wp2_with fail;go_ret;exact⟨by rw[Hg.out];rfl,E⟩
end Go.Proofs.YtojolpbpjimfgaaGreatDoor
