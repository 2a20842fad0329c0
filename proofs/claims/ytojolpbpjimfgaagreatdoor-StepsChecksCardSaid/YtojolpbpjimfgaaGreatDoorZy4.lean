/- Texts of the proof: CheckKind. -/
import Derived.Test.YtojolpbpjimfgaaGreatDoorZy3
set_option maxHeartbeats 16000000
set_option maxRecDepth 100000
namespace Go.Proofs.YtojolpbpjimfgaaGreatDoor
open Go.RowKit
theorem near_is{x y z lo hi:Int}{r:Bool}(h:nearB ⟨x,y,z⟩ lo hi=r)(w:World) :
  Calls Tryz.prog 147 #[.agg #[.int .i64 x,.int .i64 y,.int .i64 z],.int .i64 lo,.int .i64 hi] w fun e w'=>e = .returned (.bool r)∧Ext w w':=by
 subst h;exact near_c _ _ _ _ _ _
theorem order_is{a b c d e f n:Int}(h:ordP ⟨a,b,c⟩ ⟨d,e,f⟩=n)(w:World) :
  Calls Tryz.prog 120 #[.agg #[.int .i64 a,.int .i64 b,.int .i64 c],.agg #[.int .i64 d,.int .i64 e,.int .i64 f]] w fun v w'=>v = .returned (.int .i64 n)∧Ext w w':=by
 subst h;exact order_c _ _ _ _ _ _ _
theorem cellOk_near{l:List Pt}{j:Nat}{q:Pt}(hq:l[j]? = some q)(h:nearB q 0 15=false):cellOk l j=false:=by
 rw[cellOk,ptAt_eq hq,h];rfl
theorem cellOk_zero{l:List Pt}{q:Pt}(hq:l[0]? = some q)(h:nearB q 0 15=true):cellOk l 0=true:=by
 rw[cellOk,ptAt_eq hq,h];rfl
theorem cellOk_next{l:List Pt}{j:Nat}{q r:Pt}(hq:l[j]? = some q)(h:nearB q 0 15=true)(hj:j≠0)(hr:l[j-1]? = some r):cellOk l j=ltP r q:=by
 rw[cellOk,ptAt_eq hq,ptAt_eq hr,h,decide_eq_false hj];rfl
theorem pt_near{q:Pt}(h:nearB q 0 15=true):q.ok:=by
 rw[nearB_iff] at h;exact⟨⟨by omega,by omega⟩,⟨by omega,by omega⟩,⟨by omega,by omega⟩⟩
theorem knobOk_zero{cs:List Pt}{l:List Knb}{q:Knb}(hq:l[0]? = some q):knobOk cs l 0=q.one cs:=by
 rw[knobOk,knbAt_eq hq];simp
theorem knobOk_next{cs:List Pt}{l:List Knb}{j:Nat}{q r:Knb}(hq:l[j]? = some q)(hj:j≠0)(hr:l[j-1]? = some r):knobOk cs l j=(q.one cs&&r.lt q):=by
 rw[knobOk,knbAt_eq hq,knbAt_eq hr,decide_eq_false hj];rfl
theorem knobOk_bad{cs:List Pt}{l:List Knb}{j:Nat}{q:Knb}(hq:l[j]? = some q)(h:q.one cs=false):knobOk cs l j=false:=by
 rw[knobOk,knbAt_eq hq,h];rfl
theorem Knb.one_iff{cs:List Pt}{x:Knb}:x.one cs=true↔x.dir≤5∧(1≤x.sort∧x.sort≤6)∧hasP cs x.at_=true∧hasP cs (addP x.at_ (stepS x.dir.toNat))=false:=by
 simp only[Knb.one,Bool.and_eq_true,decide_eq_true_eq,inB_iff,Bool.not_eq_true']
theorem checkKind_c(cells:List Pt)(knobs:List Knb)(wt:Int)(A:Option Addr)(ca:Nat)(B:Option Addr)(cb:Nat)(w:World)(hc:Cells w A ca cells)(hn:Knobs w B cb knobs) :
  Calls Tryz.prog 139 #[.agg #[.slice A cells.length ca,.slice B knobs.length cb,.int .i64 wt]] w fun e w'=>e = .returned (.int .i64 (kindErr ⟨cells,knobs,wt⟩))∧Ext w w':=by
 have hl1:cells.length≤9223372036854775807:=by have:=hc.len;unfold maxLen at this;omega
 have hl2:knobs.length≤9223372036854775807:=by have:=hn.len;unfold maxLen at this;omega
 obtain⟨W1,hW1,E1,B1,hz1⟩:=mk_ w #[.slice A cells.length ca,.slice B knobs.length cb,.int .i64 wt] 112;have b1:=B1.cell;by_cases a1:(cells.length:Int)<1
 ·have Hb:=h_ (kindErr_bad (k:=⟨cells,knobs,wt⟩) (valid_bad0 (by
   rw[←Bool.not_eq_true,sized_iff];show ¬((1≤cells.length∧cells.length≤24)∧knobs.length≤48∧1≤wt∧wt≤100)
   omega)))
  go_enter Tryz.func139,Tryz.ntmps139;go_wp2_with fail;go_ret;exact⟨by rw[Hb.out];rfl,E1⟩
 by_cases a2:(24:Int)<cells.length
 ·have Hb:=h_ (kindErr_bad (k:=⟨cells,knobs,wt⟩) (valid_bad0 (by
   rw[←Bool.not_eq_true,sized_iff];show ¬((1≤cells.length∧cells.length≤24)∧knobs.length≤48∧1≤wt∧wt≤100)
   omega)))
  go_enter Tryz.func139,Tryz.ntmps139;go_wp2_with fail;go_ret;exact⟨by rw[Hb.out];rfl,E1⟩
 by_cases a3:(48:Int)<knobs.length
 ·have Hb:=h_ (kindErr_bad (k:=⟨cells,knobs,wt⟩) (valid_bad0 (by
   rw[←Bool.not_eq_true,sized_iff];show ¬((1≤cells.length∧cells.length≤24)∧knobs.length≤48∧1≤wt∧wt≤100)
   omega)))
  go_enter Tryz.func139,Tryz.ntmps139;go_wp2_with fail;go_ret;exact⟨by rw[Hb.out];rfl,E1⟩
 by_cases a4:wt<1
 ·have Hb:=h_ (kindErr_bad (k:=⟨cells,knobs,wt⟩) (valid_bad0 (by
   rw[←Bool.not_eq_true,sized_iff];show ¬((1≤cells.length∧cells.length≤24)∧knobs.length≤48∧1≤wt∧wt≤100)
   omega)))
  go_enter Tryz.func139,Tryz.ntmps139;go_wp2_with fail;go_ret;exact⟨by rw[Hb.out];rfl,E1⟩
 by_cases a5:100<wt
 ·have Hb:=h_ (kindErr_bad (k:=⟨cells,knobs,wt⟩) (valid_bad0 (by
   rw[←Bool.not_eq_true,sized_iff];show ¬((1≤cells.length∧cells.length≤24)∧knobs.length≤48∧1≤wt∧wt≤100)
   omega)))
  go_enter Tryz.func139,Tryz.ntmps139;go_wp2_with fail;go_ret;exact⟨by rw[Hb.out];rfl,E1⟩
 have Hs:=h_ ((sized_iff (k:=⟨cells,knobs,wt⟩)).2 ⟨⟨by show 1≤cells.length;omega,by show cells.length≤24;omega⟩,by show knobs.length≤48;omega,by show 1≤wt;omega,by show wt≤100;omega⟩);go_enter Tryz.func139,Tryz.ntmps139;go_wp2_with fail;clear hW1 hz1 a1 a4 a5;go_loopw [36] (fun i wr=> ∃j:Nat,j≤cells.length∧i = .int .i64 j∧Ext w wr∧Blk wr w.heap.size 112 #[.slice A cells.length ca,.slice B knobs.length cb,.int .i64 wt]∧Hid (∀i,i<j→cellOk cells i=true)) (fun i _=>cells.length-(intOf i).toNat)
 case atStart=>exact⟨0,by omega,rfl,E1,B1,h_ (fun i hi=>by omega)⟩
 case round =>
  obtain⟨j,hj,rfl,E,BK,Hj⟩:=hrel;clear b1 B1 E1;have b1:=BK.cell;by_cases hlt:j<cells.length
  ·obtain⟨g,off,q,rfl,hq,hg,c0,c1,c2⟩:=hc.at_ hlt;have d0:=E.cell c0;have d1:=E.cell c1;have d2:=E.cell c2;clear c0 c1 c2;have Hq:=h_ hq;clear hq;have i1:(0:Int)≤j:=by omega
   have i2:(j:Int)<cells.length:=by omega
   obtain⟨W4,hW4,E4,B4,hz4⟩:=mk_ wr #[.int .i64 q.x,.int .i64 q.y,.int .i64 q.z] 124;have b4:=B4.cell;cases hnr:nearB ⟨q.x,q.y,q.z⟩ 0 15
   ·have Hb:=h_ (kindErr_bad (k:=⟨cells,knobs,wt⟩) (valid_bad1 (allR_bad hlt (cellOk_near Hq.out hnr))));have N:=fun W=>near_is hnr W;clear hnr
    go_upto_region 6 with(fail)
    refine w_g ?_
    repeat (go_big_quiet_step (((go_at_call 147;exact quiet_ext (N _)))))
    refine wpQuiet_nil ?_;intro W5 hW5;have E5:Ext W4 W5:=by
     obtain⟨x,rfl⟩:=hW5;exact(Ext.refl _).grow x
    clear hW5;obtain⟨hcW5,hfW5,hzW5⟩:=ext_facts E5;go_wp2_with fail;go_ret;exact⟨by rw[Hb.out];rfl,(E.trans E4).trans E5⟩
   ·have N:=fun W=>near_is hnr W;have Hnr:=h_ hnr;clear hnr;by_cases hj0:j=0
    ·have z1:decide ((0:Int)<(j:Int))=false:=by simp;omega
     have z2:decide (0<j)=false:=by simp;omega
     have hok: ∀i,i<j+1→cellOk cells i=true:=fun i hi=>by
      obtain rfl:i=0:=by omega
      subst hj0;exact cellOk_zero Hq.out Hnr.out
     have Hok:=h_ hok;clear hok hj0
     go_upto_region 6 with(fail)
     refine w_g ?_
     repeat (go_big_quiet_step (((go_at_call 147;exact quiet_ext (N _)))))
     refine wpQuiet_nil ?_;intro W5 hW5;have E5:Ext W4 W5:=by
      obtain⟨x,rfl⟩:=hW5;exact(Ext.refl _).grow x
     clear hW5;obtain⟨hcW5,hfW5,hzW5⟩:=ext_facts E5;go_wp2_with fail;go_roundw
     case rel=>exact⟨j+1,by omega,by go_num,(E.trans E4).trans E5,(BK.ext E4).ext E5,Hok⟩
     case measure=>simp only[intOf];omega
    ·obtain⟨g',off',r,hA',hr,hg',p0,p1,p2⟩:=(hc.ext (E.trans E4)).at_ (k:=j-1) (by omega);cases hA';have Hr:=h_ hr;clear hr;have z1:decide ((0:Int)<(j:Int))=true:=by simp;omega
     have z2:decide (0<j)=true:=by simp;omega
     have hkc:(((j-1:Nat):Nat):Int)=(j:Int)-1:=by omega
     have ht:((j:Int)-1).toNat=j-1:=by omega
     have hk1:(1:Int)≤j:=by omega
     have b1':=(BK.ext E4).cell;have hok:cellOk cells j=ltP r q:=cellOk_next Hq.out Hnr.out hj0 Hr.out;have Hok:=h_ hok;clear hok;rcases ordP_cases r q with⟨hl,ho⟩|⟨hl,ho⟩|⟨hl,ho⟩
     ·have Hl:=h_ hl;clear hl;have O:=fun W=>order_is (a:=r.x) (b:=r.y) (c:=r.z) (d:=q.x) (e:=q.y) (f:=q.z) ho W;clear ho
      go_upto_region 6 with(fail)
      refine w_g ?_
      repeat (go_big_quiet_step ((first|(go_at_call 147;exact quiet_ext (N _))|(go_at_call 120;exact quiet_ext (O _)))))
      refine wpQuiet_nil ?_;intro W5 hW5;have E5:Ext W4 W5:=by
       obtain⟨x,rfl⟩:=hW5;exact(Ext.refl _).grow x
      clear hW5;obtain⟨hcW5,hfW5,hzW5⟩:=ext_facts E5;go_wp2_with fail;go_roundw
      case rel=>exact⟨j+1,by omega,by go_num,(E.trans E4).trans E5,(BK.ext E4).ext E5,h_ (fun i hi=>by
       rcases Nat.lt_or_ge i j with h' | h'
       ·exact Hj.out i h'
       ·obtain rfl:i=j:=by omega
        rw[Hok.out,Hl.out])⟩
      case measure=>simp only[intOf];omega
     ·have Hb:=h_ (kindErr_bad (k:=⟨cells,knobs,wt⟩) (valid_bad1 (allR_bad hlt (by rw[Hok.out,hl,ltP_irrefl]))));clear hl;have O:=fun W=>order_is (a:=r.x) (b:=r.y) (c:=r.z) (d:=q.x) (e:=q.y) (f:=q.z) ho W;clear ho
      go_upto_region 6 with(fail)
      refine w_g ?_
      repeat (go_big_quiet_step ((first|(go_at_call 147;exact quiet_ext (N _))|(go_at_call 120;exact quiet_ext (O _)))))
      refine wpQuiet_nil ?_;intro W5 hW5;have E5:Ext W4 W5:=by
       obtain⟨x,rfl⟩:=hW5;exact(Ext.refl _).grow x
      clear hW5;obtain⟨hcW5,hfW5,hzW5⟩:=ext_facts E5;go_wp2_with fail;go_ret;exact⟨by rw[Hb.out];rfl,(E.trans E4).trans E5⟩
     ·have Hb:=h_ (kindErr_bad (k:=⟨cells,knobs,wt⟩) (valid_bad1 (allR_bad hlt (by rw[Hok.out,ltP_anti hl]))));clear hl;have O:=fun W=>order_is (a:=r.x) (b:=r.y) (c:=r.z) (d:=q.x) (e:=q.y) (f:=q.z) ho W;clear ho
      go_upto_region 6 with(fail)
      refine w_g ?_
      repeat (go_big_quiet_step ((first|(go_at_call 147;exact quiet_ext (N _))|(go_at_call 120;exact quiet_ext (O _)))))
      refine wpQuiet_nil ?_;intro W5 hW5;have E5:Ext W4 W5:=by
       obtain⟨x,rfl⟩:=hW5;exact(Ext.refl _).grow x
      clear hW5;obtain⟨hcW5,hfW5,hzW5⟩:=ext_facts E5;go_wp2_with fail;go_ret;exact⟨by rw[Hb.out];rfl,(E.trans E4).trans E5⟩
  ·obtain rfl:cells.length=j:=by omega
   have Hcells:=h_ (allR_good Hj.out);clear Hj;go_wp2_with fail;clear hlt b1;go_loopw [63] (fun i wr=> ∃j:Nat,j≤knobs.length∧i = .int .i64 j∧Ext w wr∧Blk wr w.heap.size 112 #[.slice A cells.length ca,.slice B knobs.length cb,.int .i64 wt]∧Hid (∀i,i<j→knobOk cells knobs i=true)) (fun i _=>knobs.length-(intOf i).toNat)
   case atStart=>exact⟨0,by omega,rfl,E,BK,h_ (fun i hi=>by omega)⟩
   case round =>
    clear E BK;obtain⟨j,hj,rfl,E,BK,Hj⟩:=hrel;have b1:=BK.cell;by_cases hlt:j<knobs.length
    ·obtain⟨g,off,⟨⟨x,y,z⟩,dir,sort⟩,rfl,hq,⟨⟨hd0,hd1⟩,hs0,hs1⟩,hg,c0,c1,c2,c3,c4⟩:=hn.at_ hlt;simp only at c0 c1 c2 c3 c4 hd0 hd1 hs0 hs1;obtain⟨d,rfl⟩: ∃d:Nat,dir=d:=⟨dir.toNat,by omega⟩;have d0:=E.cell c0;have d1:=E.cell c1;have d2:=E.cell c2;have d3:=E.cell c3;have d4:=E.cell c4;clear c0 c1 c2 c3 c4;have Hq:=h_ hq;clear hq;have i1:(0:Int)≤j:=by omega
     have i2:(j:Int)<knobs.length:=by omega
     obtain⟨W4,hW4,E4,B4,hz4⟩:=mk_ wr #[.int .i64 x,.int .i64 y,.int .i64 z,.int .u8 d,.int .u8 sort] 137;have b4:=B4.cell;have b1':=(BK.ext E4).cell;have EE:=E.trans E4;have f1:IntKind.i64.wrap (d:Int)=d:=IntWalk.i64_in _ (by omega);have Hok1:Hid (hasP cells ⟨x,y,z⟩=true→Pt.ok ⟨x,y,z⟩):=h_ fun h=>by
      obtain⟨i,hi⟩:=List.getElem?_of_mem (hasP_iff.1 h);have hil:i<cells.length:=(List.getElem?_eq_some_iff.1 hi).1;have:=allR_at Hcells.out hil;rw[cellOk,ptAt_eq hi,Bool.and_eq_true] at this;exact pt_near this.1
     by_cases a1:(5:Int)<d
     ·have Hb:=h_ (kindErr_bad (k:=⟨cells,knobs,wt⟩) (valid_bad2 (allR_bad hlt (knobOk_bad Hq.out (by
       rw[←Bool.not_eq_true,Knb.one_iff]
       exact fun h=>by have:(d:Int)≤5:=h.1;omega)))))
      go_upto_region 12 with(fail)
      refine w_g ?_
      repeat (go_big_quiet_step (fail))
      refine wpQuiet_nil ?_;intro W5 hW5;have E5:Ext W4 W5:=by
       obtain⟨x,rfl⟩:=hW5;exact(Ext.refl _).grow x
      clear hW5;obtain⟨hcW5,hfW5,hzW5⟩:=ext_facts E5;go_wp2_with fail;go_ret;exact⟨by rw[Hb.out];rfl,EE.trans E5⟩
     by_cases a2:sort<1
     ·have Hb:=h_ (kindErr_bad (k:=⟨cells,knobs,wt⟩) (valid_bad2 (allR_bad hlt (knobOk_bad Hq.out (by
       rw[←Bool.not_eq_true,Knb.one_iff]
       exact fun h=>by have:1≤sort:=h.2.1.1;omega)))))
      go_upto_region 12 with(fail)
      refine w_g ?_
      repeat (go_big_quiet_step (fail))
      refine wpQuiet_nil ?_;intro W5 hW5;have E5:Ext W4 W5:=by
       obtain⟨x,rfl⟩:=hW5;exact(Ext.refl _).grow x
      clear hW5;obtain⟨hcW5,hfW5,hzW5⟩:=ext_facts E5;go_wp2_with fail;go_ret;exact⟨by rw[Hb.out];rfl,EE.trans E5⟩
     by_cases a3:6<sort
     ·have Hb:=h_ (kindErr_bad (k:=⟨cells,knobs,wt⟩) (valid_bad2 (allR_bad hlt (knobOk_bad Hq.out (by
       rw[←Bool.not_eq_true,Knb.one_iff]
       exact fun h=>by have:sort≤6:=h.2.1.2;omega)))))
      go_upto_region 12 with(fail)
      refine w_g ?_
      repeat (go_big_quiet_step (fail))
      refine wpQuiet_nil ?_;intro W5 hW5;have E5:Ext W4 W5:=by
       obtain⟨x,rfl⟩:=hW5;exact(Ext.refl _).grow x
      clear hW5;obtain⟨hcW5,hfW5,hzW5⟩:=ext_facts E5;go_wp2_with fail;go_ret;exact⟨by rw[Hb.out];rfl,EE.trans E5⟩
     cases hh:hasP cells ⟨x,y,z⟩
     ·have Hb:=h_ (kindErr_bad (k:=⟨cells,knobs,wt⟩) (valid_bad2 (allR_bad hlt (knobOk_bad Hq.out (by
       rw[←Bool.not_eq_true,Knb.one_iff]
       exact fun h=>by rw[h.2.2.1] at hh;cases hh)))))
      go_upto_region 12 with(fail)
      refine w_g ?_
      repeat (go_big_quiet_step (((go_at_call 156;exact quiet_ext (contains_c A ca cells _ _ _ _ (hc.ext (EE.grow _)))))))
      refine wpQuiet_nil ?_;intro W5 hW5;have E5:Ext W4 W5:=by
       obtain⟨x,rfl⟩:=hW5;exact(Ext.refl _).grow x
      clear hW5;obtain⟨hcW5,hfW5,hzW5⟩:=ext_facts E5;go_wp2_with fail;go_ret;exact⟨by rw[Hb.out];rfl,EE.trans E5⟩
     have hok1:=Hok1.out hh;have Hok1':=h_ hok1;clear hok1;cases hh2:hasP cells ⟨x+(stepS d).x,y+(stepS d).y,z+(stepS d).z⟩;rotate_left
     ·have Hb:=h_ (kindErr_bad (k:=⟨cells,knobs,wt⟩) (valid_bad2 (allR_bad hlt (knobOk_bad Hq.out (by
       rw[←Bool.not_eq_true,Knb.one_iff]
       exact fun h=>by rw[show hasP cells (addP ⟨x,y,z⟩ (stepS (d:Int).toNat))=true from hh2] at h;cases h.2.2.2)))))
      go_upto_region 12 with(fail)
      refine w_g ?_
      repeat (go_big_quiet_step ((first|(go_at_call 156;exact quiet_ext (contains_c A ca cells _ _ _ _ (hc.ext (EE.grow _))))|(go_at_call 122;exact quiet_ext (step_c d (by omega) _))|(go_at_call 117;exact quiet_ext (plus_c _ _ _ _ _ _ _ Hok1'.out (stepS_ok d))))))
      refine wpQuiet_nil ?_;intro W5 hW5;have E5:Ext W4 W5:=by
       obtain⟨x,rfl⟩:=hW5;exact(Ext.refl _).grow x
      clear hW5;obtain⟨hcW5,hfW5,hzW5⟩:=ext_facts E5;go_wp2_with fail;go_ret;exact⟨by rw[Hb.out];rfl,EE.trans E5⟩
     have Hone:=h_ ((Knb.one_iff (cs:=cells) (x:=⟨⟨x,y,z⟩,d,sort⟩)).2 ⟨by show(d:Int)≤5;omega,⟨by show 1≤sort;omega,by show sort≤6;omega⟩,hh,hh2⟩);by_cases hj0:j=0
     ·have z1:decide ((0:Int)<(j:Int))=false:=by simp;omega
      have z2:decide (0<j)=false:=by simp;omega
      have hok: ∀i,i<j+1→knobOk cells knobs i=true:=fun i hi=>by
       obtain rfl:i=0:=by omega
       subst hj0;rw[knobOk_zero Hq.out];exact Hone.out
      have Hok:=h_ hok;clear hok hj0
      go_upto_region 12 with(fail)
      refine w_g ?_
      repeat (go_big_quiet_step ((first|(go_at_call 156;exact quiet_ext (contains_c A ca cells _ _ _ _ (hc.ext (EE.grow _))))|(go_at_call 122;exact quiet_ext (step_c d (by omega) _))|(go_at_call 117;exact quiet_ext (plus_c _ _ _ _ _ _ _ Hok1'.out (stepS_ok d))))))
      refine wpQuiet_nil ?_;intro W5 hW5;have E5:Ext W4 W5:=by
       obtain⟨x,rfl⟩:=hW5;exact(Ext.refl _).grow x
      clear hW5;obtain⟨hcW5,hfW5,hzW5⟩:=ext_facts E5
      go_upto_region 14 with(fail)
      refine wp_region_tail 23 (by kernel_rfl) (by kernel_rfl) ?_;simp only[List.take_succ_cons,List.take_zero,List.drop_succ_cons,List.drop_zero]
      repeat (go_big_quiet_step (fail))
      refine wpQuiet_nil ?_;intro W6 hW6;have E6:Ext W5 W6:=by
       obtain⟨x,rfl⟩:=hW6;exact(Ext.refl _).grow x
      clear hW6;obtain⟨hcW6,hfW6,hzW6⟩:=ext_facts E6;go_wp2_with fail;go_roundw
      case rel=>exact⟨j+1,by omega,by go_num,(EE.trans E5).trans E6,((BK.ext E4).ext E5).ext E6,Hok⟩
      case measure=>simp only[intOf];omega
     ·obtain⟨g',off',⟨⟨rx,ry,rz⟩,rdir,rsort⟩,hA',hr,-,hg',p0,p1,p2,p3,-⟩:=(hn.ext EE).at_ (k:=j-1) (by omega);cases hA';simp only at p0 p1 p2 p3;have Hr:=h_ hr;clear hr;have z1:decide ((0:Int)<(j:Int))=true:=by simp;omega
      have z2:decide (0<j)=true:=by simp;omega
      have hkc:(((j-1:Nat):Nat):Int)=(j:Int)-1:=by omega
      have ht:((j:Int)-1).toNat=j-1:=by omega
      have hk1:(1:Int)≤j:=by omega
      have hok:knobOk cells knobs j=Knb.lt ⟨⟨rx,ry,rz⟩,rdir,rsort⟩ ⟨⟨x,y,z⟩,d,sort⟩:=by rw[knobOk_next Hq.out hj0 Hr.out,Hone.out,Bool.true_and]
      have Hok:=h_ hok;clear hok;obtain⟨r,hr⟩:=nm (Knb.lt ⟨⟨rx,ry,rz⟩,rdir,rsort⟩ ⟨⟨x,y,z⟩,d,sort⟩);have ho:=knobLt_or ⟨⟨rx,ry,rz⟩,rdir,rsort⟩ ⟨⟨x,y,z⟩,d,sort⟩;rw[hr] at ho;simp only at ho;have Hr':=h_ hr;clear hr;cases r
      ·have Hb:=h_ (kindErr_bad (k:=⟨cells,knobs,wt⟩) (valid_bad2 (allR_bad hlt (by rw[Hok.out,Hr'.out]))))
       go_upto_region 12 with(fail)
       refine w_g ?_
       repeat (go_big_quiet_step ((first|(go_at_call 156;exact quiet_ext (contains_c A ca cells _ _ _ _ (hc.ext (EE.grow _))))|(go_at_call 122;exact quiet_ext (step_c d (by omega) _))|(go_at_call 117;exact quiet_ext (plus_c _ _ _ _ _ _ _ Hok1'.out (stepS_ok d))))))
       refine wpQuiet_nil ?_;intro W5 hW5;have E5:Ext W4 W5:=by
        obtain⟨x,rfl⟩:=hW5;exact(Ext.refl _).grow x
       clear hW5;obtain⟨hcW5,hfW5,hzW5⟩:=ext_facts E5
       go_upto_region 14 with(fail)
       refine wp_region_tail 23 (by kernel_rfl) (by kernel_rfl) ?_;simp only[List.take_succ_cons,List.take_zero,List.drop_succ_cons,List.drop_zero]
       repeat (go_big_quiet_step ((first|(go_at_call 120;exact quiet_ext (order_c _ _ _ _ _ _ _))|(go_at_call 157;exact quiet_grow_same (cmpU_c _ _ _)))))
       refine wpQuiet_nil ?_;intro W6 hW6;have E6:Ext W5 W6:=by
        obtain⟨x,rfl⟩:=hW6;exact(Ext.refl _).grow x
       clear hW6;obtain⟨hcW6,hfW6,hzW6⟩:=ext_facts E6;go_wp2_with fail;refine(or2_c _ _ _ _).mono ?_;rintro v w4 ⟨rfl,rfl⟩;go_wp2_with fail;go_ret;exact⟨by rw[Hb.out];rfl,((EE.trans E5).trans E6).alloc _⟩
      ·go_upto_region 12 with(fail)
       refine w_g ?_
       repeat (go_big_quiet_step ((first|(go_at_call 156;exact quiet_ext (contains_c A ca cells _ _ _ _ (hc.ext (EE.grow _))))|(go_at_call 122;exact quiet_ext (step_c d (by omega) _))|(go_at_call 117;exact quiet_ext (plus_c _ _ _ _ _ _ _ Hok1'.out (stepS_ok d))))))
       refine wpQuiet_nil ?_;intro W5 hW5;have E5:Ext W4 W5:=by
        obtain⟨x,rfl⟩:=hW5;exact(Ext.refl _).grow x
       clear hW5;obtain⟨hcW5,hfW5,hzW5⟩:=ext_facts E5
       go_upto_region 14 with(fail)
       refine wp_region_tail 23 (by kernel_rfl) (by kernel_rfl) ?_;simp only[List.take_succ_cons,List.take_zero,List.drop_succ_cons,List.drop_zero]
       repeat (go_big_quiet_step ((first|(go_at_call 120;exact quiet_ext (order_c _ _ _ _ _ _ _))|(go_at_call 157;exact quiet_grow_same (cmpU_c _ _ _)))))
       refine wpQuiet_nil ?_;intro W6 hW6;have E6:Ext W5 W6:=by
        obtain⟨x,rfl⟩:=hW6;exact(Ext.refl _).grow x
       clear hW6;obtain⟨hcW6,hfW6,hzW6⟩:=ext_facts E6;go_wp2_with fail;refine(or2_c _ _ _ _).mono ?_;rintro v w4 ⟨rfl,rfl⟩;go_wp2_with fail;go_roundw
       case rel=>exact⟨j+1,by omega,by go_num,((EE.trans E5).trans E6).alloc _,(((BK.ext E4).ext E5).ext E6).alloc _,h_ (fun i hi=>by
        rcases Nat.lt_or_ge i j with h' | h'
        ·exact Hj.out i h'
        ·obtain rfl:i=j:=by omega
         rw[Hok.out,Hr'.out])⟩
       case measure=>simp only[intOf];omega
    ·obtain rfl:knobs.length=j:=by omega
     have Hg:=h_ (kindErr_good (valid_good (k:=⟨cells,knobs,wt⟩) Hs.out Hcells.out (allR_good Hj.out)));go_wp2_with fail;go_ret;exact⟨by rw[Hg.out];rfl,E⟩
end Go.Proofs.YtojolpbpjimfgaaGreatDoor
