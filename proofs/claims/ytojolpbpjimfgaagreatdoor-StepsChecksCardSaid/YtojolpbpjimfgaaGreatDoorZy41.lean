/- Texts of the proof: PutW. -/
import Derived.Test.YtojolpbpjimfgaaGreatDoorZy31
import Derived.Test.YtojolpbpjimfgaaGreatDoorZy39
set_option maxHeartbeats 16000000
set_option maxRecDepth 100000
namespace Go.Proofs.YtojolpbpjimfgaaGreatDoor
open Go.RowKit
def PutPost(ks:List Knd)(bs:List Brk)(w:World)(e:Ending)(w':World):Prop :=
 ∃U A cap gs f,w.heap.size≤U∧e = .returned (.slice A bs.length cap)∧w'.ownsRow U 26 1 (.slice A bs.length cap) bs.length (plC gs (fun _=>bs.length) bs.length)∧PR w' U gs bs.length f bs.length∧(∀x y,f x y=capV ks bs x y)∧Ext w w'
theorem rPut_c(qs:List (Knd×KAt))(QA:Option Addr)(qc:Nat)(bs:List Brk)(B:Option Addr)(cb:Nat)(w:World)(hk:Kinds w QA qc qs)(hb:Bricks w B cb bs)(hcm:checkErr (qs.map (·.1)) bs=0) :
  Calls Tryz.prog 133 #[.slice QA qs.length qc,.agg #[.slice B bs.length cb]] w (PutPost (qs.map (·.1)) bs w):=by
 have hf:=fit_of hk hb.2 hcm;have hnb:=hf.n;obtain⟨W1,hW1,E1,B1,hz1⟩:=mk_ w #[.slice B bs.length cb] 25;have JO:=rJointed_c qs QA qc bs B cb W1 (hk.ext E1) (hb.ext E1) hcm (by have:=linkL_len hf;omega);have RS:=h_ (fun(W:World) (E:Ext w W) (i k:Nat) (hi:i<bs.length) (hkl:k<bs.length)=>rests_c qs QA qc bs B cb W (hk.ext E) (hb.ext E) hcm i k hi hkl);obtain⟨i8,hi8,hz8,hz81,hz82⟩:=info_parts infoInts;have hmk:=make_nums bs.length (by omega);have HF:=h_ hf;have HP:=h_ (pairs_of hf);have hJl:(jointL (qs.map (·.1)) bs).length≤1920:=Nat.le_trans (pj_len _ _) (linkL_len hf);have HBd:=h_ (fun(j:Jnt) (hj:j∈jointL (qs.map (·.1)) bs)=>show j.a<j.b∧j.b<bs.length∧0≤j.strength∧j.strength≤9600 by
  have hjo:=jntsOk hf rfl;have hlt:=(pairs_of hf).lt j hj;obtain⟨x,hx,hp⟩:=(hjo.k (jPr j)).2 (List.mem_map.2 ⟨j,hj,rfl⟩);have hb:=(mem_linkL.1 hx).b;have h1:=sumL_le (linkL (qs.map (·.1)) bs) (jPr j);have h2:=linkL_len hf;rw[(hjo.s j hj).1] at h1;unfold prOf jPr at hp;rw[Prod.mk.injEq] at hp
  omega)
 have Hall:=h_ (putQ_all hf);obtain⟨ks,hks⟩:=nm (qs.map (·.1));rw[hks] at JO RS HP hJl HBd Hall ⊢;obtain⟨J,hJ⟩:=nm (jointL ks bs);rw[hJ] at JO HP hJl HBd Hall;obtain⟨nj,hnj⟩:=nm J.length;have Hnj:=h_ hnj;obtain⟨nb,hbn⟩:=nm bs.length;rw[hbn] at hnb RS HBd B1 hmk JO hW1;have Hbn:=h_ hbn;have b1:=B1.cell;have HB1:=h_ B1;rw[hnj] at hJl;unfold PutPost;rw[hbn];clear hz1 hk hb hcm hf hks hJ hnj hbn;go_enter Tryz.func133,Tryz.ntmps133;go_wp2_with fail;clear hW1;refine JO.mono ?_;rintro e W3 ⟨JA,jc,rfl,hJs,E3⟩;rw[Hnj.out];have HJs:=h_ hJs;obtain⟨U,hU⟩:=nm W3.heap.size;have HU:=h_ hU;clear hU;have HE3:=h_ (E1.trans E3);have HB13:=h_ (HB1.out.ext E3);clear b1 JO E3 E1 hJs B1;go_wp2_with fail;go_loopw [6,7] (fun v ii wr=> ∃(j:Nat) (u:Value) (gs:Nat→Nat),j≤nb∧ii = .int .i64 j∧v=u∧Ext W3 wr∧wr.ownsRow U 26 1 u j (plC gs (fun _=>nb) j)∧PR wr U gs nb (putR ks bs) j) (fun _ ii _=>nb-(intOf ii).toNat)
 case atStart=>exact⟨0,_,fun _=>0,by omega,rfl,rfl,Ext.refl _,World.ownsRow_nil _ _ _ _,PR.zero⟩
 case round =>
  obtain⟨j,v,gs,hj,rfl,rfl,Er,own,hPR⟩:=hrel;have b1:=(HB13.out.ext Er).cell;by_cases hlt:j<nb
  ·obtain⟨W5,hW5⟩:=nm (wr.alloc (.cells (zeroA nb) 3));have E5:Ext wr W5:=hW5▸(Ext.refl wr).alloc _;have N5:NumX W5 wr.heap.size (rowL nb (putR ks bs j) 0):=by
    rw[rowL_zero,←hW5];exact num_zero (Blk.new _ _ _)
   have hmk1:=hmk wr;rw[hW5] at hmk1;obtain⟨g,hg⟩:=nm wr.heap.size;rw[hg] at N5 hmk1;have Hg:=h_ hg;have hUg:U≤g:=by have:=HE3.out.size;have:=Er.size;have:=HU.out;omega
   have Hown:=h_ own;have HPR:=h_ hPR;have HUg:=h_ hUg;have HEr:=h_ Er;clear hg own hPR hUg Er;go_wp2_with fail;rw[Hg.out];clear hmk1 b1 hW5;go_loopw [9] (fun ii wr'=> ∃t:Nat,t≤nb∧ii = .int .i64 t∧Ext wr wr'∧NumX wr' g (rowL nb (putR ks bs j) t)) (fun ii _=>nb-(intOf ii).toNat)
   case atStart=>exact⟨0,by omega,rfl,E5,N5⟩
   case round =>
    clear E5 N5;obtain⟨t,ht,rfl,Et,Nt⟩:=hrel;have b1:=((HB13.out.ext HEr.out).ext Et).cell;by_cases htt:t<nb
    ·have t0:(0:Int)≤t:=by omega
     have t1:(t:Int)<nb:=by omega
     have RT:=RS.out _ (HE3.out.trans (HEr.out.trans Et)) j t hlt htt;by_cases hjt:t=j
     ·subst hjt;have hz:putR ks bs t t=0:=by unfold putR;simp
      have hne:((t:Int) != (t:Int))=false:=by simp
      have Nt2:=Nt;rw[←rowL_keep hz] at Nt2;clear RT Nt;go_wp2_with fail;go_roundw
      case rel=>exact⟨t+1,by omega,by go_num,Et,Nt2⟩
      case measure=>simp only[intOf];omega
     ·have hne:((t:Int) != (j:Int))=true:=by simp;omega
      obtain⟨r,hr⟩:=nm (restsOn ks bs j t);rw[hr] at RT;have hv:putR ks bs j t=if r=true then 1073741824 else 0:=by
       unfold putR;rw[hr,show decide (t≠j)=true by simp;omega,Bool.true_and]
      go_wp2_with fail;clear b1;refine RT.mono ?_;rintro e W6 ⟨rfl,E6⟩;have Et6:=Et.trans E6;have Nt6:=Nt.ext E6;clear E6 Et Nt hr;cases r
      ·have Nt2:NumX W6 g (rowL nb (putR ks bs j) (t+1)):=by rw[rowL_keep (by rw[hv];rfl)];exact Nt6
       clear Nt6 hv;go_wp2_with fail;go_roundw
       case rel=>exact⟨t+1,by omega,by go_num,Et6,Nt2⟩
       case measure=>simp only[intOf];omega
      ·have fr:=Nt6.frozen;have hv2:putR ks bs j t=1073741824:=by rw[hv];rfl
       have Nt2:=Nt6.set_ (i:=t) (by rw[rowL_len];exact htt) 1073741824;have hs:(rowL nb (putR ks bs j) t).set t 1073741824=rowL nb (putR ks bs j) (t+1):=by rw[←hv2];exact rowL_set
       rw[hs] at Nt2;have EV:=Et6.setCell (p:=⟨g,t,none⟩) (Nat.le_of_eq Hg.out) (.int .i64 1073741824);obtain⟨V,hV⟩:=nm (W6.setCell ⟨g,t,none⟩ (.int .i64 1073741824));rw[hV] at Nt2 EV;have c0:=Nt6.cell (List.getElem?_eq_getElem (show t<(rowL nb (putR ks bs j) t).length by rw[rowL_len];exact htt));clear Nt6 hv hv2 hs Et6;go_wp2_with fail;go_roundw
       case rel=>exact⟨t+1,by omega,by go_num,EV,Nt2⟩
       case measure=>simp only[intOf];omega
    ·obtain rfl:nb=t:=by omega
     rw[rowL_all] at Nt;have own5:=own_ext Hown.out Et;have hU5:=Nat.le_trans HUg.out (Nat.le_of_lt Nt.lt);have PR5:=(HPR.out.ext Et).add HUg.out Nt (fun i hi=>by
      have:=(HPR.out.r i hi).lt;have:=Hg.out
      omega)
     have Er5:=HEr.out.trans Et;have hjl:j+1≤maxLen:=by unfold maxLen;omega
     have hpl:plC (updF gs j g) (fun _=>nb) (j+1)=plC gs (fun _=>nb) j ++ [.slice (some ⟨g,0,none⟩) nb nb]:=by rw[plC_succ,plC_upd (fun i hi=>updF_ne _ _ (by omega)),updF_at]
     clear Nt Et;go_wp2_with (at_builtin;refine wpList_append_one #[.slice (some ⟨g,0,none⟩) nb nb] rfl (.tmp 47) (.tmp 49) 185 rfl U 26 26 i8 _ 1 24 Tryz.underlying185 hi8 hz8 hz81 hz82 rfl (by decide) _ j _ _ rfl own5 rfl rfl (by simp[Value.oneCell']) hjl (by omega) hU5 ?_;intro g7 cap7 w7 own7 hg7);go_roundw
     case rel =>
      refine⟨j+1,_,updF gs j g,by omega,by go_num,rfl,(Er5.alloc _).grown hg7 (fun k hk=>by have:=(own5.lt k hk).1;have:=HU.out;have:=HE3.out.size;omega),?_,?_⟩
      ·rw[hpl];exact own7
      ·exact(PR5.ext ((Ext.refl _).alloc _)).grown (own_ext own5 ((Ext.refl _).alloc _)) hg7 (by decide)
     case measure=>simp only[intOf];omega
  ·obtain rfl:nb=j:=by omega
   obtain⟨PA,pc,rfl⟩:=ownForm own;rw[←putQ_zero (J:=J)] at hPR;go_wp2_with fail;clear b1;go_loopw [10] (fun ii wr=> ∃q:Nat,q≤nj∧ii = .int .i64 q∧Ext W3 wr∧wr.ownsRow U 26 1 (.slice PA nb pc) nb (plC gs (fun _=>nb) nb)∧PR wr U gs nb (putQ ks bs J q) nb) (fun ii _=>nj-(intOf ii).toNat)
   case atStart=>exact⟨0,by omega,rfl,Er,own,hPR⟩
   case round =>
    clear Er own hPR;obtain⟨q,hq,rfl,Er,own,hPR⟩:=hrel;by_cases hqt:q<nj
    ·obtain⟨jg,joff,hJA⟩: ∃g off,JA=some ⟨g,off,none⟩:=by
      obtain⟨g,off,hA,-,-⟩:=SliceIs.cells HJs.out (by rw[Hnj.out];omega);exact⟨g,off,hA⟩
     obtain⟨c0,c1,c2,c3,c4⟩:=jnts_cell (HJs.out.ext Er) (k:=q) (by rw[Hnj.out];exact hqt) hJA;have hget:=jntGet_get (l:=J) (i:=q) (by rw[Hnj.out];exact hqt);have hbd:=HBd.out _ (List.mem_of_getElem? hget);have hsu:=putQ_succ (ks:=ks) (bs:=bs) HP.out hget;subst hJA;obtain⟨⟨ja,jb,st,ax,sl⟩,hj⟩:=nm (jntGet J q);rw[hj] at c0 c1 c2 c3 c4 hbd hsu;simp only at c0 c1 c2 c3 c4 hbd hsu;have Hsu:=h_ hsu;obtain⟨hab,hb1,hs0,hs1⟩:=hbd;have q0:(0:Int)≤q:=by omega
     have q1:(q:Int)<nj:=by omega
     have a0:(0:Int)≤ja:=by omega
     have a1:(ja:Int)<nb:=by omega
     have b0:(0:Int)≤jb:=by omega
     have b1:(jb:Int)<nb:=by omega
     have a2:ja<nb:=by omega
     have b2:jb<nb:=by omega
     have Hw:=h_ (show IntKind.i64.wrap (10*st)=10*st from IntWalk.i64_in _ (by omega));have Hst:=h_ (fun(W:World) (E:Ext wr W)=>E.cell c2);have HstV:=h_ (fun(W:World) (E:Ext W3 W)=>show W.cell? ⟨jg,joff+q*5+2,none⟩=some (.int .i64 st) by
      have:=(jnts_cell (HJs.out.ext E) (k:=q) (by rw[Hnj.out];exact hqt) rfl).2.2.1;rw[hj] at this
      exact this)
     clear hget hsu hj hab
     go_upto_region 16 with(fail)
     refine w_g ?_
     repeat (go_big_quiet_step (fail))
     refine wpQuiet_nil ?_;intro W5 hW5;have E5:Ext wr W5:=by
      obtain⟨x,rfl⟩:=hW5;exact(Ext.refl _).grow x
     clear hW5;obtain⟨hcW5,hfW5,hzW5⟩:=ext_facts E5;clear hcW5 hfW5 hzW5;have own5:=own_ext own E5;have PR5:=hPR.ext E5;have Ex5:=Er.trans E5;have HJ5:=h_ (HJs.out.ext Ex5);obtain⟨PG,rfl,cA,-⟩:=ownAt own5 (t:=ja) a2 (plC_at a2);obtain⟨PG',hPG',cB,-⟩:=ownAt own5 (t:=jb) b2 (plC_at b2);cases hPG';obtain⟨f1,hf1⟩:=nm (putQ ks bs J q);rw[hf1] at PR5 Hsu;obtain⟨ga,hga⟩:=nm (gs ja);obtain⟨gb,hgb⟩:=nm (gs jb);rw[hga] at cA;rw[hgb] at cB;have Hga:=h_ hga;have Hgb:=h_ hgb;have HE5:=h_ E5;clear own hPR Er E5 c0 c1 c2 c3 c4 hf1 hga hgb;have cV:=PR5.cell a2 b2;rw[Hga.out] at cV;have HcB:=h_ cB;have HcA:=h_ cA;by_cases hp1:f1 ja jb=0
     ·rw[hp1] at cV;have c2:=Hst.out _ HE5.out
      go_upto_region 18 with(fail)
      refine wp_region_tail 12 (by kernel_rfl) (by kernel_rfl) ?_;simp only[List.take_succ_cons,List.take_zero,List.drop_succ_cons,List.drop_zero]
      repeat (go_big_quiet_step (fail))
      refine wpQuiet_nil ?_;intro W6 hW6;have E6:Ext W5 W6:=by
       obtain⟨x,rfl⟩:=hW6;exact(Ext.refl _).grow x
      clear hW6;obtain⟨hcW6,hfW6,hzW6⟩:=ext_facts E6;clear hcW6 hfW6 hzW6 c2 cV cA cB;have PR6:=PR5.ext E6;have fr:=(PR6.r ja a2).frozen;rw[Hga.out] at fr;have PRV:=PR6.set_ a2 b2 (10*st);rw[Hga.out] at PRV;have ownV:=own_store (own_ext own5 E6) (PR6.r ja a2) (by decide) jb (.int .i64 (10*st));rw[Hga.out] at ownV;have EV:=(Ex5.trans E6).setCell (p:=⟨ga,jb,none⟩) (by have:=PR6.lo ja a2;rw[Hga.out] at this;have:=HU.out;show W3.heap.size≤ga;omega) (.int .i64 (10*st));obtain⟨V,hV⟩:=nm (W6.setCell ⟨ga,jb,none⟩ (.int .i64 (10*st)));rw[hV] at PRV ownV EV;have cVV:=PR6.cell a2 b2;rw[Hga.out] at cVV;clear own5 PR5 Ex5 PR6 E6
      go_upto_region 19 with(fail)
      clear fr cVV hV;obtain⟨f2,hf2⟩:=nm (put1 f1 ja jb (10*st));have hP2:PR V U gs nb f2 nb:=by
       rw[←hf2];unfold put1;rw[if_pos hp1];exact PRV
      rw[hf2] at Hsu;have own9:=ownV;have E99:=EV;clear hf2 PRV;obtain⟨Pa,hPa,cA,-⟩:=ownAt own9 (t:=ja) a2 (plC_at a2);cases hPa;obtain⟨Pb,hPb,cB,-⟩:=ownAt own9 (t:=jb) b2 (plC_at b2);cases hPb;rw[Hga.out] at cA;rw[Hgb.out] at cB;have cV:=hP2.cell b2 a2;rw[Hgb.out] at cV;by_cases hp2:f2 jb ja=0
      ·rw[hp2] at cV;have c2:=HstV.out _ EV
       go_upto_region 20 with(fail)
       refine wp_region_tail 12 (by kernel_rfl) (by kernel_rfl) ?_;simp only[List.take_succ_cons,List.take_zero,List.drop_succ_cons,List.drop_zero]
       repeat (go_big_quiet_step (fail))
       refine wpQuiet_nil ?_;intro W9 hW9;have E9:Ext V W9:=by
        obtain⟨x,rfl⟩:=hW9;exact(Ext.refl _).grow x
       clear hW9;obtain⟨hcW9,hfW9,hzW9⟩:=ext_facts E9;clear hcW9 hfW9 hzW9 c2 cV cA cB;have PR9:=hP2.ext E9;have fr:=(PR9.r jb b2).frozen;rw[Hgb.out] at fr;have PRV2:=PR9.set_ b2 a2 (10*st);have hup:upd f2 jb ja (10*st)=putQ ks bs J (q+1):=by
        rw[←Hsu.out];exact(if_pos hp2).symm
       rw[Hgb.out,hup] at PRV2;have ownV2:=own_store (own_ext own9 E9) (PR9.r jb b2) (by decide) ja (.int .i64 (10*st));rw[Hgb.out] at ownV2;have EV2:=(E99.trans E9).setCell (p:=⟨gb,ja,none⟩) (by have:=PR9.lo jb b2;rw[Hgb.out] at this;have:=HU.out;show W3.heap.size≤gb;omega) (.int .i64 (10*st));obtain⟨V2,hV2⟩:=nm (W9.setCell ⟨gb,ja,none⟩ (.int .i64 (10*st)));rw[hV2] at PRV2 ownV2 EV2;have cVV2:=PR9.cell b2 a2;rw[Hgb.out] at cVV2;clear own9 E99 PR9 E9 hP2 hup;go_wp2_with fail;go_roundw
       case rel=>exact⟨q+1,by omega,by go_num,EV2,ownV2,PRV2⟩
       case measure=>simp only[intOf];omega
      ·obtain⟨v2,hv2⟩:=nm (f2 jb ja);rw[hv2] at cV;have hq2:(v2==0)=false:=by rw[←hv2];simpa using hp2
       have hup:f2=putQ ks bs J (q+1):=by
        rw[←Hsu.out];exact(if_neg hp2).symm
       rw[hup] at hP2;clear hv2 hup hp2;go_wp2_with fail;go_roundw
       case rel=>exact⟨q+1,by omega,by go_num,E99,own9,hP2⟩
       case measure=>simp only[intOf];omega
     ·obtain⟨v1,hv1⟩:=nm (f1 ja jb);rw[hv1] at cV;have hq1:(v1==0)=false:=by rw[←hv1];simpa using hp1
      go_upto_region 19 with(fail)
      clear cV cA cB;obtain⟨f2,hf2⟩:=nm (put1 f1 ja jb (10*st));have hP2:PR W5 U gs nb f2 nb:=by
       rw[←hf2];unfold put1;rw[if_neg hp1];exact PR5
      rw[hf2] at Hsu;have own9:=own5;have E99:=Ex5;clear hf2 PR5;obtain⟨Pa,hPa,cA,-⟩:=ownAt own9 (t:=ja) a2 (plC_at a2);cases hPa;obtain⟨Pb,hPb,cB,-⟩:=ownAt own9 (t:=jb) b2 (plC_at b2);cases hPb;rw[Hga.out] at cA;rw[Hgb.out] at cB;have cV:=hP2.cell b2 a2;rw[Hgb.out] at cV;by_cases hp2:f2 jb ja=0
      ·rw[hp2] at cV;have c2:=Hst.out _ HE5.out
       go_upto_region 20 with(fail)
       refine wp_region_tail 12 (by kernel_rfl) (by kernel_rfl) ?_;simp only[List.take_succ_cons,List.take_zero,List.drop_succ_cons,List.drop_zero]
       repeat (go_big_quiet_step (fail))
       refine wpQuiet_nil ?_;intro W9 hW9;have E9:Ext W5 W9:=by
        obtain⟨x,rfl⟩:=hW9;exact(Ext.refl _).grow x
       clear hW9;obtain⟨hcW9,hfW9,hzW9⟩:=ext_facts E9;clear hcW9 hfW9 hzW9 c2 cV cA cB;have PR9:=hP2.ext E9;have fr:=(PR9.r jb b2).frozen;rw[Hgb.out] at fr;have PRV2:=PR9.set_ b2 a2 (10*st);have hup:upd f2 jb ja (10*st)=putQ ks bs J (q+1):=by
        rw[←Hsu.out];exact(if_pos hp2).symm
       rw[Hgb.out,hup] at PRV2;have ownV2:=own_store (own_ext own9 E9) (PR9.r jb b2) (by decide) ja (.int .i64 (10*st));rw[Hgb.out] at ownV2;have EV2:=(E99.trans E9).setCell (p:=⟨gb,ja,none⟩) (by have:=PR9.lo jb b2;rw[Hgb.out] at this;have:=HU.out;show W3.heap.size≤gb;omega) (.int .i64 (10*st));obtain⟨V2,hV2⟩:=nm (W9.setCell ⟨gb,ja,none⟩ (.int .i64 (10*st)));rw[hV2] at PRV2 ownV2 EV2;have cVV2:=PR9.cell b2 a2;rw[Hgb.out] at cVV2;clear own9 E99 PR9 E9 hP2 hup;go_wp2_with fail;go_roundw
       case rel=>exact⟨q+1,by omega,by go_num,EV2,ownV2,PRV2⟩
       case measure=>simp only[intOf];omega
      ·obtain⟨v2,hv2⟩:=nm (f2 jb ja);rw[hv2] at cV;have hq2:(v2==0)=false:=by rw[←hv2];simpa using hp2
       have hup:f2=putQ ks bs J (q+1):=by
        rw[←Hsu.out];exact(if_neg hp2).symm
       rw[hup] at hP2;clear hv2 hup hp2;go_wp2_with fail;go_roundw
       case rel=>exact⟨q+1,by omega,by go_num,E99,own9,hP2⟩
       case measure=>simp only[intOf];omega
    ·obtain rfl:nj=q:=by omega
     have HR:=h_ (HE3.out.trans Er);have HO:=h_ own;have HPR:=h_ hPR;clear Er own hPR;go_wp2_with fail;refine bodyPost_ret (v:= .slice PA nb pc) (by simp[results,Tryz.results133,go_sem]) rfl ⟨U,PA,pc,gs,_,by have:=HE3.out.size;have:=HU.out;omega,rfl,HO.out,HPR.out,fun x y=>by rw[←Hnj.out];exact Hall.out x y,HR.out⟩
end Go.Proofs.YtojolpbpjimfgaaGreatDoor
