/- Texts of the proof: RJointed, PutS. -/
import Derived.Test.YtojolpbpjimfgaaGreatDoorZy17
import Derived.Test.YtojolpbpjimfgaaGreatDoorZy21
import Derived.Test.YtojolpbpjimfgaaGreatDoorZy36
import Derived.Test.YtojolpbpjimfgaaGreatDoorZy38
set_option maxHeartbeats 16000000
set_option maxRecDepth 100000
namespace Go.Proofs.YtojolpbpjimfgaaGreatDoor
open Go.RowKit
def JntPost(l:List Jnt)(w:World)(e:Ending)(w':World):Prop:= ∃A cap,e = .returned (.slice A l.length cap)∧Jnts w' A cap l∧Ext w w'
theorem filter_snoc{L:List Lnk}{p:Lnk→Bool}{k:Nat}{y:Lnk}(h:L[k]? = some y):(L.take (k+1)).filter p=(L.take k).filter p++if p y then [y] else []:=by
 rw[List.take_add_one,h,List.filter_append];cases hp:p y <;> simp[hp]
theorem rJointed_c(qs:List (Knd×KAt))(QA:Option Addr)(qc:Nat)(bs:List Brk)(B:Option Addr)(cb:Nat)(w:World)(hk:Kinds w QA qc qs)(hb:Bricks w B cb bs)(hcm:checkErr (qs.map (·.1)) bs=0)(hlen:(linkL (qs.map (·.1)) bs).length≤100000) :
  Calls Tryz.prog 153 #[.slice QA qs.length qc,.agg #[.slice B bs.length cb]] w (JntPost (jointL (qs.map (·.1)) bs) w):=by
 obtain⟨W1,hW1,E1,B1,hz1⟩:=mk_ w #[.slice B bs.length cb] 25;have b1:=B1.cell;have LK:=rLinked_c qs QA qc bs B cb W1 (hk.ext E1) (hb.ext E1) hcm;have JN:=h_ (fun(W:World) (E:Ext w W) (l:List Lnk) (A:Option Addr) (cap:Nat) (h1:OfPair (qs.map (·.1)) bs l) (h2:Links W A cap l) (h3:l.length≤100000)=>rJoined_c qs QA qc bs B cb l A cap W (hk.ext E) (hb.ext E) hcm h1 h2 h3);unfold jointL;obtain⟨ks,hks⟩:=nm (qs.map (·.1));rw[hks] at LK JN hlen ⊢;have hpj:=fun i=>pj_len (ks:=ks) (bs:=bs) (linkL ks bs) i;have hfi:=fun(i:Nat) (hi:i<(linkL ks bs).length)=>ofPair_filter (ks:=ks) (bs:=bs) (lnkAt_mem (l:=linkL ks bs) hi);obtain⟨L,hL⟩:=nm (linkL ks bs);rw[hL] at LK hpj hfi hlen ⊢;have HPJ:=h_ hpj;have HFI:=h_ hfi;obtain⟨nq,hnq⟩:=nm qs.length;obtain⟨nb,hnb⟩:=nm bs.length;obtain⟨n,hn⟩:=nm L.length;rw[hnq] at LK JN ⊢;rw[hnb] at LK JN B1 b1 hW1 ⊢;rw[hn] at hlen hfi ⊢;have Hn:=h_ hn;obtain⟨T,hT⟩:=nm w.heap.size;rw[hT] at B1;have HT:=h_ hT;have HZ1:=h_ (show W1.heap.size=T+1 by omega);have HE:=h_ E1;clear hks hL hnq hnb hn hk hb hcm hz1 hT hpj hfi;go_enter Tryz.func153,Tryz.ntmps153;go_wp2_with fail;clear hW1 b1;refine LK.mono ?_;rintro e W2 ⟨LA,lc,rfl,hLL,E2⟩;rw[Hn.out,HT.out];have E02:=HE.out.trans E2;have B12:=B1.ext E2;have hTW:T+1≤W2.heap.size:=by have:=E2.size;have:=HZ1.out;omega
 have HTW:=h_ hTW;obtain⟨i0,hi0,hz0,hz1,hz2⟩:=info_parts infoJnt;obtain⟨i8,hi8,hz8,hz81,hz82⟩:=info_parts infoLnk;clear hTW;go_wp2_with fail;go_loopw [6,7] (fun v ii wr=> ∃(i:Nat) (u:Value),i≤n∧ii = .int .i64 i∧u=v∧Ext W2 wr∧wr.ownsRow W2.heap.size 242 5 u (pj ks bs L i).length ((pj ks bs L i).map Jnt.cs).flatten) (fun _ ii _=>n-(intOf ii).toNat)
 case atStart=>exact⟨0,_,by omega,rfl,rfl,Ext.refl W2,World.ownsRow_nil _ _ _ _⟩
 case round =>
  obtain⟨i,v,hi,rfl,rfl,Er,own⟩:=hrel;have hpl:=HPJ.out i;by_cases hit:i<n
  ·obtain⟨lg,loff,hLA⟩: ∃g off,LA=some ⟨g,off,none⟩:=by
    obtain⟨g,off,hA,-,-⟩:=SliceIs.cells hLL (by rw[Hn.out];omega);exact⟨g,off,hA⟩
   subst hLA;have HLc:=h_ (fun W (E:Ext W2 W) k (hk:k<n)=>links_cell (hLL.ext E) (k:=k) (by rw[Hn.out];exact hk) rfl);obtain⟨c0,c1,c2,c3,c4⟩:=HLc.out wr Er i hit;obtain⟨⟨xa,xb,xk,xo,xs⟩,hx⟩:=nm (lnkAt L i);rw[hx] at c0 c1 c2 c3 c4;simp only at c0 c1 c2 c3 c4;have Hx:=h_ hx;have Hsc:=h_ (pj_succ (ks:=ks) (bs:=bs) L i);have k0:(0:Int)≤i:=by omega
   have k1:(i:Int)<n:=by omega
   have HOP:=h_ (HFI.out i (by rw[Hn.out];exact hit));rw[hx] at HOP;have Hown:=h_ own;clear hx;have HJA:=h_ (show jntAt ks bs L i=if 0<i∧sameP (lnkAt L (i-1)) ⟨xa,xb,xk,xo,xs⟩=true then none else some (joinJ ks bs (L.filter (sameP ⟨xa,xb,xk,xo,xs⟩))) by unfold jntAt;rw[Hx.out]);by_cases h0:i=0
   case' pos =>
    have Hsome:=h_ (HJA.out.trans (if_neg (by omega)));have z1:decide ((0:Int)<(i:Int))=false:=by simp;omega
    have z2:decide (0<i)=false:=by simp;omega
    clear h0
   case' neg =>
    have z1:decide ((0:Int)<(i:Int))=true:=by simp;omega
    have z2:(0:Int)<i:=by omega
    have z3:decide (0<i)=true:=by simp;omega
    obtain⟨d0,d1,d2,d3,d4⟩:=HLc.out wr Er (i-1) (by omega);obtain⟨⟨ya,yb,yk,yo,ys⟩,hy⟩:=nm (lnkAt L (i-1));rw[hy] at d0 d1 d2 d3 d4 HJA;simp only at d0 d1 d2 d3 d4;have hkc:(((i-1:Nat):Nat):Int)=(i:Int)-1:=by omega
    have ht:((i:Int)-1).toNat=i-1:=by omega
    have hk1:(1:Int)≤i:=by omega
    have hi1:0<i:=by omega
    clear hy h0;by_cases ha:xa=ya
    case' neg =>
     have g1:decide ((xa:Int)=ya)=false:=by simp;omega
     have g2:((xa:Int)==ya)=false:=by simp;omega
     have Hsome:=h_ (HJA.out.trans (if_neg (by rw[sameP_iff];simp only;omega)));clear ha
    case' pos =>
     have g1:decide ((xa:Int)=ya)=true:=by simp;omega
     have g2:((xa:Int)==ya)=true:=by simp;omega
     by_cases hb:xb=yb
     ·have g3:decide ((xb:Int)=yb)=true:=by simp;omega
      have g4:((xb:Int)==yb)=true:=by simp;omega
      have Hnone:=h_ (HJA.out.trans (if_pos (by rw[sameP_iff];exact⟨hi1,ha,hb⟩)));clear ha hb
      go_upto_region 6 with(fail)
      refine w_g ?_
      repeat (go_big_quiet_step (fail))
      refine wpQuiet_nil ?_;intro W6 hW6;have E6:Ext wr W6:=by
       obtain⟨x,rfl⟩:=hW6;exact(Ext.refl _).grow x
      clear hW6;obtain⟨hcW6,hfW6,hzW6⟩:=ext_facts E6;clear hcW6 hfW6 hzW6;have Er6:=Er.trans E6;have own6:=own_ext Hown.out E6;go_wp2_with fail;go_roundw
      case rel=>exact⟨i+1,v,by omega,by go_num,rfl,Er6,by rw[Hsc.out,Hnone.out,Option.toList_none,List.append_nil];exact own6⟩
      case measure=>simp only[intOf];omega
     have g3:decide ((xb:Int)=yb)=false:=by simp;omega
     have g4:((xb:Int)==yb)=false:=by simp;omega
     have Hsome:=h_ (HJA.out.trans (if_neg (by rw[sameP_iff];simp only;omega)));clear ha hb
   all_goals
    go_upto_region 6 with(fail)
    refine w_g ?_
    repeat (go_big_quiet_step (fail))
    refine wpQuiet_nil ?_;intro W6 hW6;have E6:Ext wr W6:=by
     obtain⟨x,rfl⟩:=hW6;exact(Ext.refl _).grow x
    clear hW6;obtain⟨hcW6,hfW6,hzW6⟩:=ext_facts E6;clear hcW6 hfW6 hzW6 c0 c1 c2 c3 c4;have Er6:=Er.trans E6;have Hown6:=h_ (own_ext Hown.out E6);clear own Hown Er E6;go_wp2_with fail;go_loopw [8,9] (fun v8 ii wr'=> ∃(k:Nat) (u:Value),k≤n∧ii = .int .i64 k∧u=v8∧Ext W2 wr'∧wr'.ownsRow W2.heap.size 242 5 v (pj ks bs L i).length ((pj ks bs L i).map Jnt.cs).flatten∧wr'.ownsRow W2.heap.size 135 5 u ((L.take k).filter (sameP ⟨xa,xb,xk,xo,xs⟩)).length (((L.take k).filter (sameP ⟨xa,xb,xk,xo,xs⟩)).map Lnk.cs).flatten) (fun _ ii _=>n-(intOf ii).toNat)
    case atStart=>exact⟨0,_,by omega,rfl,rfl,Er6,Hown6.out,World.ownsRow_nil _ _ _ _⟩
    case round =>
     clear Hown6 Er6;obtain⟨k,u,hk,rfl,rfl,Er,own,ownL⟩:=hrel;by_cases hkt:k<n
     ·obtain⟨c0,c1,c2,c3,c4⟩:=HLc.out wr Er i hit;obtain⟨d0,d1,d2,d3,d4⟩:=HLc.out wr Er k hkt;rw[Hx.out] at c0 c1 c2 c3 c4;simp only at c0 c1 c2 c3 c4;have Hfs:=h_ (filter_snoc (p:=sameP ⟨xa,xb,xk,xo,xs⟩) (lnkAt_get (l:=L) (k:=k) (by rw[Hn.out];exact hkt)));obtain⟨⟨ya,yb,yk,yo,ys⟩,hy⟩:=nm (lnkAt L k);rw[hy] at d0 d1 d2 d3 d4 Hfs;simp only at d0 d1 d2 d3 d4;have hfl:((L.take k).filter (sameP ⟨xa,xb,xk,xo,xs⟩)).length≤k:=Nat.le_trans (List.length_filter_le _ _) (by rw[List.length_take];omega);obtain⟨F,hF⟩:=nm ((L.take k).filter (sameP ⟨xa,xb,xk,xo,xs⟩));rw[hF] at ownL hfl Hfs;have q0:(0:Int)≤k:=by omega
      have q1:(k:Int)<n:=by omega
      have j0:(0:Int)≤i:=by omega
      have j1:(i:Int)<n:=by omega
      clear hy hF;by_cases ha:ya=xa;rotate_left
      ·have g1:decide ((ya:Int)=xa)=false:=by simp;omega
       have g2:((ya:Int)==xa)=false:=by simp;omega
       have Hno:=h_ (show sameP ⟨xa,xb,xk,xo,xs⟩ ⟨ya,yb,yk,yo,ys⟩=false by rw[←Bool.not_eq_true,sameP_iff];simp only;omega);clear ha
       go_upto_region 11 with(fail)
       refine w_g ?_
       repeat (go_big_quiet_step (fail))
       refine wpQuiet_nil ?_;intro W8 hW8;have E8:Ext wr W8:=by
        obtain⟨x,rfl⟩:=hW8;exact(Ext.refl _).grow x
       clear hW8;obtain⟨hcW8,hfW8,hzW8⟩:=ext_facts E8;clear hcW8 hfW8 hzW8;have Er8:=Er.trans E8;have own8:=own_ext own E8;have ownL8:=own_ext ownL E8;go_wp2_with fail;go_roundw
       case rel=>exact⟨k+1,_,by omega,by go_num,rfl,Er8,own8,by rw[Hfs.out,Hno.out];simpa using ownL8⟩
       case measure=>simp only[intOf];omega
      have g1:decide ((ya:Int)=xa)=true:=by simp;omega
      have g2:((ya:Int)==xa)=true:=by simp;omega
      by_cases hb:yb=xb;rotate_left
      ·have g3:decide ((yb:Int)=xb)=false:=by simp;omega
       have g4:((yb:Int)==xb)=false:=by simp;omega
       have Hno:=h_ (show sameP ⟨xa,xb,xk,xo,xs⟩ ⟨ya,yb,yk,yo,ys⟩=false by rw[←Bool.not_eq_true,sameP_iff];simp only;omega);clear hb ha
       go_upto_region 11 with(fail)
       refine w_g ?_
       repeat (go_big_quiet_step (fail))
       refine wpQuiet_nil ?_;intro W8 hW8;have E8:Ext wr W8:=by
        obtain⟨x,rfl⟩:=hW8;exact(Ext.refl _).grow x
       clear hW8;obtain⟨hcW8,hfW8,hzW8⟩:=ext_facts E8;clear hcW8 hfW8 hzW8;have Er8:=Er.trans E8;have own8:=own_ext own E8;have ownL8:=own_ext ownL E8;go_wp2_with fail;go_roundw
       case rel=>exact⟨k+1,_,by omega,by go_num,rfl,Er8,own8,by rw[Hfs.out,Hno.out];simpa using ownL8⟩
       case measure=>simp only[intOf];omega
      have g3:decide ((yb:Int)=xb)=true:=by simp;omega
      have g4:((yb:Int)==xb)=true:=by simp;omega
      have Hyes:=h_ (show sameP ⟨xa,xb,xk,xo,xs⟩ ⟨ya,yb,yk,yo,ys⟩=true by rw[sameP_iff];exact⟨ha,hb⟩);clear ha hb
      go_upto_region 11 with(fail)
      refine w_g ?_
      repeat (go_big_quiet_step (fail))
      refine wpQuiet_nil ?_;intro W8 hW8;have E8:Ext wr W8:=by
       obtain⟨x,rfl⟩:=hW8;exact(Ext.refl _).grow x
      clear hW8;obtain⟨hcW8,hfW8,hzW8⟩:=ext_facts E8;clear hcW8 hfW8 hzW8;have Er8:=Er.trans E8;have own8:=own_ext own E8;have ownL8:=own_ext ownL E8;have e0:=E8.cell d0;have e1:=E8.cell d1;have e2:=E8.cell d2;have e3:=E8.cell d3;have e4:=E8.cell d4;clear c0 c1 c2 c3 c4 d0 d1 d2 d3 d4;have hlX:F.length+1≤maxLen:=by unfold maxLen;omega
      have hby:(F.length+1)*40≤140737488355328:=by omega
      have hTx:W2.heap.size≤W8.heap.size:=Er8.size;go_wp2_with (at_builtin;refine wpList_append_one #[.int .i64 ya,.int .i64 yb,.int .i64 yk,.int .i64 yo,.int .u8 ys] rfl (.tmp 79) (.tmp 84) 131 rfl W2.heap.size 135 135 i8 _ 5 40 Tryz.underlying131 hi8 hz8 hz81 hz82 rfl (by decide) _ _ _ _ rfl ownL8 rfl rfl (by simp[Value.oneCell']) hlX hby hTx ?_;intro g7 cap7 w7 own7 hg7);go_roundw
      case rel =>
       have EA:=(Ext.refl W8).alloc (.cells #[.int .i64 ya,.int .i64 yb,.int .i64 yk,.int .i64 yo,.int .u8 ys] 135);have ownA:=own_ext ownL8 EA;have ownP:=own_ext own8 EA;refine⟨k+1,_,by omega,by go_num,rfl,(Er8.alloc _).grown hg7 (fun r hr=>(ownA.lt r hr).1),ownGrown ownP hg7 (ownApart ownP ownA (by decide)),?_⟩;rw[Hfs.out,Hyes.out,if_pos rfl,List.length_append,List.map_append,List.flatten_append];exact own7
      case measure=>simp only[intOf];omega
     ·obtain rfl:k=n:=by omega
      rw[show L.take k=L from by rw[←Hn.out,List.take_length]] at ownL;have hfl:(L.filter (sameP ⟨xa,xb,xk,xo,xs⟩)).length≤100000:=Nat.le_trans (List.length_filter_le _ _) (by rw[Hn.out];exact hlen);have HOP':=HOP.out;obtain⟨F,hF⟩:=nm (L.filter (sameP ⟨xa,xb,xk,xo,xs⟩));rw[hF] at ownL hfl HOP' Hsome;obtain⟨FA,fc,rfl,hS,-⟩:=own_slice0 (lnk_wide _) (by rw[List.length_map]) ownL;have JC:=JN.out wr (E02.trans Er) F FA fc HOP' hS hfl;obtain⟨⟨ja,jb,jst,jax,jsl⟩,hJ⟩:=nm (joinJ ks bs F);rw[hJ] at JC Hsome;simp only at JC;obtain⟨P,hP⟩:=nm (pj ks bs L i);rw[hP] at own hpl Hsc;have b3:=(B12.ext Er).cell;clear hF HOP' hJ hP hS ownL;go_wp2_with fail;refine JC.mono ?_;rintro e W9 ⟨rfl,E9⟩;have own9:=own_ext own E9;have Er9:=Er.trans E9;have hlX:P.length+1≤maxLen:=by unfold maxLen;omega
      have hby:(P.length+1)*32≤140737488355328:=by omega
      have hTx:W2.heap.size≤W9.heap.size:=Er9.size;clear b3 JC;go_wp2_with (at_builtin;refine wpList_append_one #[.int .i64 ja,.int .i64 jb,.int .i64 jst,.int .u8 jax,.bool jsl] rfl (.tmp 86) (.tmp 91) 170 rfl W2.heap.size 242 242 i0 _ 5 32 Tryz.underlying170 hi0 hz0 hz1 hz2 rfl (by decide) _ _ _ _ rfl own9 rfl rfl (by simp[Value.oneCell']) hlX hby hTx ?_;intro g7 cap7 w7 own7 hg7);go_roundw
      case rel =>
       have EA:=(Ext.refl W9).alloc (.cells #[.int .i64 ja,.int .i64 jb,.int .i64 jst,.int .u8 jax,.bool jsl] 242);have ownA:=own_ext own9 EA;refine⟨i+1,_,by omega,by go_num,rfl,(Er9.alloc _).grown hg7 (fun r hr=>(ownA.lt r hr).1),?_⟩;rw[Hsc.out,Hsome.out,Option.toList_some,List.length_append,List.map_append,List.flatten_append];exact own7
      case measure=>simp only[intOf];omega
  ·obtain rfl:i=n:=by omega
   go_wp2_with fail;go_ret;obtain⟨RA,rc,rfl,h1,-⟩:=own_slice0 (rows:=(pj ks bs L i).map Jnt.cs) (jnt_wide _) (by rw[List.length_map]) own;exact⟨RA,rc,rfl,h1,E02.trans Er⟩
def putR(ks:List Knd)(bs:List Brk)(x y:Nat):Int:=if(decide (y≠x)&&restsOn ks bs x y)=true then 1073741824 else 0
def putQ(ks:List Knd)(bs:List Brk)(J:List Jnt)(q x y:Nat):Int:=if putR ks bs x y=0 then capJ J q x y else putR ks bs x y
def put1(f:Nat→Nat→Int)(a b:Nat)(v:Int):Nat→Nat→Int:=if f a b=0 then upd f a b v else f
section
variable {ks:List Knd} {bs:List Brk} {J:List Jnt}
theorem putQ_zero:putQ ks bs J 0=putR ks bs:=by
 funext x y;unfold putQ;rw[capJ_zero]
 split
 ·rename_i h;exact h.symm
 ·rfl
theorem capJ_fresh(hJ:Pairs J){q:Nat}{j:Jnt}(h:J[q]? = some j){x y:Nat}(hp:PJ x y j=true):capJ J q x y=0:=by
 have hjm:=List.mem_of_getElem? h;have hjl:=hJ.lt j hjm;have:(J.take q).find? (PJ x y)=none:=by
  rw[List.find?_eq_none];intro i hi hpi;obtain⟨n,hn,rfl⟩:=List.getElem_of_mem hi;rw[List.length_take] at hn;rw[List.getElem_take] at hpi;have hq:q<J.length:=(List.getElem?_eq_some_iff.1 h).1;have hjq:J[q]=j:=(List.getElem?_eq_some_iff.1 h).2;have hlt:=List.pairwise_iff_getElem.1 hJ.o n q (by omega) hq (by omega);have hil:=hJ.lt _ (List.getElem_mem (show n<J.length by omega));rw[hjq] at hlt;unfold PJ at hp hpi;rw[decide_eq_true_eq] at hp hpi;unfold ltPr jPr at hlt;simp only at hlt;omega
 unfold capJ;rw[this];rfl
def overF(r c:Nat→Nat→Int):Nat→Nat→Int:=fun x y=>if r x y=0 then c x y else r x y
theorem put1_at(f:Nat→Nat→Int)(a b:Nat)(v:Int)(x y:Nat):put1 f a b v x y=if f a b=0∧x=a∧y=b then v else f x y:=by
 unfold put1;by_cases h:f a b=0
 ·rw[if_pos h];unfold upd;by_cases hxy:x=a∧y=b
  ·rw[if_pos hxy,if_pos ⟨h,hxy.1,hxy.2⟩]
  ·rw[if_neg hxy,if_neg (fun e=>hxy e.2)]
 ·rw[if_neg h,if_neg (fun e=>h e.1)]
theorem overF_zero{r c:Nat→Nat→Int}{a b:Nat}(h:c a b=0):overF r c a b=0↔r a b=0:=by
 unfold overF;by_cases e:r a b=0
 ·rw[if_pos e];exact⟨fun _=>e,fun _=>h⟩
 ·rw[if_neg e]
theorem over_put{r c:Nat→Nat→Int}{a b:Nat}{v:Int}(hab:a≠b)(h1:c a b=0)(h2:c b a=0):put1 (put1 (overF r c) a b v) b a v=overF r (upd (upd c a b v) b a v):=by
 funext x y;rw[put1_at,put1_at,put1_at];simp only[overF_zero h1];rw[if_neg (show ¬(r a b=0∧b=a∧a=b) from fun e=>hab e.2.2)];simp only[overF_zero h2];by_cases hx:x=b∧y=a
 ·obtain⟨rfl,rfl⟩:=hx;by_cases e:r x y=0
  ·rw[if_pos ⟨e,rfl,rfl⟩];unfold overF upd;rw[if_pos e,if_pos ⟨rfl,rfl⟩]
  ·rw[if_neg (fun z=>e z.1),if_neg (fun z=>hab z.2.2)];unfold overF;rw[if_neg e,if_neg e]
 ·rw[if_neg (fun z=>hx z.2)];by_cases hy:x=a∧y=b
  ·obtain⟨rfl,rfl⟩:=hy;by_cases e:r x y=0
   ·rw[if_pos ⟨e,rfl,rfl⟩];unfold overF upd;rw[if_pos e,if_neg hx,if_pos ⟨rfl,rfl⟩]
   ·rw[if_neg (fun z=>e z.1)];unfold overF;rw[if_neg e,if_neg e]
  ·rw[if_neg (fun z=>hy z.2)];unfold overF upd;rw[if_neg hx,if_neg hy]
theorem putQ_succ(hJ:Pairs J){q:Nat}{j:Jnt}(h:J[q]? = some j):put1 (put1 (putQ ks bs J q) j.a j.b (10*j.strength)) j.b j.a (10*j.strength)=putQ ks bs J (q+1):=by
 have hlt:=hJ.lt j (List.mem_of_getElem? h);have h1:capJ J q j.a j.b=0:=capJ_fresh hJ h (by unfold PJ;rw[decide_eq_true_eq];omega);have h2:capJ J q j.b j.a=0:=capJ_fresh hJ h (by unfold PJ;rw[decide_eq_true_eq];omega);show put1 (put1 (overF (putR ks bs) (capJ J q)) j.a j.b (10*j.strength)) j.b j.a (10*j.strength)=overF (putR ks bs) (capJ J (q+1))
 rw[capJ_succ hJ h];exact over_put (by omega) h1 h2
theorem putQ_all(hf:Fit ks bs)(x y:Nat):putQ ks bs (jointL ks bs) (jointL ks bs).length x y=capV ks bs x y:=by
 unfold putQ putR capV;by_cases hxy:x=y
 ·subst hxy;rw[if_pos rfl];simp only[ne_eq,not_true_eq_false,decide_false,Bool.false_and,Bool.false_eq_true,if_false,if_true];exact capJ_same hf _ _
 ·have hd:decide (y≠x)=true:=by simp;omega
  rw[if_neg hxy,hd,Bool.true_and];cases restsOn ks bs x y
  ·simp only[Bool.false_eq_true,if_false,if_true];exact capJ_all hf x y
  ·rfl
end
def rowL(n:Nat)(f:Nat→Int)(t:Nat):List Int:=(List.range n).map fun y=>if y<t then f y else 0
theorem rowL_len(n:Nat)(f:Nat→Int)(t:Nat):(rowL n f t).length=n:=by simp[rowL]
theorem rowL_zero(n:Nat)(f:Nat→Int):rowL n f 0=List.replicate n 0:=by
 unfold rowL;rw[List.eq_replicate_iff];exact⟨by simp,fun b hb=>by obtain⟨y,-,rfl⟩:=List.mem_map.1 hb;exact if_neg (by omega)⟩
theorem rowL_all(n:Nat)(f:Nat→Int):rowL n f n=(List.range n).map f:=by
 unfold rowL;exact List.map_congr_left fun y hy=>if_pos (List.mem_range.1 hy)
theorem rowL_keep{n t:Nat}{f:Nat→Int}(h:f t=0):rowL n f (t+1)=rowL n f t:=by
 unfold rowL;refine List.map_congr_left fun y _=> ?_;by_cases hy:y=t
 ·subst hy;rw[if_pos (by omega),if_neg (by omega),h]
 ·by_cases h1:y<t
  ·rw[if_pos (by omega),if_pos h1]
  ·rw[if_neg (by omega),if_neg h1]
theorem map_set(n t:Nat)(f:Nat→Int)(v:Int):((List.range n).map f).set t v=(List.range n).map fun y=>if y=t then v else f y:=by
 refine List.ext_getElem? fun k=> ?_;rw[List.getElem?_set,List.length_map,List.length_range,List.getElem?_map,List.getElem?_map];by_cases hk:k<n
 ·rw[List.getElem?_range hk];by_cases e:t=k
  ·subst e;rw[if_pos rfl,if_pos hk];simp
  ·rw[if_neg e];simp only[Option.map_some];rw[if_neg (fun x=>e x.symm)]
 ·rw[List.getElem?_eq_none (l:=List.range n) (by simpa using hk)];by_cases e:t=k
  ·rw[if_pos e,if_neg (by omega)];rfl
  ·rw[if_neg e];rfl
theorem rowL_set{n t:Nat}{f:Nat→Int}:(rowL n f t).set t (f t)=rowL n f (t+1):=by
 unfold rowL;rw[map_set];refine List.map_congr_left fun y _=> ?_;by_cases hy:y=t
 ·subst hy;rw[if_pos rfl,if_pos (by omega)]
 ·rw[if_neg hy];by_cases h1:y<t
  ·rw[if_pos h1,if_pos (by omega)]
  ·rw[if_neg h1,if_neg (by omega)]
theorem NumX.grown{w w':World}{g:Nat}{l:List Int}(h:NumX w g l){b:Nat}{e:TypeId}{sz:Nat}{v:Value}{n:Nat}{xs:List Value}(own:w.ownsRow b e sz v n xs)(hg:w.grownBy w' v.ownBlock)(hne:3≠e):NumX w' g l:=by
 obtain⟨ex,h⟩:=h;exact⟨ex,blkGrown h own hg hne⟩
theorem own_store{w:World}{base:Nat}{e:TypeId}{size:Nat}{v:Value}{n:Nat}{xs:List Value}(h:w.ownsRow base e size v n xs){g:Nat}{l:List Int}(hb:NumX w g l)(ht:3≠e)(o:Nat)(u:Value):(w.setCell ⟨g,o,none⟩ u).ownsRow base e size v n xs :=
 own_only h ((Only.refl (fun r=>r=g) w).setCell (p:=⟨g,o,none⟩) (fun _=>rfl) u) (fun r hr e'=>by
  subst e';obtain⟨cs',h'⟩:=own_typed h hr;obtain⟨ex,hb⟩:=hb
  exact ht (hb.types h'))
structure PR(w:World)(U:Nat)(gs:Nat→Nat)(n:Nat)(f:Nat→Nat→Int)(j:Nat):Prop where
 lo: ∀i,i<j→U≤gs i
 r: ∀i,i<j→NumX w (gs i) ((List.range n).map (f i))
 s: ∀i k,i<j→k<j→gs i=gs k→i=k
section
variable {w w':World} {U n j:Nat} {gs:Nat→Nat} {f:Nat→Nat→Int}
theorem PR.zero:PR w U gs n f 0:=⟨fun _ h=>absurd h (Nat.not_lt_zero _),fun _ h=>absurd h (Nat.not_lt_zero _),fun _ _ h=>absurd h (Nat.not_lt_zero _)⟩
theorem PR.ext(h:PR w U gs n f j)(E:Ext w w'):PR w' U gs n f j:=⟨h.lo,fun i hi=>(h.r i hi).ext E,h.s⟩
theorem PR.grown(h:PR w U gs n f j){b:Nat}{e:TypeId}{sz:Nat}{v:Value}{m:Nat}{xs:List Value}(own:w.ownsRow b e sz v m xs)(hg:w.grownBy w' v.ownBlock)(hne:3≠e):PR w' U gs n f j:=⟨h.lo,fun i hi=>(h.r i hi).grown own hg hne,h.s⟩
theorem PR.add(h:PR w U gs n f j){g:Nat}(hU:U≤g)(hx:NumX w g ((List.range n).map (f j)))(hn: ∀i,i<j→gs i≠g):PR w U (updF gs j g) n f (j+1):=by
 refine⟨fun i hi=> ?_,fun i hi=> ?_,fun i k hi hk he=> ?_⟩
 ·by_cases e:i=j
  ·subst e;rw[updF_at];exact hU
  ·rw[updF_ne _ _ e];exact h.lo i (by omega)
 ·by_cases e:i=j
  ·subst e;rw[updF_at];exact hx
  ·rw[updF_ne _ _ e];exact h.r i (by omega)
 ·by_cases e:i=j
  ·by_cases e2:k=j
   ·rw[e,e2]
   ·subst e;rw[updF_at,updF_ne _ _ e2] at he;exact absurd he.symm (hn k (by omega))
  ·by_cases e2:k=j
   ·subst e2;rw[updF_at,updF_ne _ _ e] at he;exact absurd he (hn i (by omega))
   ·rw[updF_ne _ _ e,updF_ne _ _ e2] at he;exact h.s i k (by omega) (by omega) he
theorem PR.cell(h:PR w U gs n f j){i t:Nat}(hi:i<j)(ht:t<n):w.cell? ⟨gs i,t,none⟩=some (.int .i64 (f i t)) :=
 (h.r i hi).cell (by rw[List.getElem?_map,List.getElem?_range ht];rfl)
theorem PR.set_(h:PR w U gs n f j){i t:Nat}(hi:i<j)(ht:t<n)(v:Int):PR (w.setCell ⟨gs i,t,none⟩ (.int .i64 v)) U gs n (upd f i t v) j:=by
 refine⟨h.lo,fun k hk=> ?_,h.s⟩;by_cases e:k=i
 ·subst e;have:=(h.r k hk).set_ (i:=t) (by simpa using ht) v;rw[map_set] at this;have e:(List.range n).map (upd f k t v k)=(List.range n).map fun y=>if y=t then v else f k y:=by
   refine List.map_congr_left fun y _=> ?_;unfold upd;by_cases hy:y=t
   ·rw[if_pos ⟨rfl,hy⟩,if_pos hy]
   ·rw[if_neg (fun x=>hy x.2),if_neg hy]
  rw[e];exact this
 ·have:=(h.r k hk).far (p:=⟨gs i,t,none⟩) (fun x=>e (h.s k i hk hi x)) (.int .i64 v);have e2:(List.range n).map (upd f i t v k)=(List.range n).map (f k):=by
   refine List.map_congr_left fun y _=> ?_;unfold upd;rw[if_neg (fun x=>e x.1)]
  rw[e2];exact this
end
end Go.Proofs.YtojolpbpjimfgaaGreatDoor
