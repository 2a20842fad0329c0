/- Texts of the proof: Rested, Stand. -/
import Derived.Test.YtojolpbpjimfgaaGreatDoorZy22
import Derived.Test.YtojolpbpjimfgaaGreatDoorZy24
import Derived.Test.YtojolpbpjimfgaaGreatDoorZy31
import Derived.Test.YtojolpbpjimfgaaGreatDoorZy32
set_option maxHeartbeats 16000000
set_option maxRecDepth 100000
namespace Go.Proofs.YtojolpbpjimfgaaGreatDoor
open Go.RowKit
theorem infoBoolR:(Tryz.prog.info? 4).map (fun i=>(i.zero,i.size,i.bytes))=some (some (.bool false),1,1):=by kernel_rfl
structure Rs12(W0:World)(v0:Value)(U T5 gj n cj j:Nat)(lz:Int)(xs:List Value)(L:Nat→Bool)(us:Nat→Value)(w:World):Prop where
 x:Ext W0 w
 g1:L 16=false→us 16=v0
 g2:L 15=false→w.ownsRow U 4 1 v0 j xs
 g3:L 14=true→L 15=false→Blk w (bk (us 14)) 4 #[.bool true]
 f0:L 0=true→us 0=v0
 f1:L 1=true→us 1 = .slice (some ⟨gj,0,none⟩) n cj
 f2:L 2=true→us 2 = .pointer (some ⟨gj,0,none⟩)
 f3:L 3=true→us 3 = .pointer (some ⟨gj,2,none⟩)
 f4:L 4=true→us 4 = .int .i64 lz
 f5:L 5=true→us 5 = .pointer (some ⟨T5,0,none⟩)
 f6:L 6=true→us 6 = .int .i64 lz
 f7:L 7=true→us 7 = .bool true
 f8:L 8=true→us 8 = .bool true
 f9:L 9=true→us 9=undef
 f10:L 10=true→us 10=undef
 f11:L 11=true→us 11=undef
 f12:L 12=true→us 12=undef
 f13:L 13=true→us 13 = .bool true
 f14:L 14=true→us 14 = .slice (some ⟨bk (us 14),0,none⟩) 1 1
 f15:L 15=true→w.ownsRow U 4 1 (us 15) (j+1) (xs ++ [.bool true])
 f16:L 16=true→us 16=us 15
def RestedPost(qs:List (Knd×KAt))(QA:Option Addr)(qc:Nat)(bs:List Brk)(B:Option Addr)(cb:Nat)(tab:Int)(hands:List Int)(w:World)(e:Ending)(w':World):Prop :=
 (restErr (qs.map (·.1)) bs tab hands=0∧RestPost qs QA qc bs B cb tab hands w e w')∨(restErr (qs.map (·.1)) bs tab hands=30∧e = .returned (.tuple #[.pointer none,.slice none 0 0,.int .i64 30])∧Ext w w')
theorem tab_facts(tab:Int):(2000<max tab (wrap64 (-tab))∧tabOk tab=false)∨(max tab (wrap64 (-tab))≤2000∧((tabOk tab=true ∧ -2000≤tab)∨(tabOk tab=false∧tab < -2000))):=by
 by_cases h:tabOk tab=true
 ·have h':=inB_iff.1 h;have hw:wrap64 (-tab) = -tab:=IntWalk.wrap64_in _ (by omega);refine Or.inr ⟨?_,Or.inl ⟨h,h'.1⟩⟩;rw[hw];omega
 ·rw[Bool.not_eq_true] at h;have h':=inB_not.1 h;by_cases hm:2000<max tab (wrap64 (-tab))
  ·exact Or.inl ⟨hm,h⟩
  ·exact Or.inr ⟨by omega,Or.inr ⟨h,by omega⟩⟩
theorem rested_bad(qs:List (Knd×KAt))(QA:Option Addr)(qc:Nat)(bs:List Brk)(B:Option Addr)(cb:Nat)(tab:Int)(HA:Option Addr)(hc:Nat)(hands:List Int)(w:World)(hk:Kinds w QA qc qs)(hb:Bricks w B cb bs)(r:Int)(hr:checkErr (qs.map (·.1)) bs=r)(h0:r≠0) :
  Calls Tryz.prog 61 #[.slice QA qs.length qc,.agg #[.slice B bs.length cb],.agg #[.int .i64 tab,.slice HA hands.length hc]] w fun e w'=>e = .returned (.tuple #[.pointer none,.slice none 0 0,.int .i64 r])∧Ext w w':=by
 obtain⟨W1,hW1,E1,B1,hz1⟩:=mk_ w #[.slice B bs.length cb] 25;obtain⟨W2,hW2,E2,B2,hz2⟩:=mk_ W1 #[.int .i64 tab,.slice HA hands.length hc] 28;have E:=E1.trans E2;have b1:=(B1.ext E2).cell;have BU:=build_bad qs QA qc bs B cb W2 (hk.ext E) (hb.ext E) r hr h0;have h1:(r != 0)=true:=by simpa using h0
 clear hz1 hz2 hk hb hr h0;go_enter Tryz.func61,Tryz.ntmps61;go_wp2_with fail;refine BU.mono ?_;rintro e W3 ⟨rfl,E3⟩;go_wp2_with fail;refine bodyPost_ret (v:= .tuple #[.pointer none,.slice none 0 0,.int .i64 r]) (by simp[results,Tryz.results61,go_sem]) rfl ⟨rfl,E.trans E3⟩
theorem rested_good(qs:List (Knd×KAt))(QA:Option Addr)(qc:Nat)(bs:List Brk)(B:Option Addr)(cb:Nat)(tab:Int)(HA:Option Addr)(hc:Nat)(hands:List Int)(w:World)(hk:Kinds w QA qc qs)(hb:Bricks w B cb bs)(hh:IntsZ w HA hc hands)(hcm:checkErr (qs.map (·.1)) bs=0) :
  Calls Tryz.prog 61 #[.slice QA qs.length qc,.agg #[.slice B bs.length cb],.agg #[.int .i64 tab,.slice HA hands.length hc]] w (RestedPost qs QA qc bs B cb tab hands w):=by
 have hnb:=(fit_of hk hb.2 hcm).n;obtain⟨W1,hW1,E1,B1,hz1⟩:=mk_ w #[.slice B bs.length cb] 25;obtain⟨W2,hW2,E2,B2,hz2⟩:=mk_ W1 #[.int .i64 tab,.slice HA hands.length hc] 28;have E:=E1.trans E2;have b1:=(B1.ext E2).cell;have BU:=build_ok qs QA qc bs B cb W2 (hk.ext E) (hb.ext E) hcm;have CH:=h_ (fun(W:World) (E':Ext w W)=>chosen_c HA hc hands (bs.length:Int) W (hh.ext E'));have CN:=h_ (fun(W:World) (E':Ext w W) (i:Nat)=>contZ_c HA hc hands (i:Int) W (hh.ext E'));have htf:=tab_facts tab;have HE:=h_ E;have HB1:=h_ (B1.ext E2);have HB2:=h_ B2;obtain⟨ch,hch⟩:=nm (chosenB hands bs.length);have Hch:=h_ hch;rw[hch] at CH;have Hcm:=h_ hcm;have Hcl:=h_ (fun(j:Nat) (hj:j<bs.length)=>clen_pos hk hb.2 (check_model hcm) hj);obtain⟨i9,hi9,hz9,hz91,hz92⟩:=info_parts infoBoolR;clear hz1 hz2 hk hb hh hcm E E1 E2 B1 hch;rcases htf with⟨htb,ht⟩|⟨htb,htf⟩
 ·have Hbad:=h_ (show(tabOk tab&&chosenB hands bs.length)=false by rw[ht,Bool.false_and]);clear ht;go_enter Tryz.func61,Tryz.ntmps61;go_wp2_with fail;clear b1 hW1 hW2;refine BU.mono ?_;rintro e W3 ⟨X,CA,cc,M,JA,jc,gs,cp,mm,rfl,hX,BT,E3⟩;have b1:=(HB1.out.ext E3).cell;have b2:=(HB2.out.ext E3).cell;go_wp2_with fail;refine bodyPost_ret (v:= .tuple #[.pointer none,.slice none 0 0,.int .i64 30]) (by simp[results,Tryz.results61,go_sem]) rfl ?_;exact Or.inr ⟨restErr_arg Hcm.out Hbad.out,rfl,HE.out.trans E3⟩
 rcases htf with⟨ht,htl⟩|⟨ht,htl⟩;rotate_left
 ·have Hbad:=h_ (show(tabOk tab&&chosenB hands bs.length)=false by rw[ht,Bool.false_and]);clear ht;go_enter Tryz.func61,Tryz.ntmps61;go_wp2_with fail;clear b1 hW1 hW2;refine BU.mono ?_;rintro e W3 ⟨X,CA,cc,M,JA,jc,gs,cp,mm,rfl,hX,BT,E3⟩;have b1:=(HB1.out.ext E3).cell;have b2:=(HB2.out.ext E3).cell;go_wp2_with fail;refine bodyPost_ret (v:= .tuple #[.pointer none,.slice none 0 0,.int .i64 30]) (by simp[results,Tryz.results61,go_sem]) rfl ?_;exact Or.inr ⟨restErr_arg Hcm.out Hbad.out,rfl,HE.out.trans E3⟩
 cases ch
 ·have Hbad:=h_ (show(tabOk tab&&chosenB hands bs.length)=false by rw[Hch.out,Bool.and_false]);clear ht;go_enter Tryz.func61,Tryz.ntmps61;go_wp2_with fail;clear b1 hW1 hW2;refine BU.mono ?_;rintro e W3 ⟨X,CA,cc,M,JA,jc,gs,cp,mm,rfl,hX,BT,E3⟩;have b1:=(HB1.out.ext E3).cell;have b2:=(HB2.out.ext E3).cell;go_wp2_with fail;refine(CH.out _ (HE.out.trans E3)).mono ?_;rintro e W4 ⟨rfl,E4⟩;go_wp2_with fail;refine bodyPost_ret (v:= .tuple #[.pointer none,.slice none 0 0,.int .i64 30]) (by simp[results,Tryz.results61,go_sem]) rfl ?_;exact Or.inr ⟨restErr_arg Hcm.out Hbad.out,rfl,HE.out.trans (E3.trans E4)⟩
 have Hgood:=h_ (show(tabOk tab&&chosenB hands bs.length)=true by rw[Hch.out,ht];rfl);clear ht;go_enter Tryz.func61,Tryz.ntmps61;go_wp2_with fail;clear b1 hW1 hW2;refine BU.mono ?_;rintro e W3 ⟨X,CA,cc,M,JA,jc,gs,cp,mm,rfl,hX,BT,E3⟩;have b1:=(HB1.out.ext E3).cell;have b2:=(HB2.out.ext E3).cell;go_wp2_with fail;refine(CH.out _ (HE.out.trans E3)).mono ?_;rintro e W4 ⟨rfl,E4⟩;clear b1 b2 CH;have BT4:=BT.ext E4;have bx:=BT4.x.cell;have b2:=((HB2.out.ext E3).ext E4).cell;go_wp2_with fail;clear bx b2 htb htl;have E24:=E3.trans E4;have HBT:=h_ BT4;have HE4:=h_ E24;have HX:=h_ hX;obtain⟨U,hU⟩:=nm W4.heap.size;have HU:=h_ hU;have HB24:=h_ (HB2.out.ext E24);clear hU E3 E4 E24 BT BT4 hX;go_loopw [11,49] (fun v ii wr=> ∃(j:Nat) (u:Value),j≤bs.length∧ii = .int .i64 j∧u=v∧Ext W4 wr∧Hid (∀i,i<j→tab≤lowZ (qs.map (·.1)) bs i)∧wr.ownsRow U 4 1 u j ((grdL (qs.map (·.1)) bs tab hands j).map Value.bool)) (fun _ ii _=>bs.length-(intOf ii).toNat)
 case atStart=>exact⟨0,_,by omega,rfl,rfl,Ext.refl W4,h_ (fun i hi=>by omega),World.ownsRow_nil _ _ _ _⟩
 case round =>
  obtain⟨j,v,hj,rfl,rfl,Er,Hlow,own⟩:=hrel;by_cases hlt:j<bs.length
  ·obtain⟨rg,roff,hCA⟩:=HBT.out.addr (by omega);have c0:=(HBT.out.ext Er).row hlt hCA;subst hCA;obtain⟨n0,n24⟩:=Hcl.out j hlt;obtain⟨-,-,z0⟩:=(HBT.out.ext Er).r.cell hlt n0;have Hz:=h_ (show(ptAt (bcells (qs.map (·.1)) (brkAt bs j)) 0).z=lowZ (qs.map (·.1)) bs j from rfl);rw[Hz.out,Nat.zero_mul,Nat.zero_add] at z0;obtain⟨lz,hlz⟩:=nm (lowZ (qs.map (·.1)) bs j);rw[hlz] at z0;have Hlz:=h_ hlz;obtain⟨n,hn⟩:=nm (clen (qs.map (·.1)) bs j);rw[hn] at c0 n0 n24;obtain⟨cj,hcj⟩:=nm (cp j);rw[hcj] at c0;obtain⟨gj,hgj⟩:=nm (gs j);rw[hgj] at c0 z0;have b2:=(HB24.out.ext Er).cell;have j0:(0:Int)≤j:=by omega
   have j1:(j:Int)<bs.length:=by omega
   have n1:(0:Int)<n:=by omega
   have Hn:=h_ hn;have Hcj:=h_ hcj;have Hgj:=h_ hgj;clear hn hcj hgj hlz;by_cases hl:tab≤lz;rotate_left
   ·have hl2:lz<tab:=by omega
    have hl3:decide (lz<tab)=true:=by simp;omega
    have Hbad:=h_ (restErr_low Hcm.out Hgood.out hlt (by rw[Hlz.out];exact hl))
    go_upto_region 10 with(fail)
    refine w_g ?_
    repeat (go_big_quiet_step (fail))
    refine wpQuiet_nil ?_;intro W7 hW7;have E7:Ext wr W7:=by
     obtain⟨x,rfl⟩:=hW7;exact(Ext.refl _).grow x
    clear hW7;obtain⟨hcW7,hfW7,hzW7⟩:=ext_facts E7;clear hcW7 hfW7 hzW7;go_wp2_with fail;refine bodyPost_ret (v:= .tuple #[.pointer none,.slice none 0 0,.int .i64 30]) (by simp[results,Tryz.results61,go_sem]) rfl ?_;exact Or.inr ⟨Hbad.out,rfl,HE.out.trans (HE4.out.trans (Er.trans E7))⟩
   ·have hl2: ¬lz<tab:=by omega
    have hl3:decide (lz<tab)=false:=by simp;omega
    go_upto_region 10 with(fail)
    refine w_g ?_
    repeat (go_big_quiet_step (fail))
    refine wpQuiet_nil ?_;intro W7 hW7;have E7:Ext wr W7:=by
     obtain⟨x,rfl⟩:=hW7;exact(Ext.refl _).grow x
    clear hW7;obtain⟨hcW7,hfW7,hzW7⟩:=ext_facts E7;clear hcW7 hfW7 hzW7 c0 z0 b2;have c0:=((HBT.out.ext Er).ext E7).row hlt rfl;obtain⟨-,-,z0⟩:=((HBT.out.ext Er).ext E7).r.cell hlt (Hcl.out j hlt).1;rw[Hz.out,Nat.zero_mul,Nat.zero_add,Hlz.out,Hgj.out] at z0;rw[Hn.out,Hcj.out,Hgj.out] at c0;have b2:=((HB24.out.ext Er).ext E7).cell;have hlX:j+1≤maxLen:=by unfold maxLen;omega
    have hby:(j+1)*1≤140737488355328:=by omega
    have own7:=own_ext own E7;have Hlow2:=h_ (show ∀i,i<j+1→tab≤lowZ (qs.map (·.1)) bs i from fun i hi=>by
     rcases Nat.lt_or_ge i j with h|h
     ·exact Hlow.out i h
     ·obtain rfl:i=j:=by omega
      rw[Hlz.out]
      exact hl)
    have E47:=Er.trans E7;clear own hl hl2 hl3 Er E7;have hUs:U≤W7.heap.size:=by have:=E47.size;have:=HU.out;omega
    obtain⟨e,he⟩:=nm ((lz==tab));have He:=h_ he;cases e
    ·obtain⟨h,hh⟩:=nm (hasZ hands (j:Int));have CNj:=h_ (fun W E=>CN.out W E j);rw[hh] at CNj;have Hh:=h_ hh;have HE7:=h_ (HE.out.trans (HE4.out.trans E47));clear hh
     go_upto_region 12 with(fail)
     go_region_law (first
      | (go_simp;go_at_call 65;refine(CNj.out _ (HE7.out.trans (Ext.refl _).drew)).mono ?_;rintro e w9 ⟨rfl,E9⟩;have own9:=own_ext (own_ext own7 (Ext.refl _).drew) E9;have E49:=(E47.trans (Ext.refl _).drew).trans E9;have hU9:=Nat.le_trans hUs (((Ext.refl W7).drew.trans E9).size))
      | (refine step_append_one #[.bool h] rfl (.tmp 61) (.tmp 75) 114 rfl U 4 4 i9 _ 1 1 Tryz.underlying114 hi9 hz9 hz91 hz92 rfl (by decide) _ _ _ _ rfl own9 rfl rfl (by simp[Value.oneCell']) hlX hby hU9 ?_;intro g10 cap10 w10 own10 hg10))
     all_goals
      go_wp2_with fail;go_roundw
      case rel =>
       refine⟨j+1,_,by omega,by go_num,rfl,(E49.trans ((Ext.refl _).alloc _)).grown hg10 (fun k hk=>by have:=(own9.lt k hk).1;have:=HU.out;omega),Hlow2,?_⟩;rw[grdL_succ,List.map_append];have hgb:grdB (qs.map (·.1)) bs tab hands j=h:=by unfold grdB;rw[Hlz.out,He.out,Hh.out,Bool.false_or]
       rw[hgb];exact own10
      case measure=>simp only[intOf];omega
    ·obtain rfl:lz=tab:=by simpa using he
     clear he
     go_upto_region 12 with(fail)
     clear c0 z0 b2;have HHB:=h_ HB24.out;obtain⟨T5,hT5⟩:=nm W1.heap.size;rw[hT5] at HHB ⊢;refine wp_region_byF (Rs12 W4 v U T5 gj n cj j lz ((grdL (qs.map (·.1)) bs lz hands j).map Value.bool)) (by intro us;simp only[putAll,Act.put,zs,Nat.reduceAdd];rfl) (by kernel_rfl) (by kernel_rfl) (by kernel_rfl) ⟨E47.drew,(fun _=>rfl),(fun _=>own_ext own7 (Ext.refl _).drew),(nofun),(nofun),(nofun),(nofun),(nofun),(nofun),(nofun),(nofun),(nofun),(nofun),(nofun),(nofun),(nofun),(nofun),(nofun),(nofun),(nofun),(nofun)⟩ ⟨?_,?_,?_,?_,?_,?_,?_,?_,?_,?_,?_,?_,?_,?_,?_,?_,?_,trivial⟩ ?_
     all_goals clear own7
     ·intro L us wx K a ha hp hd hun hI hK;have HX:=hI.x;have u16:=hI.g1 (Bool.eq_false_iff.2 fun hl=>absurd (hd 16 0 hl (by kernel_rfl)) (by rw[hun];decide));clear hp HX;replace hd:=h_ hd;simp only[u16] at ha;subst ha;simp only[Act.put,zs] at hK;go_simp;refine hK _ _ ?_;refine {hI with f0:= ?_}<;>(first|exact fun _=>rfl|skip)
     ·intro L us wx K a ha hp hd hun hI hK;have HX:=hI.x;clear hp HX;replace hd:=h_ hd;subst ha;simp only[Act.put,zs] at hK;go_simp;refine hK _ _ ?_;refine {hI with f1:= ?_}<;>(first|exact fun _=>rfl|skip)
     ·intro L us wx K a ha hp hd hun hI hK;have HX:=hI.x;have u1:=hI.f1 (hp 1 (by kernel_rfl));clear hp HX;replace hd:=h_ hd;simp only[u1] at ha;subst ha;simp only[Act.put,zs] at hK;go_simp;refine hK _ _ ?_;refine {hI with f2:= ?_}<;>(first|exact fun _=>rfl|skip)
     ·intro L us wx K a ha hp hd hun hI hK;have HX:=hI.x;have u2:=hI.f2 (hp 2 (by kernel_rfl));clear hp HX;replace hd:=h_ hd;simp only[u2] at ha;subst ha;simp only[Act.put,zs] at hK;go_simp;refine hK _ _ ?_;refine {hI with f3:= ?_}<;>(first|exact fun _=>rfl|skip)
     ·intro L us wx K a ha hp hd hun hI hK;have HX:=hI.x;have u3:=hI.f3 (hp 3 (by kernel_rfl));have z0:=(HBT.out.ext HX).r.cell hlt (Hcl.out j hlt).1 |>.2.2
      rw[Hz.out,Nat.zero_mul,Nat.zero_add,Hlz.out,Hgj.out] at z0;clear hp HX;replace hd:=h_ hd;simp only[u3] at ha;subst ha;simp only[Act.put,zs] at hK;go_simp;refine hK _ _ ?_;refine {hI with f4:= ?_}<;>(first|exact fun _=>rfl|skip)
     ·intro L us wx K a ha hp hd hun hI hK;have HX:=hI.x;clear hp HX;replace hd:=h_ hd;subst ha;simp only[Act.put,zs] at hK;go_simp;refine hK _ _ ?_;refine {hI with f5:= ?_}<;>(first|exact fun _=>rfl|skip)
     ·intro L us wx K a ha hp hd hun hI hK;have HX:=hI.x;have u5:=hI.f5 (hp 5 (by kernel_rfl));have b2:=(HHB.out.ext HX).cell;clear hp HX;replace hd:=h_ hd;simp only[u5] at ha;subst ha;simp only[Act.put,zs] at hK;go_simp;refine hK _ _ ?_;refine {hI with f6:= ?_}<;>(first|exact fun _=>rfl|skip)
     ·intro L us wx K a ha hp hd hun hI hK;have HX:=hI.x;have u4:=hI.f4 (hp 4 (by kernel_rfl));have u6:=hI.f6 (hp 6 (by kernel_rfl));clear hp HX;replace hd:=h_ hd;simp only[u4,u6] at ha;subst ha;simp only[Act.put,zs] at hK;go_simp;refine hK _ _ ?_;refine {hI with f7:= ?_}<;>(first|exact fun _=>rfl|skip)
     ·intro L us wx K a ha hp hd hun hI hK;have HX:=hI.x;have u7:=hI.f7 (hp 7 (by kernel_rfl));clear hp HX;replace hd:=h_ hd;simp only[u7] at ha;subst ha;simp only[Act.put,zs] at hK;go_simp;refine hK _ _ ?_;refine {hI with f8:= ?_}<;>(first|exact fun _=>rfl|skip)
     ·intro L us wx K a ha hp hd hun hI hK;have HX:=hI.x;have u8:=hI.f8 (hp 8 (by kernel_rfl));clear hp HX;replace hd:=h_ hd;simp only[u8] at ha;subst ha;simp only[Act.put,zs] at hK;go_simp;refine hK _ _ ?_;refine {hI with f9:= ?_}<;>(first|exact fun _=>rfl|skip)
     ·intro L us wx K a ha hp hd hun hI hK;have HX:=hI.x;have u8:=hI.f8 (hp 8 (by kernel_rfl));clear hp HX;replace hd:=h_ hd;simp only[u8] at ha;subst ha;simp only[Act.put,zs] at hK;go_simp;refine hK _ _ ?_;refine {hI with f10:= ?_}<;>(first|exact fun _=>rfl|skip)
     ·intro L us wx K a ha hp hd hun hI hK;have HX:=hI.x;have u8:=hI.f8 (hp 8 (by kernel_rfl));clear hp HX;replace hd:=h_ hd;simp only[u8] at ha;subst ha;simp only[Act.put,zs] at hK;go_simp;refine hK _ _ ?_;refine {hI with f11:= ?_}<;>(first|exact fun _=>rfl|skip)
     ·intro L us wx K a ha hp hd hun hI hK;have HX:=hI.x;have u8:=hI.f8 (hp 8 (by kernel_rfl));clear hp HX;replace hd:=h_ hd;simp only[u8] at ha;subst ha;simp only[Act.put,zs] at hK;go_simp;refine hK _ _ ?_;refine {hI with f12:= ?_}<;>(first|exact fun _=>rfl|skip)
     ·intro L us wx K a ha hp hd hun hI hK;have HX:=hI.x;have u8:=hI.f8 (hp 8 (by kernel_rfl));clear hp HX;replace hd:=h_ hd;simp only[u8] at ha;subst ha;simp only[Act.put,zs] at hK;go_simp;refine hK _ _ ?_;refine {hI with f13:= ?_}<;>(first|exact fun _=>rfl|skip)
     ·intro L us wx K a ha hp hd hun hI hK;have u13:=hI.f13 (hp 13 (by kernel_rfl));have h15:L 15=false:=Bool.eq_false_iff.2 fun hl=>absurd (hd 15 14 hl (by kernel_rfl)) (by rw[hun];decide);have h16:L 16=false:=Bool.eq_false_iff.2 fun hl=>absurd (hd 16 14 hl (by kernel_rfl)) (by rw[hun];decide);replace hd:=h_ hd;dsimp only at ha;rw[u13] at ha;subst ha;simp only[Act.put,zs] at hK;go_simp;refine hK _ _ ⟨hI.x.alloc _,hI.g1,(fun h=>own_ext (hI.g2 h) ((Ext.refl _).alloc _)),(fun _ _=>Blk.new _ _ _),hI.f0,hI.f1,hI.f2,hI.f3,hI.f4,hI.f5,hI.f6,hI.f7,hI.f8,hI.f9,hI.f10,hI.f11,hI.f12,hI.f13,(fun _=>rfl),(fun h=>absurd (show L 15=true from h) (by rw[h15];decide)),(fun h=>absurd (show L 16=true from h) (by rw[h16];decide))⟩
     ·intro L us wx K a ha hp hd hun hI hK;have u0:=hI.f0 (hp 0 (by kernel_rfl));have h14:=hp 14 (by kernel_rfl);have u14:=hI.f14 h14;have own:=hI.g2 hun;have hb:=hI.g3 h14 hun;obtain⟨gq,hgq⟩:=nm (bk (us 14));rw[hgq] at u14 hb;clear hgq;have hbc:=hb.cell;have h16:L 16=false:=Bool.eq_false_iff.2 fun hl=>absurd (hd 16 15 hl (by kernel_rfl)) (by rw[hun];decide);have hUx:U≤wx.heap.size:=by have:=hI.x.size;have:=HU.out;omega
      replace hd:=h_ hd;dsimp only at ha;rw[u0,u14] at ha;subst ha;simp only[Act.put,zs] at hK;refine step_append_new rfl (.tmp 61) (.tmp 75) 114 rfl U 4 i9 _ 1 1 Tryz.underlying114 hi9 hz9 hz91 hz92 rfl (by decide) v j _ rfl own gq 1 1 [.bool true] rfl rfl (fun k=>by rw[hbc];rcases k with _|_ <;> rfl) (by simp[Value.oneCell']) hlX hby hUx ?_;intro v' w' own' hg;exact hK _ _ ⟨hI.x.grown hg (fun k hk=>by have:=(own.lt k hk).1;have:=HU.out;omega),hI.g1,(fun h=>nomatch (show true=false from h)),(fun _ h=>nomatch (show true=false from h)),hI.f0,hI.f1,hI.f2,hI.f3,hI.f4,hI.f5,hI.f6,hI.f7,hI.f8,hI.f9,hI.f10,hI.f11,hI.f12,hI.f13,hI.f14,(fun _=>own'),(fun h=>absurd (show L 16=true from h) (by rw[h16];decide))⟩
     ·intro L us wx K a ha hp hd hun hI hK;have h15:=hp 15 (by kernel_rfl);replace hd:=h_ hd;subst ha;simp only[Act.put,zs] at hK;go_simp;exact hK _ _ ⟨hI.x,(fun h=>nomatch (show true=false from h)),hI.g2,hI.g3,hI.f0,hI.f1,hI.f2,hI.f3,hI.f4,hI.f5,hI.f6,hI.f7,hI.f8,hI.f9,hI.f10,hI.f11,hI.f12,hI.f13,hI.f14,hI.f15,(fun _=>rfl)⟩
     intro L us wx hall hI;have own10:=hI.f15 (hall 15 (by simp));have e16:=hI.f16 (hall 16 (by simp));have EX:=hI.x;obtain⟨v2,hv2⟩:=nm (us 15);rw[hv2] at own10 e16;rw[e16];clear hall hI e16 hv2;go_wp2_with fail;go_roundw
     case rel =>
      refine⟨u6,u7,u8,v2,.int .i64 j,.slice (some ⟨gj,0,none⟩) n cj,.int .i64 ((j:Int)+1),⟨j+1,by omega,by go_num,Hlow2,?_⟩,rfl,rfl,rfl,rfl,rfl,rfl,rfl⟩;rw[grdL_succ,List.map_append];have hgb:grdB (qs.map (·.1)) bs lz hands j=true:=by unfold grdB;rw[Hlz.out,He.out,Bool.true_or]
      rw[hgb];exact own10
     case measure=>simp only[intOf];omega
  ·obtain rfl:j=bs.length:=by omega
   obtain⟨GA,gc,rfl,hG,-⟩:=bools_own (grdL_len _ _ _ _ _) own;have Hok:=h_ (restErr_ok Hcm.out Hgood.out Hlow.out);have HG:=h_ hG;clear hG own;go_wp2_with fail;refine bodyPost_ret (v:= .tuple #[.pointer (some ⟨X,0,none⟩),.slice GA bs.length gc,.int .i64 0]) (by simp[results,Tryz.results61,go_sem]) rfl ?_;exact Or.inl ⟨Hok.out,X,CA,cc,M,JA,jc,gs,cp,mm,GA,gc,rfl,Nat.le_trans HE.out.size HX.out,HBT.out.ext Er,HG.out,HE.out.trans (HE4.out.trans Er)⟩
def RestAll(qs:List (Knd×KAt))(QA:Option Addr)(qc:Nat)(bs:List Brk)(B:Option Addr)(cb:Nat)(tab:Int)(hands:List Int)(w:World)(e:Ending)(w':World):Prop :=
 (restErr (qs.map (·.1)) bs tab hands=0∧RestPost qs QA qc bs B cb tab hands w e w')∨(restErr (qs.map (·.1)) bs tab hands≠0∧e = .returned (.tuple #[.pointer none,.slice none 0 0,.int .i64 (restErr (qs.map (·.1)) bs tab hands)])∧Ext w w')
theorem rested_c(qs:List (Knd×KAt))(QA:Option Addr)(qc:Nat)(bs:List Brk)(B:Option Addr)(cb:Nat)(tab:Int)(HA:Option Addr)(hc:Nat)(hands:List Int)(w:World)(hk:Kinds w QA qc qs)(hb:Bricks w B cb bs)(hh:IntsZ w HA hc hands) :
  Calls Tryz.prog 61 #[.slice QA qs.length qc,.agg #[.slice B bs.length cb],.agg #[.int .i64 tab,.slice HA hands.length hc]] w (RestAll qs QA qc bs B cb tab hands w):=by
 by_cases h0:checkErr (qs.map (·.1)) bs=0
 ·refine(rested_good qs QA qc bs B cb tab HA hc hands w hk hb hh h0).mono ?_;rintro e w' (⟨h1,h2⟩|⟨h1,h2,E⟩)
  ·exact Or.inl ⟨h1,h2⟩
  ·exact Or.inr ⟨by rw[h1];decide,by rw[h1];exact h2,E⟩
 ·refine(rested_bad qs QA qc bs B cb tab HA hc hands w hk hb _ rfl h0).mono ?_;rintro e w' ⟨h2,E⟩;have h1:restErr (qs.map (·.1)) bs tab hands=checkErr (qs.map (·.1)) bs:=restErr_check rfl h0;exact Or.inr ⟨by rw[h1];exact h0,by rw[h1];exact h2,E⟩
theorem checkRest_c(qs:List (Knd×KAt))(QA:Option Addr)(qc:Nat)(bs:List Brk)(B:Option Addr)(cb:Nat)(tab:Int)(HA:Option Addr)(hc:Nat)(hands:List Int)(w:World)(hk:Kinds w QA qc qs)(hb:Bricks w B cb bs)(hh:IntsZ w HA hc hands) :
  Calls Tryz.prog 26 #[.slice QA qs.length qc,.agg #[.slice B bs.length cb],.agg #[.int .i64 tab,.slice HA hands.length hc]] w fun e w'=>e = .returned (.int .i64 (restErr (qs.map (·.1)) bs tab hands))∧Ext w w':=by
 obtain⟨W1,hW1,E1,B1,hz1⟩:=mk_ w #[.slice B bs.length cb] 25;obtain⟨W2,hW2,E2,B2,hz2⟩:=mk_ W1 #[.int .i64 tab,.slice HA hands.length hc] 28;have E:=E1.trans E2;have b1:=(B1.ext E2).cell;have b2:=B2.cell;have RE:=rested_c qs QA qc bs B cb tab HA hc hands W2 (hk.ext E) (hb.ext E) (hh.ext E);clear hz1 hz2 B1 B2 E1 E2;go_enter Tryz.func26,Tryz.ntmps26;go_wp2_with fail;refine RE.mono ?_;rintro e w' (⟨h0,X,CA,cc,M,JA,jc,gs,cp,mm,GA,gc,rfl,hX,BU,BZ,E'⟩|⟨h0,rfl,E'⟩)
 ·have EE:=h_ (E.trans E');have H0:=h_ h0;clear E E' BU BZ hX h0 RE;go_wp2_with fail;refine bodyPost_ret (v:= .int .i64 0) (by simp[results,Tryz.results26,go_sem]) rfl ?_;exact⟨by rw[H0.out],EE.out⟩
 ·have EE:=h_ (E.trans E');obtain⟨r,hr⟩:=nm (restErr (qs.map (·.1)) bs tab hands);have Hr:=h_ hr;rw[hr] at h0;rw[hr];clear E E' RE hr;go_wp2_with fail;refine bodyPost_ret (v:= .int .i64 r) (by simp[results,Tryz.results26,go_sem]) rfl ?_;exact⟨by rw[Hr.out],EE.out⟩
def grdE(ks:List Knd)(bs:List Brk)(tab:Int)(hands:List Int):List Bool:=if restErr ks bs tab hands=0 then grdL ks bs tab hands bs.length else []
def GrdPost(ks:List Knd)(bs:List Brk)(tab:Int)(hands:List Int)(w:World)(e:Ending)(w':World):Prop :=
 ∃GA gc,e = .returned (.tuple #[.slice GA (grdE ks bs tab hands).length gc,.int .i64 (restErr ks bs tab hands)])∧BoolsZ w' GA gc (grdE ks bs tab hands)∧Ext w w'
def pairBad(n:Nat)(i k:Int):Bool:= !(inB 0 ((n:Int)-1) i) || !(inB 0 ((n:Int)-1) k)||i==k
def capErr(ks:List Knd)(bs:List Brk)(i k:Int):Int:=if checkErr ks bs=0 then(if pairBad bs.length i k=true then 2 else 0) else checkErr ks bs
def capR(ks:List Knd)(bs:List Brk)(i k:Int):Int:=if capErr ks bs i k=0 then capV ks bs i.toNat k.toNat else 0
end Go.Proofs.YtojolpbpjimfgaaGreatDoor
