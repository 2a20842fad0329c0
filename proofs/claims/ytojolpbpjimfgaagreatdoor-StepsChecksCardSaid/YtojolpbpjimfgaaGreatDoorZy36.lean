/- Texts of the proof: RRest, RGrd, RPut. -/
import Derived.Test.YtojolpbpjimfgaaGreatDoorZy9
import Derived.Test.YtojolpbpjimfgaaGreatDoorZy11
import Derived.Test.YtojolpbpjimfgaaGreatDoorZy12
import Derived.Test.YtojolpbpjimfgaaGreatDoorZy24
import Derived.Test.YtojolpbpjimfgaaGreatDoorZy34
set_option maxHeartbeats 16000000
set_option maxRecDepth 100000
namespace Go.Proofs.YtojolpbpjimfgaaGreatDoor
open Go.RowKit
theorem rPlacedAt_c{qs:List (Knd×KAt)}{bs:List Brk}{w:World}{QA:Option Addr}{qc:Nat}(hk:Kinds w QA qc qs)(hb: ∀b∈bs,b.byte)(h0:modelErr (qs.map (·.1)) bs=0){j:Nat}(hj:j<bs.length)(W:World)(E:Ext w W) :
  Calls Tryz.prog 68 #[.slice QA qs.length qc,brkV (brkAt bs j)] W (RCellsPost (bcells (qs.map (·.1)) (brkAt bs j)) (clen (qs.map (·.1)) bs j) W):=by
 obtain⟨i,t,x,y,z,c,k,p,e,ht,hi,hkf,hp,hby,has,hc,-⟩:=brk_parts hk hb h0 hj;have h:=rPlaced_c qs QA qc i k.cells k.knobs k.weight p.A p.ca p.B p.cb hi t x y z c W (hk.ext E) hkf.pos (Nat.le_trans hkf.len (by omega)) hkf.cok ht (hp.ok (by omega));have hl:k.cells.length=clen (qs.map (·.1)) bs j:=by unfold clen;rw[hc,sortP_len,placeP_len]
 rw[hl,←hc] at h;rw[e] at h ⊢;exact h
def LowV(w:World)(v:Value)(o:Nat)(l:List Pt):Prop:=v = .pointer (some ⟨bk v,o,none⟩)∧RowX w (bk v) 124 (l.map Pt.cs)
theorem LowV.ext{w w':World}{v:Value}{o:Nat}{l:List Pt}(h:LowV w v o l)(E:Ext w w'):LowV w' v o l:=⟨h.1,h.2.ext E⟩
theorem row_low{w:World}{g:Nat}{l:List Pt}(h:RowX w g 124 (l.map Pt.cs))(h0:0<l.length):w.cell? ⟨g,2,none⟩=some (.int .i64 (ptAt l 0).z):=by
 have hg:l[0]? = some (l[0]'h0):=List.getElem?_eq_getElem _;have hr:(l.map Pt.cs)[0]? = some (Pt.cs (ptAt l 0)):=by rw[List.getElem?_map,hg,ptAt_eq hg];rfl
 have:=RowX.cell h (pts_wide' l) hr (j:=2) rfl;rwa [Nat.zero_mul,Nat.zero_add] at this
structure Cr9(W0:World)(vQ vb:Value)(T1 T2:Nat)(B:Option Addr)(nb cb j:Nat)(p:Addr)(n:Nat)(L1:List Pt)(lz tab:Int)(L:Nat→Bool)(us:Nat→Value)(w:World):Prop where
 x:Ext W0 w
 f0:L 0=true→us 0=vQ
 f1:L 1=true→us 1 = .pointer (some ⟨T1,0,none⟩)
 f2:L 2=true→us 2 = .slice B nb cb
 f3:L 3=true→us 3 = .int .i64 j
 f4:L 4=true→us 4 = .pointer (some p)
 f5:L 5=true→us 5=vb
 f6:L 6=true→RowV w (us 6) n L1
 f7:L 7=true→LowV w (us 7) 0 L1
 f8:L 8=true→LowV w (us 8) 2 L1
 f9:L 9=true→us 9 = .int .i64 lz
 f10:L 10=true→us 10 = .pointer (some ⟨T2,0,none⟩)
 f11:L 11=true→us 11 = .int .i64 tab
 f12:L 12=true→us 12 = .bool (decide (lz<tab))
structure OgT(W0:World)(vQ vb:Value)(T1 T2:Nat)(B:Option Addr)(nb cb j:Nat)(p:Addr)(n:Nat)(L1:List Pt)(lz tab:Int)(L:Nat→Bool)(us:Nat→Value)(w:World):Prop where
 x:Ext W0 w
 f0:L 0=true→us 0=vQ
 f1:L 1=true→us 1 = .pointer (some ⟨T1,0,none⟩)
 f2:L 2=true→us 2 = .slice B nb cb
 f3:L 3=true→us 3 = .int .i64 j
 f4:L 4=true→us 4 = .pointer (some p)
 f5:L 5=true→us 5=vb
 f6:L 6=true→RowV w (us 6) n L1
 f7:L 7=true→LowV w (us 7) 0 L1
 f8:L 8=true→LowV w (us 8) 2 L1
 f9:L 9=true→us 9 = .int .i64 lz
 f10:L 10=true→us 10 = .pointer (some ⟨T2,0,none⟩)
 f11:L 11=true→us 11 = .int .i64 tab
 f12:L 12=true→us 12 = .bool true
 f13:L 13=true→us 13 = .bool true
 f14:L 14=true→us 14=us 14
 f15:L 15=true→us 15=us 15
 f16:L 16=true→us 16=us 16
 f17:L 17=true→us 17=us 17
 f18:L 18=true→us 18 = .bool true
 f19:L 19=true→us 19 = .bool true
structure OgF(W0:World)(vQ vb:Value)(T1 T2:Nat)(B:Option Addr)(nb cb j:Nat)(p:Addr)(n:Nat)(L1:List Pt)(lz tab:Int)(HA:Option Addr)(hn hc:Nat)(r:Bool)(L:Nat→Bool)(us:Nat→Value)(w:World):Prop where
 x:Ext W0 w
 f0:L 0=true→us 0=vQ
 f1:L 1=true→us 1 = .pointer (some ⟨T1,0,none⟩)
 f2:L 2=true→us 2 = .slice B nb cb
 f3:L 3=true→us 3 = .int .i64 j
 f4:L 4=true→us 4 = .pointer (some p)
 f5:L 5=true→us 5=vb
 f6:L 6=true→RowV w (us 6) n L1
 f7:L 7=true→LowV w (us 7) 0 L1
 f8:L 8=true→LowV w (us 8) 2 L1
 f9:L 9=true→us 9 = .int .i64 lz
 f10:L 10=true→us 10 = .pointer (some ⟨T2,0,none⟩)
 f11:L 11=true→us 11 = .int .i64 tab
 f12:L 12=true→us 12 = .bool false
 f13:L 13=true→us 13 = .bool false
 f14:L 14=true→us 14 = .pointer (some ⟨T2,1,none⟩)
 f15:L 15=true→us 15 = .slice HA hn hc
 f16:L 16=true→us 16 = .int .i64 j
 f17:L 17=true→us 17 = .bool r
 f18:L 18=true→us 18 = .bool r
 f19:L 19=true→us 19 = .bool r
theorem rCheckRest_c(qs:List (Knd×KAt))(QA:Option Addr)(qc:Nat)(bs:List Brk)(B:Option Addr)(cb:Nat)(tab:Int)(HA:Option Addr)(hc:Nat)(hands:List Int)(w:World)(hk:Kinds w QA qc qs)(hb:Bricks w B cb bs)(hh:IntsZ w HA hc hands) :
  Calls Tryz.prog 30 #[.slice QA qs.length qc,.agg #[.slice B bs.length cb],.agg #[.int .i64 tab,.slice HA hands.length hc]] w fun e w'=>e = .returned (.int .i64 (restErr (qs.map (·.1)) bs tab hands))∧Ext w w':=by
 obtain⟨W1,hW1,E1,B1,hz1⟩:=mk_ w #[.slice B bs.length cb] 25;obtain⟨W2,hW2,E2,B2,hz2⟩:=mk_ W1 #[.int .i64 tab,.slice HA hands.length hc] 28;have E:=E1.trans E2;have CK:=rCheck_c qs QA qc bs B cb W2 (hk.ext E) (hb.ext E);obtain⟨T1,hT1⟩:=nm w.heap.size;obtain⟨T2,hT2⟩:=nm W1.heap.size;have HT1:=h_ hT1;have HT2:=h_ hT2;have B1':=B1.ext E2;have b1:=B1'.cell;rw[hT1] at B1';rw[hT2] at B2;have HE0:=h_ E;have HB10:=h_ B1';have HB20:=h_ B2;clear hz1 hz2 B1 B1' B2 E1 E2 E hT1 hT2;by_cases h0:checkErr (qs.map (·.1)) bs=0;rotate_left
 ·obtain⟨r,hr⟩:=nm (checkErr (qs.map (·.1)) bs);have hR:restErr (qs.map (·.1)) bs tab hands=r:=by rw[restErr_check hr (hr▸h0)]
  rw[hr] at CK h0;rw[hR];have h1:(r != 0)=true:=by simpa using h0
  clear hR hr h0;go_enter Tryz.func30,Tryz.ntmps30;go_wp2_with fail;refine CK.mono ?_;rintro e W3 ⟨rfl,E3⟩;go_wp2_with fail;go_wp2_with fail;go_ret;exact⟨rfl,HE0.out.trans E3⟩
 have Hcm:=h_ h0;have hnb:=(fit_of hk hb.2 h0).n;have Hcl:=h_ (fun(j:Nat) (hj:j<bs.length)=>clen_pos hk hb.2 (check_model h0) hj);have HPl:=h_ (fun(j:Nat) (hj:j<bs.length)=>rPlacedAt_c hk hb.2 (check_model h0) hj);have HBr:=h_ hb;have CH:=h_ (fun(W:World) (E':Ext w W)=>rChosen_c HA hc hands (bs.length:Int) W (hh.ext E') (by omega) (by omega));have W3c:=h_ (fun(W:World)=>within3_c tab (-2000) 2000 W);rw[h0] at CK;obtain⟨tb,htb⟩:=nm (tabOk tab);have Htb:=h_ htb;have htb':inB (-2000) 2000 tab=tb:=htb;rw[htb'] at W3c;obtain⟨ch,hch⟩:=nm (chosenB hands bs.length);have Hch:=h_ hch;rw[hch] at CH;clear hk hb hh h0 htb htb' hch;go_enter Tryz.func30,Tryz.ntmps30;go_wp2_with fail;refine CK.mono ?_;rintro e W3 ⟨rfl,E3⟩;rw[HT1.out,HT2.out];have b0:=b1;clear b1;have b1:=(HB10.out.ext E3).cell;have b2:=(HB20.out.ext E3).cell;have HE3:=h_ (HE0.out.trans E3);have HB13:=h_ (HB10.out.ext E3);have HB23:=h_ (HB20.out.ext E3);clear CK hW1 hW2 E3 b0;go_wp2_with fail;refine(W3c.out _).mono ?_;rintro e W4 ⟨rfl,E4⟩;have HE4:=h_ (HE3.out.trans E4);have HB14:=h_ (HB13.out.ext E4);have HB24:=h_ (HB23.out.ext E4);have b1:=HB14.out.cell;have b2:=HB24.out.cell;clear E4;cases tb
 ·have Hbad:=h_ (show(tabOk tab&&chosenB hands bs.length)=false by rw[Htb.out,Bool.false_and]);go_wp2_with fail;refine bodyPost_ret (v:= .int .i64 30) (by simp[results,Tryz.results30,go_sem]) rfl ⟨by rw[restErr_arg Hcm.out Hbad.out],HE4.out⟩
 go_wp2_with fail;refine(CH.out _ HE4.out).mono ?_;rintro e W5 ⟨rfl,E5⟩;have HE5:=h_ (HE4.out.trans E5);have HB15:=h_ (HB14.out.ext E5);have HB25:=h_ (HB24.out.ext E5);clear E5 b1 b2;cases ch
 ·have Hbad:=h_ (show(tabOk tab&&chosenB hands bs.length)=false by rw[Hch.out,Bool.and_false]);go_wp2_with fail;refine bodyPost_ret (v:= .int .i64 30) (by simp[results,Tryz.results30,go_sem]) rfl ⟨by rw[restErr_arg Hcm.out Hbad.out],HE5.out⟩
 have Hgood:=h_ (show(tabOk tab&&chosenB hands bs.length)=true by rw[Htb.out,Hch.out];rfl);go_wp2_with fail;go_loopw [8] (fun ii wr=> ∃j:Nat,j≤bs.length∧ii = .int .i64 j∧Ext W5 wr∧Hid (∀i,i<j→tab≤lowZ (qs.map (·.1)) bs i)) (fun ii _=>bs.length-(intOf ii).toNat)
 case atStart=>exact⟨0,by omega,rfl,Ext.refl _,h_ (fun i hi=>by omega)⟩
 case round =>
  obtain⟨j,hj,rfl,Er,Hlow⟩:=hrel;have b1:=(HB15.out.ext Er).cell;by_cases hlt:j<bs.length
  ·obtain⟨g,off,rfl⟩:=bricks_addr HBr.out (by omega);have HE:=h_ (HE5.out.trans Er);have HB1:=h_ (HB15.out.ext Er);have HB2:=h_ (HB25.out.ext Er);obtain⟨⟨kd,⟨x,y,z⟩,tn,cl⟩,hbk⟩:=nm (brkAt bs j);have HD:=h_ (fun(W:World) (E:Ext wr W)=>bricks_cell (HBr.out.ext (HE.out.trans E)) hlt rfl);rw[hbk] at HD;have HP:=h_ (HPl.out j hlt);obtain⟨hn0,hn24⟩:=Hcl.out j hlt;have Hlz:=h_ (show(ptAt (bcells (qs.map (·.1)) (brkAt bs j)) 0).z=lowZ (qs.map (·.1)) bs j from rfl);have HL:=h_ (show(bcells (qs.map (·.1)) (brkAt bs j)).length=clen (qs.map (·.1)) bs j from rfl);obtain⟨lz,hlz⟩:=nm (lowZ (qs.map (·.1)) bs j);rw[hlz] at Hlz;have Hlz2:=h_ hlz;obtain⟨n,hn⟩:=nm (clen (qs.map (·.1)) bs j);rw[hn] at HL HP hn0;obtain⟨L1,hL1⟩:=nm (bcells (qs.map (·.1)) (brkAt bs j));rw[hL1] at HL HP Hlz;rw[hbk] at HP;unfold brkV at HP;have Hn0:=h_ hn0;have n1:(0:Int)<n:=by omega
   have j0:(0:Int)≤j:=by omega
   have j1:(j:Int)<bs.length:=by omega
   clear hn hL1 hlz hn24 hbk
   go_upto_region 9 with(fail)
   clear b1;refine wp_region_by (Cr9 wr (.slice QA qs.length qc) (.agg #[.int .i64 kd,.int .i64 x,.int .i64 y,.int .i64 z,.int .u8 tn,.int .u8 cl]) T1 T2 (some ⟨g,off,none⟩) bs.length cb j ⟨g,off+j*6,none⟩ n L1 lz tab) (by kernel_rfl) (by kernel_rfl) (by kernel_rfl) (fun us=>⟨(Ext.refl _).drew,(nofun),(nofun),(nofun),(nofun),(nofun),(nofun),(nofun),(nofun),(nofun),(nofun),(nofun),(nofun),(nofun)⟩) ⟨?_,?_,?_,?_,?_,?_,?_,?_,?_,?_,?_,?_,?_,trivial⟩ ?_
   any_goals (intro L us wx K a ha hp hd hun hI hK;replace hp:=h_ hp;replace hd:=h_ hd;simp only[putAll,Act.put,zs,Nat.reduceAdd] at ha;subst ha;simp only[Act.put,zs] at hK)
   ·go_simp;exact hK _ _ {hI with f0:=fun _=>rfl}
   ·go_simp;exact hK _ _ {hI with f1:=fun _=>rfl}
   ·have bb:=(HB1.out.ext hI.x).cell;rw[hI.f1 (h_p hp 1)] at hK ⊢;go_simp;exact hK _ _ {hI with f2:=fun _=>rfl}
   ·go_simp;exact hK _ _ {hI with f3:=fun _=>rfl}
   ·rw[hI.f2 (h_p hp 2),hI.f3 (h_p hp 3)] at hK ⊢;go_simp;exact hK _ _ {hI with f4:=fun _=>rfl}
   ·obtain⟨d0,d1,d2,d3,d4,d5⟩:=HD.out wx hI.x;rw[hI.f4 (h_p hp 4)] at hK ⊢;go_simp;exact hK _ _ {hI with f5:=fun _=>rfl}
   ·have EX:=h_ (HE.out.trans hI.x);rw[hI.f0 (h_p hp 0),hI.f5 (h_p hp 5)] at hK ⊢;go_simp;go_at_call 68;refine(HP.out _ EX.out).mono ?_;rintro e wn ⟨g,cp,hg,rfl,q1,q2,X,En⟩;go_simp;refine hK _ _ ?_;refine {hI with x:=hI.x.trans En,f6:= ?_,f7:= ?_,f8:= ?_}<;>(first|exact fun h=>(hI.f6 h).ext En|exact fun h=>own_ext (hI.f6 h) En|exact fun h=>(hI.f7 h).ext En|exact fun h=>own_ext (hI.f7 h) En|exact fun h=>(hI.f8 h).ext En|exact fun h=>own_ext (hI.f8 h) En|exact fun _=>rfl|skip)
    all_goals exact(by first|exact fun _=>⟨cp,rfl,q1,q2,X⟩)
   ·obtain⟨c1,ua,q1,q2,X⟩:=hI.f6 (h_p hp 6);obtain⟨g1,hg1⟩:=nm (bk (us 6));rw[hg1] at ua X;have q3:(0:Int)<c1:=by omega
    clear hg1 q1 q2;rw[ua] at hK ⊢;go_simp;exact hK _ _ {hI with f7:=fun _=>⟨rfl,X⟩}
   ·obtain⟨ua,X⟩:=hI.f7 (h_p hp 7);obtain⟨g1,hg1⟩:=nm (bk (us 7));rw[hg1] at ua X;clear hg1;rw[ua] at hK ⊢;go_simp;exact hK _ _ {hI with f8:=fun _=>⟨rfl,X⟩}
   ·obtain⟨ua,X⟩:=hI.f8 (h_p hp 8);obtain⟨g1,hg1⟩:=nm (bk (us 8));rw[hg1] at ua X;clear hg1;have cz:=row_low X (by rw[HL.out];exact Hn0.out);rw[Hlz.out] at cz;rw[ua] at hK ⊢;go_simp;exact hK _ _ {hI with f9:=fun _=>rfl}
   ·go_simp;exact hK _ _ {hI with f10:=fun _=>rfl}
   ·have bb:=(HB2.out.ext hI.x).cell;rw[hI.f10 (h_p hp 10)] at hK ⊢;go_simp;exact hK _ _ {hI with f11:=fun _=>rfl}
   ·rw[hI.f9 (h_p hp 9),hI.f11 (h_p hp 11)] at hK ⊢;go_simp;exact hK _ _ {hI with f12:=fun _=>rfl}
   intro L us wx hall hI;have u12:=hI.f12 (hall 12 (by simp));have EX:=hI.x;have E9:=Er.trans EX;clear hall hI EX Er;by_cases hl:tab≤lz
   ·have hd:decide (lz<tab)=false:=by simpa using hl
    rw[hd] at u12;have Hlow2:=h_ (show ∀i,i<j+1→tab≤lowZ (qs.map (·.1)) bs i from fun i hi=>by
     rcases Nat.lt_or_ge i j with h|h
     ·exact Hlow.out i h
     ·obtain rfl:i=j:=by omega
      rw[Hlz2.out]
      exact hl)
    simp only[putAll,Act.put,zs,Nat.reduceAdd,u12];clear u12 hl hd;go_wp2_with fail;go_roundw
    case rel=>exact⟨j+1,by omega,by go_num,E9,Hlow2⟩
    case measure=>simp only[intOf];omega
   ·have hd:decide (lz<tab)=true:=by simp;omega
    rw[hd] at u12;have Hbad:=h_ (restErr_low Hcm.out Hgood.out hlt (by rw[Hlz2.out];exact hl));simp only[putAll,Act.put,zs,Nat.reduceAdd,u12];clear u12 hl hd;go_wp2_with fail;refine bodyPost_ret (v:= .int .i64 30) (by simp[results,Tryz.results30,go_sem]) rfl ⟨by rw[Hbad.out],HE5.out.trans E9⟩
  ·obtain rfl:j=bs.length:=by omega
   have Hok:=h_ (restErr_ok Hcm.out Hgood.out Hlow.out);have HR:=h_ (HE5.out.trans Er);go_wp2_with fail;refine bodyPost_ret (v:= .int .i64 0) (by simp[results,Tryz.results30,go_sem]) rfl ⟨by rw[Hok.out],HR.out⟩
theorem onGround_c(qs:List (Knd×KAt))(QA:Option Addr)(qc:Nat)(bs:List Brk)(B:Option Addr)(cb:Nat)(tab:Int)(HA:Option Addr)(hc:Nat)(hands:List Int)(wr:World)(hk:Kinds wr QA qc qs)(hb:Bricks wr B cb bs)(hh:IntsZ wr HA hc hands)(hcm:checkErr (qs.map (·.1)) bs=0)(j:Nat)(hlt:j<bs.length) :
  Calls Tryz.prog 134 #[.slice QA qs.length qc,.agg #[.slice B bs.length cb],.agg #[.int .i64 tab,.slice HA hands.length hc],.int .i64 j] wr fun e w'=>e = .returned (.bool (grdB (qs.map (·.1)) bs tab hands j))∧Ext wr w':=by
 obtain⟨W1,hW1,E1,B1,hz1⟩:=mk_ wr #[.slice B bs.length cb] 25;obtain⟨W2,hW2,E2,B2,hz2⟩:=mk_ W1 #[.int .i64 tab,.slice HA hands.length hc] 28;have HE:=h_ (E1.trans E2);obtain⟨T1,hT1⟩:=nm wr.heap.size;obtain⟨T2,hT2⟩:=nm W1.heap.size;have HT1:=h_ hT1;have HT2:=h_ hT2;have B1':=B1.ext E2;rw[hT1] at B1';rw[hT2] at B2;have HB1:=h_ B1';have HB2:=h_ B2;have hnb:=(fit_of hk hb.2 hcm).n;have Hcl:=h_ (fun(j:Nat) (hj:j<bs.length)=>clen_pos hk hb.2 (check_model hcm) hj);have HPl:=h_ (fun(j:Nat) (hj:j<bs.length)=>rPlacedAt_c hk hb.2 (check_model hcm) hj);have HIn:=h_ (fun(W:World) (E:Ext wr W)=>rIn_c HA hc hands (j:Int) W (hh.ext E));obtain⟨r,hr⟩:=nm (hasZ hands j);have Hr:=h_ hr;rw[hr] at HIn;have HBr:=h_ hb;have HE5:=h_ (Ext.refl wr);have hcm':=hcm;clear hz1 hz2 B1 B1' B2 E1 E2 hT1 hT2 hk hb hh hcm hcm' hr;obtain⟨g,off,rfl⟩:=bricks_addr HBr.out (by omega);obtain⟨⟨kd,⟨x,y,z⟩,tn,cl⟩,hbk⟩:=nm (brkAt bs j);have HD:=h_ (fun(W:World) (E:Ext W2 W)=>bricks_cell (HBr.out.ext (HE.out.trans E)) hlt rfl);rw[hbk] at HD;have HP:=h_ (HPl.out j hlt);obtain⟨hn0,hn24⟩:=Hcl.out j hlt;have Hlz:=h_ (show(ptAt (bcells (qs.map (·.1)) (brkAt bs j)) 0).z=lowZ (qs.map (·.1)) bs j from rfl);have HL:=h_ (show(bcells (qs.map (·.1)) (brkAt bs j)).length=clen (qs.map (·.1)) bs j from rfl);obtain⟨lz,hlz⟩:=nm (lowZ (qs.map (·.1)) bs j);rw[hlz] at Hlz;have Hlz2:=h_ hlz;obtain⟨n,hn⟩:=nm (clen (qs.map (·.1)) bs j);rw[hn] at HL HP hn0;obtain⟨L1,hL1⟩:=nm (bcells (qs.map (·.1)) (brkAt bs j));rw[hL1] at HL HP Hlz;rw[hbk] at HP;unfold brkV at HP;have Hn0:=h_ hn0;have n1:(0:Int)<n:=by omega
 have j0:(0:Int)≤j:=by omega
 have j1:(j:Int)<bs.length:=by omega
 clear hn hL1 hlz hn24 hbk;go_enter Tryz.func134,Tryz.ntmps134
 go_upto_region 1 with(fail)
 rw[HT1.out,HT2.out];clear hW1 hW2;by_cases hd:lz=tab
 ·subst hd;have Hv:=h_ (show grdB (qs.map (·.1)) bs lz hands j=true by unfold grdB;rw[Hlz2.out];simp);refine wp_region_by (OgT W2 (.slice QA qs.length qc) (.agg #[.int .i64 kd,.int .i64 x,.int .i64 y,.int .i64 z,.int .u8 tn,.int .u8 cl]) T1 T2 (some ⟨g,off,none⟩) bs.length cb j ⟨g,off+j*6,none⟩ n L1 lz lz) (by kernel_rfl) (by kernel_rfl) (by kernel_rfl) (fun us=>⟨(Ext.refl _).drew,(nofun),(nofun),(nofun),(nofun),(nofun),(nofun),(nofun),(nofun),(nofun),(nofun),(nofun),(nofun),(nofun),(nofun),(nofun),(nofun),(nofun),(nofun),(nofun),(nofun)⟩) ⟨?_,?_,?_,?_,?_,?_,?_,?_,?_,?_,?_,?_,?_,?_,?_,?_,?_,?_,?_,?_,trivial⟩ ?_
  any_goals (intro L us wx K a ha hp hd hun hI hK;replace hp:=h_ hp;replace hd:=h_ hd;simp only[putAll,Act.put,zs,Nat.reduceAdd] at ha;subst ha;simp only[Act.put,zs] at hK)
  ·go_simp;exact hK _ _ {hI with f0:=fun _=>rfl}
  ·go_simp;exact hK _ _ {hI with f1:=fun _=>rfl}
  ·have bb:=(HB1.out.ext hI.x).cell;rw[hI.f1 (h_p hp 1)] at hK ⊢;go_simp;exact hK _ _ {hI with f2:=fun _=>rfl}
  ·go_simp;exact hK _ _ {hI with f3:=fun _=>rfl}
  ·rw[hI.f2 (h_p hp 2),hI.f3 (h_p hp 3)] at hK ⊢;go_simp;exact hK _ _ {hI with f4:=fun _=>rfl}
  ·obtain⟨d0,d1,d2,d3,d4,d5⟩:=HD.out wx hI.x;rw[hI.f4 (h_p hp 4)] at hK ⊢;go_simp;exact hK _ _ {hI with f5:=fun _=>rfl}
  ·have EX:=h_ (HE.out.trans hI.x);rw[hI.f0 (h_p hp 0),hI.f5 (h_p hp 5)] at hK ⊢;go_simp;go_at_call 68;refine(HP.out _ EX.out).mono ?_;rintro e wn ⟨g,cp,hg,rfl,q1,q2,X,En⟩;go_simp;refine hK _ _ ?_;refine {hI with x:=hI.x.trans En,f6:= ?_,f7:= ?_,f8:= ?_}<;>(first|exact fun h=>(hI.f6 h).ext En|exact fun h=>own_ext (hI.f6 h) En|exact fun h=>(hI.f7 h).ext En|exact fun h=>own_ext (hI.f7 h) En|exact fun h=>(hI.f8 h).ext En|exact fun h=>own_ext (hI.f8 h) En|exact fun _=>rfl|skip)
   all_goals exact(by first|exact fun _=>⟨cp,rfl,q1,q2,X⟩)
  ·obtain⟨c1,ua,q1,q2,X⟩:=hI.f6 (h_p hp 6);obtain⟨g1,hg1⟩:=nm (bk (us 6));rw[hg1] at ua X;have q3:(0:Int)<c1:=by omega
   clear hg1 q1 q2;rw[ua] at hK ⊢;go_simp;exact hK _ _ {hI with f7:=fun _=>⟨rfl,X⟩}
  ·obtain⟨ua,X⟩:=hI.f7 (h_p hp 7);obtain⟨g1,hg1⟩:=nm (bk (us 7));rw[hg1] at ua X;clear hg1;rw[ua] at hK ⊢;go_simp;exact hK _ _ {hI with f8:=fun _=>⟨rfl,X⟩}
  ·obtain⟨ua,X⟩:=hI.f8 (h_p hp 8);obtain⟨g1,hg1⟩:=nm (bk (us 8));rw[hg1] at ua X;clear hg1;have cz:=row_low X (by rw[HL.out];exact Hn0.out);rw[Hlz.out] at cz;rw[ua] at hK ⊢;go_simp;exact hK _ _ {hI with f9:=fun _=>rfl}
  ·go_simp;exact hK _ _ {hI with f10:=fun _=>rfl}
  ·have bb:=(HB2.out.ext hI.x).cell;rw[hI.f10 (h_p hp 10)] at hK ⊢;go_simp;exact hK _ _ {hI with f11:=fun _=>rfl}
  ·rw[hI.f9 (h_p hp 9),hI.f11 (h_p hp 11)] at hK ⊢;go_simp;exact hK _ _ {hI with f12:=fun _=>rfl}
  ·rw[hI.f12 (h_p hp 12)] at hK ⊢;go_simp;exact hK _ _ {hI with f13:=fun _=>rfl}
  ·rw[hI.f13 (h_p hp 13)] at hK ⊢;go_simp;exact hK _ _ {hI with f14:=fun _=>rfl}
  ·rw[hI.f13 (h_p hp 13)] at hK ⊢;go_simp;exact hK _ _ {hI with f15:=fun _=>rfl}
  ·rw[hI.f13 (h_p hp 13)] at hK ⊢;go_simp;exact hK _ _ {hI with f16:=fun _=>rfl}
  ·rw[hI.f13 (h_p hp 13)] at hK ⊢;go_simp;exact hK _ _ {hI with f17:=fun _=>rfl}
  ·rw[hI.f13 (h_p hp 13)] at hK ⊢;go_simp;exact hK _ _ {hI with f18:=fun _=>rfl}
  ·rw[hI.f18 (h_p hp 18)] at hK ⊢;go_simp;exact hK _ _ {hI with f19:=fun _=>rfl}
  intro L us wx hall hI;have u19:=hI.f19 (hall 19 (by simp));have EX:=HE.out.trans hI.x;clear hall hI;simp only[putAll,Act.put,zs,Nat.reduceAdd,u19];clear u19;go_wp2_with fail;refine bodyPost_ret (v:= .bool true) (by simp[results,Tryz.results134,go_sem]) rfl ⟨by rw[Hv.out],EX⟩
 ·have hb:(lz==tab)=false:=beq_eq_false_iff_ne.2 hd;have Hv:=h_ (show grdB (qs.map (·.1)) bs tab hands j=r by unfold grdB;rw[Hlz2.out,hb,Hr.out,Bool.false_or]);refine wp_region_by (OgF W2 (.slice QA qs.length qc) (.agg #[.int .i64 kd,.int .i64 x,.int .i64 y,.int .i64 z,.int .u8 tn,.int .u8 cl]) T1 T2 (some ⟨g,off,none⟩) bs.length cb j ⟨g,off+j*6,none⟩ n L1 lz tab HA hands.length hc r) (by kernel_rfl) (by kernel_rfl) (by kernel_rfl) (fun us=>⟨(Ext.refl _).drew,(nofun),(nofun),(nofun),(nofun),(nofun),(nofun),(nofun),(nofun),(nofun),(nofun),(nofun),(nofun),(nofun),(nofun),(nofun),(nofun),(nofun),(nofun),(nofun),(nofun)⟩) ⟨?_,?_,?_,?_,?_,?_,?_,?_,?_,?_,?_,?_,?_,?_,?_,?_,?_,?_,?_,?_,trivial⟩ ?_
  any_goals (intro L us wx K a ha hp hd hun hI hK;replace hp:=h_ hp;replace hd:=h_ hd;simp only[putAll,Act.put,zs,Nat.reduceAdd] at ha;subst ha;simp only[Act.put,zs] at hK)
  ·go_simp;exact hK _ _ {hI with f0:=fun _=>rfl}
  ·go_simp;exact hK _ _ {hI with f1:=fun _=>rfl}
  ·have bb:=(HB1.out.ext hI.x).cell;rw[hI.f1 (h_p hp 1)] at hK ⊢;go_simp;exact hK _ _ {hI with f2:=fun _=>rfl}
  ·go_simp;exact hK _ _ {hI with f3:=fun _=>rfl}
  ·rw[hI.f2 (h_p hp 2),hI.f3 (h_p hp 3)] at hK ⊢;go_simp;exact hK _ _ {hI with f4:=fun _=>rfl}
  ·obtain⟨d0,d1,d2,d3,d4,d5⟩:=HD.out wx hI.x;rw[hI.f4 (h_p hp 4)] at hK ⊢;go_simp;exact hK _ _ {hI with f5:=fun _=>rfl}
  ·have EX:=h_ (HE.out.trans hI.x);rw[hI.f0 (h_p hp 0),hI.f5 (h_p hp 5)] at hK ⊢;go_simp;go_at_call 68;refine(HP.out _ EX.out).mono ?_;rintro e wn ⟨g,cp,hg,rfl,q1,q2,X,En⟩;go_simp;refine hK _ _ ?_;refine {hI with x:=hI.x.trans En,f6:= ?_,f7:= ?_,f8:= ?_}<;>(first|exact fun h=>(hI.f6 h).ext En|exact fun h=>own_ext (hI.f6 h) En|exact fun h=>(hI.f7 h).ext En|exact fun h=>own_ext (hI.f7 h) En|exact fun h=>(hI.f8 h).ext En|exact fun h=>own_ext (hI.f8 h) En|exact fun _=>rfl|skip)
   all_goals exact(by first|exact fun _=>⟨cp,rfl,q1,q2,X⟩)
  ·obtain⟨c1,ua,q1,q2,X⟩:=hI.f6 (h_p hp 6);obtain⟨g1,hg1⟩:=nm (bk (us 6));rw[hg1] at ua X;have q3:(0:Int)<c1:=by omega
   clear hg1 q1 q2;rw[ua] at hK ⊢;go_simp;exact hK _ _ {hI with f7:=fun _=>⟨rfl,X⟩}
  ·obtain⟨ua,X⟩:=hI.f7 (h_p hp 7);obtain⟨g1,hg1⟩:=nm (bk (us 7));rw[hg1] at ua X;clear hg1;rw[ua] at hK ⊢;go_simp;exact hK _ _ {hI with f8:=fun _=>⟨rfl,X⟩}
  ·obtain⟨ua,X⟩:=hI.f8 (h_p hp 8);obtain⟨g1,hg1⟩:=nm (bk (us 8));rw[hg1] at ua X;clear hg1;have cz:=row_low X (by rw[HL.out];exact Hn0.out);rw[Hlz.out] at cz;rw[ua] at hK ⊢;go_simp;exact hK _ _ {hI with f9:=fun _=>rfl}
  ·go_simp;exact hK _ _ {hI with f10:=fun _=>rfl}
  ·have bb:=(HB2.out.ext hI.x).cell;rw[hI.f10 (h_p hp 10)] at hK ⊢;go_simp;exact hK _ _ {hI with f11:=fun _=>rfl}
  ·rw[hI.f9 (h_p hp 9),hI.f11 (h_p hp 11)] at hK ⊢;go_simp;exact hK _ _ {hI with f12:=fun _=>rfl}
  ·rw[hI.f12 (h_p hp 12)] at hK ⊢;go_simp;exact hK _ _ {hI with f13:=fun _=>rfl}
  ·rw[hI.f13 (h_p hp 13)] at hK ⊢;go_simp;exact hK _ _ {hI with f14:=fun _=>rfl}
  ·have bb:=(HB2.out.ext hI.x).cell;rw[hI.f13 (h_p hp 13),hI.f14 (h_p hp 14)] at hK ⊢;go_simp;exact hK _ _ {hI with f15:=fun _=>rfl}
  ·rw[hI.f13 (h_p hp 13)] at hK ⊢;go_simp;exact hK _ _ {hI with f16:=fun _=>rfl}
  ·have EX:=h_ (HE.out.trans hI.x);rw[hI.f13 (h_p hp 13),hI.f15 (h_p hp 15),hI.f16 (h_p hp 16)] at hK ⊢;go_simp;go_at_call 155;refine(HIn.out _ EX.out).mono ?_;rintro e wn ⟨rfl,En⟩;go_simp;refine hK _ _ ?_;refine {hI with x:=hI.x.trans En,f6:= ?_,f7:= ?_,f8:= ?_,f17:= ?_}<;>(first|exact fun h=>(hI.f6 h).ext En|exact fun h=>own_ext (hI.f6 h) En|exact fun h=>(hI.f7 h).ext En|exact fun h=>own_ext (hI.f7 h) En|exact fun h=>(hI.f8 h).ext En|exact fun h=>own_ext (hI.f8 h) En|exact fun _=>rfl|skip)
  ·rw[hI.f13 (h_p hp 13),hI.f17 (h_p hp 17)] at hK ⊢;go_simp;exact hK _ _ {hI with f18:=fun _=>rfl}
  ·rw[hI.f18 (h_p hp 18)] at hK ⊢;go_simp;exact hK _ _ {hI with f19:=fun _=>rfl}
  intro L us wx hall hI;have u19:=hI.f19 (hall 19 (by simp));have EX:=HE.out.trans hI.x;clear hall hI;simp only[putAll,Act.put,zs,Nat.reduceAdd,u19];clear u19;go_wp2_with fail;refine bodyPost_ret (v:= .bool r) (by simp[results,Tryz.results134,go_sem]) rfl ⟨by rw[Hv.out],EX⟩
theorem rests_c(qs:List (Knd×KAt))(QA:Option Addr)(qc:Nat)(bs:List Brk)(B:Option Addr)(cb:Nat)(w:World)(hk:Kinds w QA qc qs)(hb:Bricks w B cb bs)(hcm:checkErr (qs.map (·.1)) bs=0)(i k:Nat)(hi:i<bs.length)(hkl:k<bs.length) :
  Calls Tryz.prog 154 #[.slice QA qs.length qc,.agg #[.slice B bs.length cb],.int .i64 i,.int .i64 k] w fun e w'=>e = .returned (.bool (restsOn (qs.map (·.1)) bs i k))∧Ext w w':=by
 obtain⟨g,off,rfl⟩:=bricks_addr hb (by omega);obtain⟨W1,hW1,E1,B1,hz1⟩:=mk_ w #[.slice (some ⟨g,off,none⟩) bs.length cb] 25;have hf:=fit_of hk hb.2 hcm;have hnb:=hf.n;have HOK:=h_ (fun(c:Pt) (hc:c∈bcells (qs.map (·.1)) (brkAt bs i))=>cell_ok hf hi hc);obtain⟨⟨kdi,⟨xi,yi,zi⟩,tni,cli⟩,hbk⟩:=nm (brkAt bs i);have HDi:=h_ (fun(W:World) (E:Ext w W)=>bricks_cell (hb.ext E) hi (rfl:some (⟨g,off,none⟩:Addr)=some ⟨g,off,none⟩));have HPi:=h_ (rPlacedAt_c hk hb.2 (check_model hcm) hi);rw[hbk] at HDi;have Hcli:=clen_pos hk hb.2 (check_model hcm) hi;obtain⟨ni,hn⟩:=nm (clen (qs.map (·.1)) bs i);have HLi:=h_ (show(bcells (qs.map (·.1)) (brkAt bs i)).length=clen (qs.map (·.1)) bs i from rfl);obtain⟨Li,hLi⟩:=nm (bcells (qs.map (·.1)) (brkAt bs i));rw[hn,hLi] at HPi HLi;rw[hn] at Hcli;rw[hbk] at HPi;unfold brkV at HPi;clear hn hbk;obtain⟨⟨kdk,⟨xk,yk,zk⟩,tnk,clk⟩,hbk⟩:=nm (brkAt bs k);have HDk:=h_ (fun(W:World) (E:Ext w W)=>bricks_cell (hb.ext E) hkl (rfl:some (⟨g,off,none⟩:Addr)=some ⟨g,off,none⟩));have HPk:=h_ (rPlacedAt_c hk hb.2 (check_model hcm) hkl);rw[hbk] at HDk;have Hclk:=clen_pos hk hb.2 (check_model hcm) hkl;obtain⟨nk,hn⟩:=nm (clen (qs.map (·.1)) bs k);have HLk:=h_ (show(bcells (qs.map (·.1)) (brkAt bs k)).length=clen (qs.map (·.1)) bs k from rfl);obtain⟨Lk,hLk⟩:=nm (bcells (qs.map (·.1)) (brkAt bs k));rw[hn,hLk] at HPk HLk;rw[hn] at Hclk;rw[hbk] at HPk;unfold brkV at HPk;clear hn hbk;rw[hLi] at HOK;have Hval:=h_ (show restsOn (qs.map (·.1)) bs i k=Li.any fun c=>hasP Lk (addP c ⟨0,0,-1⟩) by unfold restsOn;rw[hLi,hLk]);have b1:=B1.cell;have HB:=h_ B1;obtain⟨d0,d1,d2,d3,d4,d5⟩:=HDi.out W1 E1;have i0:(0:Int)≤i:=by omega
 have i1:(i:Int)<bs.length:=by omega
 have k0:(0:Int)≤k:=by omega
 have k1:(k:Int)<bs.length:=by omega
 clear hz1 B1 hk hb hcm hf hLi hLk;go_enter Tryz.func154,Tryz.ntmps154;go_wp2_with fail;clear d0 d1 d2 d3 d4 d5 hW1 b1;refine(HPi.out _ E1).mono ?_;rintro e W2 ⟨g1,cp1,hg1,rfl,p1,p2,X1,E2⟩;have b1:=(HB.out.ext E2).cell;obtain⟨d0,d1,d2,d3,d4,d5⟩:=HDk.out W2 (E1.trans E2);go_wp2_with fail;clear d0 d1 d2 d3 d4 d5 b1;refine(HPk.out _ (E1.trans E2)).mono ?_;rintro e W3 ⟨g2,cp2,hg2,rfl,q1,q2,X2,E3⟩;have HX1:=h_ (X1.ext E3);have HS2:=h_ (RowX.slice X2 (pts_wide' Lk) (by rw[List.length_map,HLk.out]) q1 q2);have HE:=h_ ((E1.trans E2).trans E3);obtain⟨hn0,hn24⟩:=Hcli;clear X1 X2 E1 E2 E3 hg1 hg2 Hclk q1 q2;go_wp2_with fail;go_loopw [11] (fun ii wr=> ∃q:Nat,q≤ni∧ii = .int .i64 q∧Ext W3 wr∧Hid (∀t,t<q → ∀c,Li[t]? = some c→hasP Lk (addP c ⟨0,0,-1⟩)=false)) (fun ii _=>ni-(intOf ii).toNat)
 case atStart=>exact⟨0,by omega,rfl,Ext.refl _,h_ (fun t ht=>by omega)⟩
 case round =>
  obtain⟨q,hq,rfl,Er,Hno⟩:=hrel;by_cases hqt:q<ni
  ·obtain⟨⟨x,y,z⟩,hc⟩: ∃c,Li[q]? = some c:=⟨_,List.getElem?_eq_getElem (by rw[HLi.out];exact hqt)⟩;have hr:(Li.map Pt.cs)[q]? = some (Pt.cs ⟨x,y,z⟩):=by rw[List.getElem?_map,hc];rfl
   have RX:=HX1.out.ext Er;have c0:=RX.cell (pts_wide' Li) hr (j:=0) rfl;have c1:=RX.cell (pts_wide' Li) hr (j:=1) rfl;have c2:=RX.cell (pts_wide' Li) hr (j:=2) rfl;simp only[Nat.add_zero] at c0;have PL:=rPlus_c x y z 0 0 (-1) wr (HOK.out _ (List.mem_of_getElem? hc)) ⟨by unfold CB;decide,by unfold CB;decide,by unfold CB;decide⟩;obtain⟨z1,hz1⟩:=nm (z + -1);rw[hz1,Int.add_zero,Int.add_zero] at PL;have Hc:=h_ hc;have Hadd:=h_ (show addP ⟨x,y,z⟩ ⟨0,0,-1⟩=⟨x,y,z1⟩ by rw[addP_dn,hz1]);have q0:(0:Int)≤q:=by omega
   have q1:(q:Int)<ni:=by omega
   have q2:(q:Int)<cp1:=by omega
   clear hr hc RX hz1;go_wp2_with fail;clear c0 c1 c2;refine PL.mono ?_;rintro e W5 ⟨rfl,E5⟩;have hsl:Cells W5 (some ⟨g2,0,none⟩) cp2 Lk:=by
    unfold Cells;rw[HLk.out];exact HS2.out.ext (Er.trans E5)
   have HA:=rHas_c (some ⟨g2,0,none⟩) cp2 Lk x y z1 W5 hsl;rw[HLk.out] at HA;obtain⟨r,hr⟩:=nm (hasP Lk ⟨x,y,z1⟩);rw[hr] at HA;have Hr:=h_ hr;clear hr hsl;go_wp2_with fail;refine HA.mono ?_;rintro e W6 ⟨rfl,E6⟩;have EE:=(Er.trans E5).trans E6;clear E5 E6 Er;cases r
   ·have Hno2:=h_ (show ∀t,t<q+1 → ∀c,Li[t]? = some c→hasP Lk (addP c ⟨0,0,-1⟩)=false from fun t ht c htc=>by
     rcases Nat.lt_or_ge t q with h|h
     ·exact Hno.out t h c htc
     ·obtain rfl:t=q:=by omega
      rw[Hc.out] at htc;cases htc
      rw[Hadd.out,Hr.out])
    go_wp2_with fail;go_roundw
    case rel=>exact⟨q+1,by omega,by go_num,EE,Hno2⟩
    case measure=>simp only[intOf];omega
   ·have Hyes:=h_ (show restsOn (qs.map (·.1)) bs i k=true by
     rw[Hval.out,List.any_eq_true]
     exact⟨_,List.mem_of_getElem? Hc.out,by rw[Hadd.out,Hr.out]⟩)
    go_wp2_with fail;refine bodyPost_ret (v:= .bool true) (by simp[results,Tryz.results154,go_sem]) rfl ⟨by rw[Hyes.out],HE.out.trans EE⟩
  ·obtain rfl:q=ni:=by omega
   have Hnone:=h_ (show restsOn (qs.map (·.1)) bs i k=false by
    rw[Hval.out,Bool.eq_false_iff];intro h;rw[List.any_eq_true] at h;obtain⟨c,hc,hh⟩:=h;obtain⟨t,ht,rfl⟩:=List.getElem_of_mem hc;rw[Hno.out t (by rw[←HLi.out];exact ht) _ (List.getElem?_eq_getElem ht)] at hh
    cases hh)
   have HR:=h_ (HE.out.trans Er);go_wp2_with fail;refine bodyPost_ret (v:= .bool false) (by simp[results,Tryz.results154,go_sem]) rfl ⟨by rw[Hnone.out],HR.out⟩
end Go.Proofs.YtojolpbpjimfgaaGreatDoor
