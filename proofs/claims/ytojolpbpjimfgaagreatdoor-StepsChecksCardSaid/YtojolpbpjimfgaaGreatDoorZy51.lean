/- Texts of the proof: RCheck6, ChksLaw, Open, Open1. -/
import Derived.Test.YtojolpbpjimfgaaGreatDoorZy2
import Derived.Test.YtojolpbpjimfgaaGreatDoorZy6
import Derived.Test.YtojolpbpjimfgaaGreatDoorZy7
import Derived.Test.YtojolpbpjimfgaaGreatDoorZy27
import Derived.Test.YtojolpbpjimfgaaGreatDoorZy46
import Derived.Test.YtojolpbpjimfgaaGreatDoorZy47
import Derived.Test.YtojolpbpjimfgaaGreatDoorZy49
import Derived.Test.YtojolpbpjimfgaaGreatDoorZy50
import Derived.ProofKit
import Derived.Deep.Slices
import Derived.Carry
import Derived.OpenShut
import Derived.Lib.SmallJoins
set_option maxHeartbeats 16000000
set_option maxRecDepth 100000
namespace Go.Proofs.YtojolpbpjimfgaaGreatDoor
open Go.RowKit
theorem stepsOk_hd{n:Nat}{most:Int}{z:Nat}{t:List StpV}{k:Nat}{s:StpV}(hs:t[k]? = some s)(h:stepsOk n most z (t.drop k)=true):putsOk n z s.l=true∧stepsOk n most (putsZ z s.l) (t.drop (k+1))=true:=by
 rw[stepsOk_at hs,Bool.and_eq_true,Bool.and_eq_true] at h;exact⟨h.1.2,h.2⟩
theorem putsOk_hd{n z:Nat}{l:List PutV}{k:Nat}{p:PutV}(hp:l[k]? = some p)(h:putsOk n z (l.drop k)=true):putOk n z p=true∧putsOk n (putN z p.b.toNat) (l.drop (k+1))=true:=by
 rw[putsOk_at hp,Bool.and_eq_true] at h;exact h
theorem putN_pos(z i:Nat):putN z i≠0:=fun h=>by
 have:=putN_bit z i i;rw[h] at this;simp at this
theorem rCheck6_c(m:MB)(most:Int)(q:List (StpV×SAt))(SA:Option Addr)(sc:Nat)(w:World)(hM:MBAt w m)(hq:StepsZ w SA sc q)(hf:FewS (q.map (·.1))) :
  Calls Tryz.prog 17 #[.slice m.QA m.qs.length m.qc,.agg #[.slice m.B m.bs.length m.cb],.agg #[.int .i64 m.tab,.slice m.HA m.hands.length m.hc],.int .i64 most,.slice SA q.length sc] w fun e w'=>e = .returned (.int .i64 (chkE m most (q.map (·.1))))∧Ext w w':=by
 obtain⟨W1,hW1,E1,B1,hz1⟩:=mk_ w #[.slice m.B m.bs.length m.cb] 25;obtain⟨W2,hW2,E2,B2,hz2⟩:=mk_ W1 #[.int .i64 m.tab,.slice m.HA m.hands.length m.hc] 28;have E:=E1.trans E2;have HB1:=h_ (B1.ext E2);have HB2:=h_ B2;have b1:=HB1.out.cell;have b2:=HB2.out.cell;have HE:=h_ E;have HM:=h_ hM;have HQ:=h_ hq;have HF:=h_ hf;have RE:=rCheckRest_c m.qs m.QA m.qc m.bs m.B m.cb m.tab m.HA m.hc m.hands W2 (hM.ext E).k (hM.ext E).b (hM.ext E).h;replace RE:Calls Tryz.prog 30 #[.slice m.QA m.qs.length m.qc,.agg #[.slice m.B m.bs.length m.cb],.agg #[.int .i64 m.tab,.slice m.HA m.hands.length m.hc]] W2 fun e w'=>e = .returned (.int .i64 (restErr m.ks m.bs m.tab m.hands))∧Ext W2 w':=RE;obtain⟨r,hr⟩:=nm (restErr m.ks m.bs m.tab m.hands);rw[hr] at RE;have Hr:=h_ hr;obtain⟨t,ht⟩:=nm (q.map (·.1));have Ht:=h_ ht;have HL:=h_ (show t.length=q.length by rw[←ht,List.length_map]);have Hg:=h_ (show ∀(i:Nat) (x:StpV×SAt),q[i]? = some x→t[i]? = some x.1 from fun i x h=>by rw[←ht,List.getElem?_map,h];rfl);rw[ht] at HF;rw[ht];have hle:=hq.1.le;have hsm:=hq.1.small;have hq100:q.length≤100:=by have:=HF.out.1;have:=HL.out;omega
 clear hz1 hz2 B1 B2 E1 E2 E hM hq hf hr ht;by_cases h0:r=0;rotate_left
 ·have h1:(r != 0)=true:=by simpa using h0
  have Hv:=h_ (show chkE m most t=r from by rw[chkE,if_neg (by rw[Hr.out];exact h0),Hr.out]);go_enter Tryz.func17,Tryz.ntmps17;go_wp2_with fail;refine RE.mono ?_;rintro e W3 ⟨rfl,E3⟩;go_wp2_with fail;refine bodyPost_ret (v:= .int .i64 r) (by simp[results,Tryz.results17,go_sem]) rfl ⟨by rw[Hv.out],HE.out.trans E3⟩
 subst h0;have hcm:=(restErr_zero Hr.out).1;have hn40:=(HM.out.fit hcm).n;have hn64:m.bs.length≤64:=by omega
 have Hcm:=h_ hcm;clear hn40 hcm;go_enter Tryz.func17,Tryz.ntmps17;go_wp2_with fail;clear hW1 hW2;refine RE.mono ?_;rintro e W3 ⟨rfl,E3⟩;have HE3:=h_ (HE.out.trans E3);have HB13:=h_ (HB1.out.ext E3);have HB23:=h_ (HB2.out.ext E3);clear RE E3 b1 b2;have WI:=within6_c most 1 8 W3;obtain⟨r,hr⟩:=nm (inB 1 8 most);rw[hr] at WI;have Hin:=h_ hr;clear hr;go_wp2_with fail;refine WI.mono ?_;rintro e W4 ⟨rfl,E4⟩;have HE4:=h_ (HE3.out.trans E4);have HB14:=h_ (HB13.out.ext E4);have HB24:=h_ (HB23.out.ext E4);have b14:=HB14.out.cell;clear WI E4;cases r
 ·have Hv:=h_ (show chkE m most t=2 from by
   have h:=inB_not.1 Hin.out
   rw[chkE,if_pos Hr.out,if_neg h])
  clear b14;go_wp2_with fail;refine bodyPost_ret (v:= .int .i64 2) (by simp[results,Tryz.results17,go_sem]) rfl ⟨by rw[Hv.out],HE4.out⟩
 have FC:=rFormed_c m.B m.cb m.bs.length most q SA sc W4 (HQ.out.ext HE4.out) hn64 (by rw[Ht.out];exact HF.out);rw[Ht.out] at FC;obtain⟨fb,hfb⟩:=nm (formB m.bs.length most t);rw[hfb] at FC;have Hfb:=h_ hfb;clear hfb;go_wp2_with fail;refine FC.mono ?_;rintro e W5 ⟨rfl,E5⟩;have HE5:=h_ (HE4.out.trans E5);have HB15:=h_ (HB14.out.ext E5);have HB25:=h_ (HB24.out.ext E5);clear FC E5 b14;cases fb
 ·have Hv:=h_ (show chkE m most t=60 from by rw[chkE,if_pos Hr.out,if_pos (inB_iff.1 Hin.out),if_neg (by rw[Hfb.out];decide)]);go_wp2_with fail;refine bodyPost_ret (v:= .int .i64 60) (by simp[results,Tryz.results17,go_sem]) rfl ⟨by rw[Hv.out],HE5.out⟩
 have Hv:=h_ (show chkE m most t=stepsE m 0 t from by rw[chkE,if_pos Hr.out,if_pos (inB_iff.1 Hin.out),if_pos Hfb.out]);have Hok:=h_ (show stepsOk m.bs.length most 0 t=true from by
  have h:=Hfb.out;unfold formB at h;rw[Bool.and_eq_true] at h
  exact h.1)
 clear Hfb Hin;go_wp2_with fail;go_loopw [12,13] (fun vs ii wr=> ∃(i z:Nat) (TA:Option Addr) (tc:Nat),i≤q.length∧ii = .int .i64 i∧vs = .slice TA (setL z).length tc∧Hid (SetB m.bs.length z)∧Hid (stepsOk m.bs.length most z (t.drop i)=true)∧Hid (stepsE m 0 t=stepsE m z (t.drop i))∧Hid (IntsZ wr TA tc (setI z))∧Hid (z=0→TA=none∧tc=0)∧Hid (Ext W5 wr)) (fun _ ii _=>q.length-(intOf ii).toNat)
 case atStart=>exact⟨0,0,none,0,by omega,rfl,by rw[setL_zero];rfl,h_ (SetB.zero _),Hok,h_ rfl,h_ (by unfold setI;rw[setL_zero];exact ints_nil _),h_ fun _=>⟨rfl,rfl⟩,h_ (Ext.refl _)⟩
 case round =>
  clear Hok;obtain⟨i,z,TA,tc,hi,rfl,rfl,Hz,Ho,Hs,HT,HA,HEr⟩:=hrel;by_cases hlt:i<q.length
  ·obtain⟨x,hx⟩: ∃x,q[i]? = some x:=⟨_,List.getElem?_eq_getElem hlt⟩;obtain⟨g,off,rfl⟩:=HQ.out.addr (by omega);have HC:=h_ (fun(W:World) (E:Ext W5 W)=>(HQ.out.ext (HE5.out.trans E)).cell hx rfl);have hby:=(HQ.out.puts hx).2;have HPu:=h_ (HQ.out.puts hx).1;have hTx:=Hg.out _ _ hx;have Hst:=h_ (stepsE_at (m:=m) (z:=z) hTx);have hhd:=stepsOk_hd hTx Ho.out;have hl100:=HF.out.2 _ (List.mem_of_getElem? hTx);obtain⟨⟨l,v⟩,⟨PA,pc⟩⟩:=x;simp only at HC HPu hby hl100 hhd;have Hpok:=h_ hhd.1;have Hnok:=h_ hhd.2;have hpl:=HPu.out.1.le;have hps:=HPu.out.1.small;have i0:(0:Int)≤i:=by omega
   have i1:(i:Int)<q.length:=by omega
   have i2:(i:Int)<sc:=by omega
   have hby':0≤v∧v<256:=hby;obtain⟨hv0,hv1⟩:=hby';clear hx hby hTx hhd Ho;go_wp2_with fail;go_loopw [12,14] (fun vs kk wr2=> ∃(k z2:Nat) (TA:Option Addr) (tc:Nat),k≤l.length∧kk = .int .i64 k∧vs = .slice TA (setL z2).length tc∧Hid (SetB m.bs.length z2)∧Hid (z2=putsZ z (l.take k))∧Hid (putsE m z l=putsE m z2 (l.drop k))∧Hid (putsOk m.bs.length z2 (l.drop k)=true)∧Hid (IntsZ wr2 TA tc (setI z2))∧Hid (z2=0→TA=none∧tc=0)∧Hid (Ext W5 wr2)) (fun _ kk _=>l.length-(intOf kk).toNat)
   case atStart=>exact⟨0,z,TA,tc,by omega,rfl,rfl,Hz,h_ rfl,h_ rfl,h_ Hpok.out,HT,HA,HEr⟩
   case round =>
    clear HT HA HEr;obtain⟨k,z2,TA,tc,hk,rfl,rfl,Hz2,He2,Hpe,Hpo,HT,HA,HEr⟩:=hrel;obtain⟨c0,c1⟩:=HC.out _ HEr.out;obtain⟨sn,hsn⟩:=nm ((setL z2).length);have Hsn:=h_ hsn;by_cases hkl:k<l.length
    ·obtain⟨pt,hpt⟩: ∃p,l[k]? = some p:=⟨_,List.getElem?_eq_getElem hkl⟩;obtain⟨pg,po,rfl⟩:=HPu.out.addr (by omega);obtain⟨e0,e1⟩:=(HPu.out.ext (HE5.out.trans HEr.out)).cell hpt rfl;have hhd:=putsOk_hd hpt Hpo.out;have Hpn:=h_ hhd.2;obtain⟨⟨a1,a2⟩,a3,a4⟩:=putOk_iff.1 hhd.1;have hd0:=(HPu.out.byte hpt).1;have Hpt:=h_ (putsE_at (m:=m) (z:=z2) hpt);have Htk:=h_ (take_at hpt);obtain⟨pb,pd⟩:=pt;obtain⟨b,rfl⟩:=Int.eq_ofNat_of_zero_le a1;obtain⟨d,rfl⟩:=Int.eq_ofNat_of_zero_le hd0;simp only[Int.toNat_natCast] at e0 e1 a2 a3 a4 Hpn Hpt Htk;have hbn:b<m.bs.length:=by omega
     have hd6:d<6:=by omega
     obtain⟨W6,hW6,E6,B6,hz6⟩:=mk_ wr #[.int .i64 b,.int .u8 d] 89;have b6:=B6.cell;have HB6:=h_ B6;have HE6:=h_ (HEr.out.trans E6);have HT6:=h_ (IntsZ.ext HT.out E6);have b16:=(HB15.out.ext HE6.out).cell;have b26:=(HB25.out.ext HE6.out).cell;have FC:=rFreeL_c m TA tc z2 b d W6 (HM.out.ext (HE5.out.trans HE6.out)) Hcm.out Hz2.out hbn hd6 HT6.out;obtain⟨r1,hr1⟩:=nm (freeB m.ks m.bs m.tab z2 b d);rw[hr1] at FC;rw[hsn] at FC;have Hr1:=h_ hr1;have Hwc:=h_ (fun(W:World) (E:Ext W6 W)=>rWith_c m.bs.length z2 b TA tc W Hz2.out hn64 hbn a3 (IntsZ.ext HT6.out E) HA.out);unfold IntsPost at Hwc;rw[hsn] at Hwc;rw[hsn];have Hzn:=h_ (Hz2.out.put hbn);have k0:(0:Int)≤k:=by omega
     have k1:(k:Int)<l.length:=by omega
     have k2:(k:Int)<pc:=by omega
     clear hpt hhd a1 a3 hd0 B6 hz6 E6 hr1 HT HEr Hpo c1 hsn;go_wp2_with fail;refine FC.mono ?_;rintro e W7 ⟨rfl,E7⟩;have HE7:=h_ (HE6.out.trans E7);have HB7:=h_ (HB6.out.ext E7);have b7:=HB7.out.cell;have WC:=Hwc.out W7 E7;clear FC b6 b16 b26 e0 e1 hW6 c0 Hwc E7;cases r1
     ·have Hr:=h_ (show stepsE m 0 t=61 from by
       have e1:putE m z2 ⟨b,d⟩=61:=(by unfold putE;exact if_neg (show ¬(freeB m.ks m.bs m.tab z2 b d=true) by rw[Hr1.out];decide));have e2:putsE m z l=61:=(by rw[Hpe.out,Hpt.out,if_neg (by rw[e1];decide),e1]);have e3:stepE m z ⟨l,v⟩=61:=(by unfold stepE;simp only[];rw[if_neg (by rw[e2];decide),e2]);rw[Hs.out,Hst.out,if_neg (by rw[e3];decide),e3])
      go_wp2_with fail;refine bodyPost_ret (v:= .int .i64 61) (by simp[results,Tryz.results17,go_sem]) rfl ⟨by rw[Hv.out,Hr.out],HE5.out.trans HE7.out⟩
     go_wp2_with fail;refine WC.mono ?_;rintro e W8 ⟨NA,nc,rfl,hN,E8⟩;have HE8:=h_ (HE7.out.trans E8);have b18:=(HB15.out.ext HE8.out).cell;have b28:=(HB25.out.ext HE8.out).cell;have HN8:=h_ hN;have HC8:=rHolds0_c m NA nc (putN z2 b) W8 (HM.out.ext (HE5.out.trans HE8.out)) Hr.out Hzn.out hN;rw[setI_len];obtain⟨ln,hln⟩:=nm ((setL (putN z2 b)).length);have Hln:=h_ hln;obtain⟨r2,hr2⟩:=nm (holdB m.ks m.bs m.tab m.hands (putN z2 b));rw[hr2,hln] at HC8;rw[hln];have Hr2:=h_ hr2;clear hr2 hln WC hN E8 b7;go_wp2_with fail;refine HC8.mono ?_;rintro e W9 ⟨rfl,E9⟩;have HE9:=h_ (HE8.out.trans E9);have HN9:=h_ (IntsZ.ext HN8.out E9);clear HC8 E9 b18 b28;cases r2
     ·have Hr:=h_ (show stepsE m 0 t=62 from by
       have e1:putE m z2 ⟨b,d⟩=62:=(by unfold putE;exact(if_pos Hr1.out).trans (if_neg (show ¬(holdB m.ks m.bs m.tab m.hands (putN z2 b)=true) by rw[Hr2.out];decide)));have e2:putsE m z l=62:=(by rw[Hpe.out,Hpt.out,if_neg (by rw[e1];decide),e1]);have e3:stepE m z ⟨l,v⟩=62:=(by unfold stepE;simp only[];rw[if_neg (by rw[e2];decide),e2]);rw[Hs.out,Hst.out,if_neg (by rw[e3];decide),e3])
      go_wp2_with fail;refine bodyPost_ret (v:= .int .i64 62) (by simp[results,Tryz.results17,go_sem]) rfl ⟨by rw[Hv.out,Hr.out],HE5.out.trans HE9.out⟩
     have Hpe2:=h_ (show putsE m z l=putsE m (putN z2 b) (l.drop (k+1)) from by
      have e1:putE m z2 ⟨b,d⟩=0:=by unfold putE;exact(if_pos Hr1.out).trans (if_pos Hr2.out)
      rw[Hpe.out,Hpt.out,if_pos e1])
     go_wp2_with fail;go_roundw
     case rel=>exact⟨k+1,putN z2 b,NA,nc,by omega,by go_num,by rw[Hln.out],Hzn,h_ (by rw[Htk.out,putsZ_snoc,←He2.out];rfl),Hpe2,Hpn,HN9,h_ fun h=>absurd h (putN_pos z2 b),HE9⟩
     case measure=>simp only[intOf];omega
    ·obtain rfl:k=l.length:=by omega
     have hz2:z2=putsZ z l:=by rw[He2.out,List.take_length]
     have Hp0:=h_ (show putsE m z l=0 from by rw[Hpe.out,drop_all];rfl);obtain⟨-,hall,-⟩:=putsOk_all Hpok.out Hz.out;have HVw:=h_ (fun(W:World) (E':Ext wr W)=>rView_c m TA tc z2 PA pc l W (HM.out.ext (HE5.out.trans (HEr.out.trans E'))) Hcm.out Hz2.out (IntsZ.ext HT.out E') (HPu.out.ext (HE5.out.trans (HEr.out.trans E'))) (fun p hp=>⟨(hall p hp).1,(hall p hp).2.1⟩) hl100);have b1r:=(HB15.out.ext HEr.out).cell;have Hz2e:=h_ hz2;obtain⟨vq,hvq⟩:=nm (viewQ m.ks m.bs z2 l);rw[hvq,hsn] at HVw;rw[hsn];have Hvq:=h_ hvq;clear hz2 hall hvq Hpo He2 Hpe hsn
     go_upto_region 21 with(fail)
     by_cases hve:v=(vq:Int)
     ·have hv':(v != (vq:Int))=false:=by simpa using hve
      refine w_g ?_
      repeat (go_big_quiet_step ((go_at_call 48;exact quiet_ext (HVw.out _ (by first|exact Ext.refl _|exact(Ext.refl _).grow _)))))
      refine wpQuiet_nil ?_;intro W6 hW6;have E6:Ext wr W6:=by
       obtain⟨x,rfl⟩:=hW6;exact(Ext.refl _).grow x
      clear hW6;obtain⟨hcW6,hfW6,hzW6⟩:=ext_facts E6;have HE6:=h_ (HEr.out.trans E6);have HT6:=h_ (IntsZ.ext HT.out E6);clear E6 b1r c0 c1 hcW6 hfW6 hzW6;have Hnx:=h_ (show stepsE m 0 t=stepsE m z2 (t.drop (i+1)) from by
       have e3:stepE m z ⟨l,v⟩=0:=by unfold stepE;simp only[];rw[if_pos Hp0.out,←Hz2e.out,Hvq.out,if_pos hve]
       rw[Hs.out,Hst.out,if_pos e3,←Hz2e.out])
      have Hno:=h_ (show stepsOk m.bs.length most z2 (t.drop (i+1))=true from by rw[Hz2e.out];exact Hnok.out);go_wp2_with fail;go_roundw
      case rel=>exact⟨i+1,z2,TA,tc,by omega,by go_num,by rw[Hsn.out],Hz2,Hno,Hnx,HT6,HA,HE6⟩
      case measure=>simp only[intOf];omega
     ·have hv':(v != (vq:Int))=true:=by simpa using hve
      refine w_g ?_
      repeat (go_big_quiet_step ((go_at_call 48;exact quiet_ext (HVw.out _ (by first|exact Ext.refl _|exact(Ext.refl _).grow _)))))
      refine wpQuiet_nil ?_;intro W6 hW6;have E6:Ext wr W6:=by
       obtain⟨x,rfl⟩:=hW6;exact(Ext.refl _).grow x
      clear hW6;obtain⟨hcW6,hfW6,hzW6⟩:=ext_facts E6;have HE6:=h_ (HEr.out.trans E6);clear E6 b1r c0 c1 hcW6 hfW6 hzW6;have Hr:=h_ (show stepsE m 0 t=63 from by
       have e3:stepE m z ⟨l,v⟩=63:=(by unfold stepE;simp only[];rw[if_pos Hp0.out,←Hz2e.out,Hvq.out,if_neg hve]);rw[Hs.out,Hst.out,if_neg (by rw[e3];decide),e3])
      go_wp2_with fail;refine bodyPost_ret (v:= .int .i64 63) (by simp[results,Tryz.results17,go_sem]) rfl ⟨by rw[Hv.out,Hr.out],HE5.out.trans HE6.out⟩
  ·obtain rfl:i=q.length:=by omega
   have Hr:=h_ (show stepsE m 0 t=0 from by
    rw[Hs.out,←HL.out,drop_all];rfl)
   go_wp2_with fail;refine bodyPost_ret (v:= .int .i64 0) (by simp[results,Tryz.results17,go_sem]) rfl ⟨by rw[Hv.out,Hr.out],HE5.out.trans HEr.out⟩
theorem chks_walk(m:MB)(most:Int)(q:List (StpV×SAt))(SA:Option Addr)(sc:Nat)(w:World)(hM:MBAt w m)(hq:StepsZ w SA sc q)(hT:Tz6Tab w)(hnil: ∀x∈q,x.2.A=none→x.2.c=0) :
  Calls Tryz.prog 4 #[.slice m.QA m.qs.length m.qc,.agg #[.slice m.B m.bs.length m.cb],.agg #[.int .i64 m.tab,.slice m.HA m.hands.length m.hc],.int .i64 most,.slice SA q.length sc] w fun e w'=>e = .returned (.bool true)∧Ext w w':=by
 obtain⟨W1,hW1,E1,B1,hz1⟩:=mk_ w #[.slice m.B m.bs.length m.cb] 25;obtain⟨W2,hW2,E2,B2,hz2⟩:=mk_ W1 #[.int .i64 m.tab,.slice m.HA m.hands.length m.hc] 28;have E:=E1.trans E2;have HB1:=h_ (B1.ext E2);have HB2:=h_ B2;have b1:=HB1.out.cell;have b2:=HB2.out.cell;have HE:=h_ E;have HM:=h_ hM;have HQ:=h_ hq;have HT:=h_ hT;have HN:=h_ hnil;have G:=great3_c m.qs m.QA m.qc m.bs m.B m.cb m.tab m.HA m.hc m.hands W2 (hM.ext E).k (hM.ext E).b (hM.ext E).h;obtain⟨r,hr⟩:=nm (great3B (m.qs.map (·.1)) m.bs.length m.hands.length);rw[hr] at G;have G6:=h_ (fun(W:World) (E:Ext w W)=>rGreat6_c q SA sc W (hq.ext E));obtain⟨gr,hgr⟩:=nm (greatS (q.map (·.1)));rw[hgr] at G6;have Hgr:=h_ hgr;clear hz1 hz2 B1 B2 E1 E2 E hM hq hT hnil hr hgr;go_enter Tryz.func4,Tryz.ntmps4;go_wp2_with fail;refine G.mono ?_;rintro e W3 ⟨rfl,E3⟩;have HE3:=h_ (HE.out.trans E3);have HB13:=h_ (HB1.out.ext E3);have HB23:=h_ (HB2.out.ext E3);clear E3 hW1 hW2 G b1 b2;cases r;rotate_left
 ·go_wp2_with fail;refine bodyPost_ret (v:= .bool true) (by simp[results,Tryz.results4,go_sem]) rfl ⟨rfl,HE3.out⟩
 go_wp2_with fail;refine(G6.out _ HE3.out).mono ?_;rintro e W4 ⟨rfl,E4⟩;have HE4:=h_ (HE3.out.trans E4);have HB14:=h_ (HB13.out.ext E4);have HB24:=h_ (HB23.out.ext E4);clear E4 G6;cases gr;rotate_left
 ·go_wp2_with fail;refine bodyPost_ret (v:= .bool true) (by simp[results,Tryz.results4,go_sem]) rfl ⟨rfl,HE4.out⟩
 have hfew:=few_of Hgr.out;have TW:=twin6_c q SA sc W4 (HQ.out.ext HE4.out) hfew HN.out;unfold TwinPost at TW;have HFw:=h_ hfew;clear hfew;go_wp2_with fail;refine TW.mono ?_;rintro e W5 ⟨OA,oc,q2,rfl,hO,heq,E5⟩;have HE5:=h_ (HE4.out.trans E5);have HB15:=h_ (HB14.out.ext E5);have HB25:=h_ (HB24.out.ext E5);have b15:=HB15.out.cell;have b25:=HB25.out.cell;have C1:=h_ (fun(W:World) (E:Ext W5 W)=>Check6_c m most q2 OA oc W (HM.out.ext (HE5.out.trans E)) (hO.ext E) (by rw[heq];exact HFw.out) (HT.out.ext (HE5.out.trans E)));have C2:=h_ (fun(W:World) (E:Ext W5 W)=>rCheck6_c m most q SA sc W (HM.out.ext (HE5.out.trans E)) (HQ.out.ext (HE5.out.trans E)) HFw.out);have C3:=h_ (fun(W:World) (E:Ext W5 W)=>rSame6_c q2 q OA SA oc sc W (hO.ext E) (HQ.out.ext (HE5.out.trans E)) heq);rw[heq] at C1;obtain⟨c,hc⟩:=nm (chkE m most (q.map (·.1)));rw[hc] at C1 C2;obtain⟨n2,hn2⟩:=nm q2.length;rw[hn2] at C1 C3;rw[hn2];have hcc:(c==c)=true:=by simp
 clear TW heq hO E5 hc hn2
 go_upto_region 4 with(fail)
 refine w_g ?_
 repeat (go_big_quiet_step ((first|(go_at_call 16;exact quiet_ext (C1.out _ (by first|exact Ext.refl _|exact(Ext.refl _).grow _)))|(go_at_call 17;exact quiet_ext (C2.out _ (by first|exact Ext.refl _|exact(Ext.refl _).grow _)))|(go_at_call 18;exact quiet_ext (C3.out _ (by first|exact Ext.refl _|exact(Ext.refl _).grow _))))))
 refine wpQuiet_nil ?_;intro W6 hW6;have E6:Ext W5 W6:=by
  obtain⟨x,rfl⟩:=hW6;exact(Ext.refl _).grow x
 clear hW6;obtain⟨hcW6,hfW6,hzW6⟩:=ext_facts E6;have HE6:=h_ (HE5.out.trans E6);clear b15 b25 E6 hcW6 hfW6 hzW6;go_wp2_with fail;refine bodyPost_ret (v:= .bool true) (by simp[results,Tryz.results4,go_sem]) rfl ⟨rfl,HE6.out⟩
open Go.ChangeAt Go.ChangeShapes Go.Deep Go.WideShapes
theorem Tryz.own:ownKnob Tryz.prog.godebug=none:=by kernel_rfl
theorem Tryz.laidOut:laidOutB Tryz.prog=true:=by kernel_rfl
theorem list_of{α:Type}(p:Nat→α→Prop)(n:Nat)(h: ∀i,i<n → ∃x,p i x): ∃l:List α,l.length=n ∧ ∀i x,l[i]? = some x→p i x:=by
 induction n with
 | zero=>exact⟨[],rfl,fun i x hx=>by simp at hx⟩
 | succ n ih =>
  obtain⟨l,hl,hp⟩:=ih (fun i hi=>h i (by omega));obtain⟨x,hx⟩:=h n (by omega);refine⟨l ++ [x],by simp[hl],fun i y hy=> ?_⟩;rcases Nat.lt_or_ge i n with hi|hi
  ·rw[List.getElem?_append_left (by omega)] at hy;exact hp i y hy
  ·rw[List.getElem?_append_right (by omega),hl] at hy;obtain rfl:i=n:=by
    rcases Nat.eq_or_lt_of_le hi with h' | h'
    ·exact h'.symm
    ·rw[List.getElem?_eq_none (by simp;omega)] at hy;cases hy
   simp at hy;subst hy;exact hx
section
variable {H:Type} {enc:TypeId×Value→H} {P:Program} {w:World} {base:Nat} {spare:Nat→Bool} {held:Bool}
theorem rows_of_trod{t e:TypeId}{fuel sz:Nat}{A:Option Addr}{n cap:Nat}{x:DataW H×List MemPlace}(ht:P.underlying t=some (.slice e))(hC:P.cellsOf e=sz)(hsz:0<sz)
  (h:DataW.trod enc P w base spare held fuel t [.slice A n cap]=some x) :
  ∃rows:List (List Value),SliceIs w A n cap sz rows ∧ ∀r∈rows,∃(m:Nat) (y:DataW H×List MemPlace),DataW.trod enc P w base spare held m e r=some y:=by
 rcases open_slice ht h with⟨h0,_⟩|⟨a,len,cap',m,fl,D,Pl,hcs,_,hl,hm,hmm,_,hi⟩
 ·simp only[List.cons.injEq,Value.slice.injEq,and_true] at h0;obtain⟨rfl,rfl,rfl⟩:=h0;exact⟨[],⟨rfl,Nat.le_refl _,by unfold maxLen;omega,by simp,fun h=>by omega⟩,by simp⟩
 ·simp only[List.cons.injEq,Value.slice.injEq,and_true] at hcs;obtain⟨rfl,rfl,rfl⟩:=hcs;rw[hC] at hi;have hnm:n≤m:=by rw[hmm];split <;> omega
  obtain⟨rows,hlen,hrow⟩:=list_of (fun i r=>w.cells? base (a.add (i*sz)) sz=some r∧DataW.trod enc P w base spare held fl e r=some (D i,Pl i)) n (fun i hin=>hi i (by omega));refine⟨rows,⟨hlen,hl,hm,?_,fun hn=> ?_⟩,?_⟩
  ·intro r hr;obtain⟨i,hir⟩:=List.getElem?_of_mem hr;exact(World.cells?_some (hrow i r hir).1).2.1
  ·have h0:=hi 0 (by omega);obtain⟨cs0,hc0,_⟩:=h0;obtain⟨_,hl0,hat0⟩:=World.cells?_some hc0;have hcell0:=hat0 0 hsz;have hsome:(w.cell? a).isSome=true:=by
    have:(a.add (0*sz)).add 0=a:=by simp[Addr.add]
    rw[this] at hcell0;rw[hcell0,List.getElem?_eq_getElem (by omega)];rfl
   obtain⟨b,off,spot⟩:=a;have hspot:spot=none:=by
    cases spot with
    | none=>rfl
    | some q =>
     exfalso;unfold World.cell? at hsome;simp only at hsome
     split at hsome <;> simp at hsome
   subst hspot;obtain⟨u,hu⟩:=Option.isSome_iff_exists.1 hsome;refine⟨b,off,rfl,World.block_lt_of_cell? w _ hu,fun i r hr j u hu=> ?_⟩;obtain⟨_,hlr,hat⟩:=World.cells?_some (hrow i r hr).1;have hj:j<sz:=by
    rcases Nat.lt_or_ge j r.length with h' | h'
    ·omega
    ·rw[List.getElem?_eq_none h'] at hu;cases hu
   have hadd:((⟨b,off,none⟩:Addr).add (i*sz)).add j=⟨b,off+i*sz+j,none⟩:=by
    unfold Addr.add;by_cases h1:i*sz=0 <;> by_cases h2:j=0 <;> simp[h1,h2]
   rw[←hadd,hat j hj];exact hu
  ·intro r hr;obtain⟨i,hir⟩:=List.getElem?_of_mem hr;exact⟨_,_,(hrow i r hir).2⟩
theorem trodAll_ext{ts:List TypeId}(hl:laidOutB P=true){W W':World}(hb:Ext W W') :
  ∀{vs:List Value} {ds:List (DataW H)} {ps:List MemPlace},(∀t∈ts,P.readableRec t=true∧t<P.types.size)→DataW.TrodAll enc P W 0 (fun _=>true) true ts vs ds ps→(∀x∈ps,x.block<W.heap.size) →
   DataW.TrodAll enc P W' 0 (fun b=>decide (b<W.heap.size)) true ts vs ds ps:=by
 induction ts with
 | nil =>
  intro vs ds ps _ h _;obtain⟨rfl,rfl,rfl⟩:=trodAll_nil h;exact trodAll_mk0
 | cons t ts ih =>
  intro vs ds ps hr h hlt;obtain⟨v,vs',d,ds',p,q,rfl,rfl,rfl,hd,hrest⟩:=trodAll_cons h;exact⟨p,q,Below.trod hl (hr t (by simp)).1 (hr t (by simp)).2 hd hb (fun x hx=>hlt x (by simp[hx])),ih (fun t' ht'=>hr t' (by simp[ht'])) hrest (fun x hx=>hlt x (by simp[hx])),rfl⟩
end
open Go.Joins
theorem cells_u8:Tryz.prog.cellsOf 5=1:=by kernel_rfl
theorem cells_int:Tryz.prog.cellsOf 3=1:=by kernel_rfl
theorem cells_cell:Tryz.prog.cellsOf 124=3:=by kernel_rfl
theorem cells_knob:Tryz.prog.cellsOf 137=5:=by kernel_rfl
theorem cells_kind:Tryz.prog.cellsOf 112=3:=by kernel_rfl
theorem cells_brick:Tryz.prog.cellsOf 126=6:=by kernel_rfl
theorem cells_scell:Tryz.prog.cellsOf 109=1:=by kernel_rfl
theorem cells_sknob:Tryz.prog.cellsOf 110=1:=by kernel_rfl
theorem rows_map{α:Type}(f:α→List Value){rows:List (List Value)}{xs:List α}(hl:xs.length=rows.length)(h: ∀(i:Nat) (x:α),xs[i]? = some x→rows[i]? = some (f x)):rows=xs.map f:=by
 apply List.ext_getElem?;intro i;rw[List.getElem?_map];rcases Nat.lt_or_ge i rows.length with hi|hi
 ·have:xs[i]? = some xs[i]:=List.getElem?_eq_getElem (by omega);rw[this,h i _ this];rfl
 ·rw[List.getElem?_eq_none hi,List.getElem?_eq_none (by omega)];rfl
section
variable {H:Type} {enc:TypeId×Value→H} {w:World} {base:Nat} {spare:Nat→Bool} {held:Bool}
theorem pt_of_trod{fuel:Nat}{c0 c1 c2:Value}{x:DataW H×List MemPlace}(h:DataW.trod enc Tryz.prog w base spare held fuel 124 [c0,c1,c2]=some x): ∃p:Pt,[c0,c1,c2]=p.cs:=by
 obtain⟨zs,m'',_,_,_,hzl,hg⟩:=DataW.trod_struct Tryz.underlying124 h;have g0:=hg 0 _ rfl;have g1:=hg 1 _ rfl;have g2:=hg 2 _ rfl
 match zs,hzl with
 | [z0,z1,z2],_ =>
  obtain⟨x,h1,_,_⟩:=DataW.trod_int Tryz.underlying3 g0;obtain⟨y,h2,_,_⟩:=DataW.trod_int Tryz.underlying3 g1;obtain⟨z,h3,_,_⟩:=DataW.trod_int Tryz.underlying3 g2;change List.take (Tryz.prog.cellsOf 3) [c0,c1,c2]=_ at h1;change List.take (Tryz.prog.cellsOf 3) [c1,c2]=_ at h2;change List.take (Tryz.prog.cellsOf 3) [c2]=_ at h3;rw[cells_int] at h1 h2 h3;simp at h1 h2 h3;subst h1 h2 h3;exact⟨⟨x,y,z⟩,rfl⟩
theorem cells_of_trod{fuel n cap:Nat}{A:Option Addr}{x:DataW H×List MemPlace}
  (h:DataW.trod enc Tryz.prog w base spare held fuel 109 [.slice A n cap]=some x): ∃l:List Pt,l.length=n∧Cells w A cap l:=by
 obtain⟨rows,hS,hr⟩:=rows_of_trod Tryz.underlying109 cells_cell (by omega) h;obtain⟨l,hl,hp⟩:=list_of (fun i (p:Pt)=>rows[i]? = some p.cs) n (fun i hi=>by
  have hi':i<rows.length:=by rw[hS.len];exact hi
  have hget:rows[i]? = some rows[i]:=List.getElem?_eq_getElem hi';obtain⟨m,y,hy⟩:=hr _ (List.mem_of_getElem? hget);have hlen:=hS.wide _ (List.mem_of_getElem? hget);generalize rows[i]=r at hget hy hlen
  match r,hlen with
  | [c0,c1,c2],_ =>
   obtain⟨p,hp⟩:=pt_of_trod hy
   exact⟨p,by rw[hget,hp]⟩)
 refine⟨l,hl,?_⟩;have:=rows_map Pt.cs (hl.trans hS.len.symm) hp;unfold Cells;rw[←this,hl];exact hS
theorem knobs_of_trod{fuel n cap:Nat}{A:Option Addr}{x:DataW H×List MemPlace}
  (h:DataW.trod enc Tryz.prog w base spare held fuel 110 [.slice A n cap]=some x): ∃l:List Knb,l.length=n∧Knobs w A cap l:=by
 obtain⟨rows,hS,hr⟩:=rows_of_trod Tryz.underlying110 cells_knob (by omega) h;obtain⟨l,hl,hp⟩:=list_of (fun i (p:Knb)=>rows[i]? = some p.cs∧p.byte) n (fun i hi=>by
  have hi':i<rows.length:=by rw[hS.len];exact hi
  have hget:rows[i]? = some rows[i]:=List.getElem?_eq_getElem hi';obtain⟨m,y,hy⟩:=hr _ (List.mem_of_getElem? hget);obtain⟨xs,m',_,_,hlen,hxl,hf⟩:=DataW.trod_struct Tryz.underlying137 hy;rw[cells_knob] at hlen;generalize rows[i]=r at hget hy hlen hf
  match r,hlen with
  | [c0,c1,c2,c3,c4],_ =>
   have f0:=hf 0 _ rfl;have f1:=hf 1 _ rfl;have f2:=hf 2 _ rfl
   match xs,hxl with
   | [y0,y1,y2],_ =>
    change DataW.trod enc _ _ _ _ _ _ _ (List.take (Tryz.prog.cellsOf 124) [c0,c1,c2,c3,c4])=_ at f0;rw[cells_cell] at f0;obtain⟨p,hp⟩:=pt_of_trod f0;obtain⟨d,e1,_,wd⟩:=DataW.trod_int Tryz.underlying5 f1;obtain⟨s,e2,_,ws⟩:=DataW.trod_int Tryz.underlying5 f2;change List.take (Tryz.prog.cellsOf 5) [c3,c4]=_ at e1;change List.take (Tryz.prog.cellsOf 5) [c4]=_ at e2;rw[cells_u8] at e1 e2;simp at e1 e2;subst e1 e2;unfold Pt.cs at hp;simp only[List.cons.injEq,and_true] at hp;obtain⟨rfl,rfl,rfl⟩:=hp
    exact⟨⟨p,d,s⟩,hget,bounds_u8 wd,bounds_u8 ws⟩)
 refine⟨l,hl,?_,fun x hm=> ?_⟩
 ·have:=rows_map Knb.cs (hl.trans hS.len.symm) fun i x hx=>(hp i x hx).1;rw[←this,hl];exact hS
 ·obtain⟨i,hi⟩:=List.getElem?_of_mem hm;exact(hp i x hi).2
theorem slice_form'{t e:TypeId}(ht:Tryz.prog.underlying t=some (.slice e)){fuel:Nat}{c:Value}{x:DataW H×List MemPlace}(h:DataW.trod enc Tryz.prog w base spare held fuel t [c]=some x): ∃A n ca,c = .slice A n ca∧(A=none→ca=0):=by
 rcases open_slice ht h with⟨h,_⟩|⟨a,len,cap',_,_,_,_,h,_⟩
 ·exact⟨none,0,0,by simpa using h,fun _=>rfl⟩
 ·exact⟨some a,len,cap',by simpa using h,fun h=>by cases h⟩
theorem kind_of_trod{fuel:Nat}{c0 c1 c2:Value}{x:DataW H×List MemPlace}(h:DataW.trod enc Tryz.prog w base spare held fuel 112 [c0,c1,c2]=some x) :
  ∃(k:Knd) (p:KAt),[c0,c1,c2]=k.cs p∧KindAt w p k∧(p.A=none→p.ca=0)∧(p.B=none→p.cb=0):=by
 obtain⟨zs,m'',_,_,_,hzl,hg⟩:=DataW.trod_struct Tryz.underlying112 h;have g0:=hg 0 _ rfl;have g1:=hg 1 _ rfl;have g2:=hg 2 _ rfl
 match zs,hzl with
 | [z0,z1,z2],_ =>
  change DataW.trod enc _ _ _ _ _ _ _ (List.take (Tryz.prog.cellsOf 109) [c0,c1,c2])=_ at g0;change DataW.trod enc _ _ _ _ _ _ _ (List.take (Tryz.prog.cellsOf 110) [c1,c2])=_ at g1;rw[cells_scell] at g0;rw[cells_sknob] at g1;change DataW.trod enc _ _ _ _ _ _ _ [c0]=_ at g0;change DataW.trod enc _ _ _ _ _ _ _ [c1]=_ at g1;obtain⟨A,n,ca,rfl,hA⟩:=slice_form' Tryz.underlying109 g0;obtain⟨B,m,cb,rfl,hB⟩:=slice_form' Tryz.underlying110 g1;obtain⟨cells,rfl,hc⟩:=cells_of_trod g0;obtain⟨knobs,rfl,hn⟩:=knobs_of_trod g1;obtain⟨wt,h3,_,_⟩:=DataW.trod_int Tryz.underlying3 g2;change List.take (Tryz.prog.cellsOf 3) [c2]=_ at h3;rw[cells_int] at h3;simp at h3;subst h3;exact⟨⟨cells,knobs,wt⟩,⟨A,ca,B,cb⟩,rfl,⟨hc,hn⟩,hA,hB⟩
theorem kinds_of_trod{fuel n cap:Nat}{A:Option Addr}{x:DataW H×List MemPlace}
  (h:DataW.trod enc Tryz.prog w base spare held fuel 22 [.slice A n cap]=some x): ∃qs:List (Knd×KAt),qs.length=n∧Kinds w A cap qs ∧ ∀q∈qs,(q.2.A=none→q.2.ca=0)∧(q.2.B=none→q.2.cb=0):=by
 obtain⟨rows,hS,hr⟩:=rows_of_trod Tryz.underlying22 cells_kind (by omega) h;obtain⟨l,hl,hp⟩:=list_of (fun i (q:Knd×KAt)=>rows[i]? = some (q.1.cs q.2)∧KindAt w q.2 q.1∧(q.2.A=none→q.2.ca=0)∧(q.2.B=none→q.2.cb=0)) n (fun i hi=>by
  have hi':i<rows.length:=by rw[hS.len];exact hi
  have hget:rows[i]? = some rows[i]:=List.getElem?_eq_getElem hi';obtain⟨m,y,hy⟩:=hr _ (List.mem_of_getElem? hget);have hlen:=hS.wide _ (List.mem_of_getElem? hget);generalize rows[i]=r at hget hy hlen
  match r,hlen with
  | [c0,c1,c2],_ =>
   obtain⟨k,p,hp,hk⟩:=kind_of_trod hy
   exact⟨(k,p),by rw[hget,hp],hk⟩)
 refine⟨l,hl,⟨?_,fun q hm=> ?_⟩,fun q hm=> ?_⟩
 ·have:=rows_map (fun q:Knd×KAt=>q.1.cs q.2) (hl.trans hS.len.symm) fun i x hx=>(hp i x hx).1;rw[←this,hl];exact hS
 ·obtain⟨i,hi⟩:=List.getElem?_of_mem hm;exact(hp i q hi).2.1
 ·obtain⟨i,hi⟩:=List.getElem?_of_mem hm;exact(hp i q hi).2.2
theorem brick_of_trod{fuel:Nat}{c0 c1 c2 c3 c4 c5:Value}{x:DataW H×List MemPlace}(h:DataW.trod enc Tryz.prog w base spare held fuel 126 [c0,c1,c2,c3,c4,c5]=some x) :
  ∃b:Brk,[c0,c1,c2,c3,c4,c5]=b.cs∧b.byte:=by
 obtain⟨zs,m'',_,_,_,hzl,hg⟩:=DataW.trod_struct Tryz.underlying126 h;have g0:=hg 0 _ rfl;have g1:=hg 1 _ rfl;have g2:=hg 2 _ rfl;have g3:=hg 3 _ rfl
 match zs,hzl with
 | [z0,z1,z2,z3],_ =>
  change DataW.trod enc _ _ _ _ _ _ _ (List.take (Tryz.prog.cellsOf 124) [c1,c2,c3,c4,c5])=_ at g1;rw[cells_cell] at g1;obtain⟨p,hp⟩:=pt_of_trod g1;obtain⟨k,h1,_,_⟩:=DataW.trod_int Tryz.underlying3 g0;obtain⟨t,h2,_,wt⟩:=DataW.trod_int Tryz.underlying5 g2;obtain⟨c,h3,_,wc⟩:=DataW.trod_int Tryz.underlying5 g3;change List.take (Tryz.prog.cellsOf 3) [c0,c1,c2,c3,c4,c5]=_ at h1;change List.take (Tryz.prog.cellsOf 5) [c4,c5]=_ at h2;change List.take (Tryz.prog.cellsOf 5) [c5]=_ at h3;rw[cells_int] at h1;rw[cells_u8] at h2 h3;simp at h1 h2 h3;subst h1 h2 h3;unfold Pt.cs at hp;simp only[List.cons.injEq,and_true] at hp;obtain⟨rfl,rfl,rfl⟩:=hp;exact⟨⟨k,p,t,c⟩,rfl,bounds_u8 wt,bounds_u8 wc⟩
theorem bricks_of_trod{fuel n cap:Nat}{A:Option Addr}{x:DataW H×List MemPlace}
  (h:DataW.trod enc Tryz.prog w base spare held fuel 23 [.slice A n cap]=some x): ∃l:List Brk,l.length=n∧Bricks w A cap l:=by
 obtain⟨rows,hS,hr⟩:=rows_of_trod Tryz.underlying23 cells_brick (by omega) h;obtain⟨l,hl,hp⟩:=list_of (fun i (p:Brk)=>rows[i]? = some p.cs∧p.byte) n (fun i hi=>by
  have hi':i<rows.length:=by rw[hS.len];exact hi
  have hget:rows[i]? = some rows[i]:=List.getElem?_eq_getElem hi';obtain⟨m,y,hy⟩:=hr _ (List.mem_of_getElem? hget);have hlen:=hS.wide _ (List.mem_of_getElem? hget);generalize rows[i]=r at hget hy hlen
  match r,hlen with
  | [c0,c1,c2,c3,c4,c5],_ =>
   obtain⟨b,hb,hbb⟩:=brick_of_trod hy
   exact⟨b,by rw[hget,hb],hbb⟩)
 refine⟨l,hl,?_,fun x hm=> ?_⟩
 ·have:=rows_map Brk.cs (hl.trans hS.len.symm) fun i x hx=>(hp i x hx).1;rw[←this,hl];exact hS
 ·obtain⟨i,hi⟩:=List.getElem?_of_mem hm;exact(hp i x hi).2
end
end Go.Proofs.YtojolpbpjimfgaaGreatDoor
