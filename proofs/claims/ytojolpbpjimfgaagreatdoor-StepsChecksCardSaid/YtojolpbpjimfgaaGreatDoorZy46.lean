/- Texts of the proof: Follow, Check6, RFits. -/
import Derived.Test.YtojolpbpjimfgaaGreatDoorZy17
import Derived.Test.YtojolpbpjimfgaaGreatDoorZy27
import Derived.Test.YtojolpbpjimfgaaGreatDoorZy29
import Derived.Test.YtojolpbpjimfgaaGreatDoorZy30
import Derived.Test.YtojolpbpjimfgaaGreatDoorZy34
import Derived.Test.YtojolpbpjimfgaaGreatDoorZy36
import Derived.Test.YtojolpbpjimfgaaGreatDoorZy37
import Derived.Test.YtojolpbpjimfgaaGreatDoorZy44
import Derived.Test.YtojolpbpjimfgaaGreatDoorZy45
set_option maxHeartbeats 16000000
set_option maxRecDepth 100000
namespace Go.Proofs.YtojolpbpjimfgaaGreatDoor
open Go.RowKit
theorem stepsOk_head{n:Nat}{most:Int}{z:Nat}{t:List StpV}{k:Nat}{s:StpV}(hs:t[k]? = some s)(h:stepsOk n most z (t.drop k)=true):putsOk n z s.l=true∧stepsOk n most (putsZ z s.l) (t.drop (k+1))=true:=by
 rw[stepsOk_at hs,Bool.and_eq_true,Bool.and_eq_true] at h;exact⟨h.1.2,h.2⟩
theorem putsOk_head{n z:Nat}{l:List PutV}{k:Nat}{p:PutV}(hp:l[k]? = some p)(h:putsOk n z (l.drop k)=true):putOk n z p=true∧putsOk n (putN z p.b.toNat) (l.drop (k+1))=true:=by
 rw[putsOk_at hp,Bool.and_eq_true] at h;exact h
theorem Blk.cell0{w:World}{g:Nat}{t:TypeId}{v:Value}(h:Blk w g t #[v]):w.cell? ⟨g,0,none⟩=some v:=by
 have:=h.cell (i:=0);exact this
theorem Blk.frozen0{w:World}{g:Nat}{t:TypeId}{v:Value}(h:Blk w g t #[v]):w.frozen? ⟨g,0,none⟩=false:=h.frozen 0
theorem follow6_c(m:MB)(p:PlV)(hm:List (Int×Bool))(most:Int)(q:List (StpV×SAt))(SA:Option Addr)(sc:Nat)(w0 w:World)(E0:Ext w0 w)(hM:MBAt w0 m)(h0:restErr m.ks m.bs m.tab m.hands=0)(hq:StepsZ w0 SA sc q)(hf:FewS (q.map (·.1)))(hok:stepsOk m.bs.length most 0 (q.map (·.1))=true)(hT:Tz6Tab w0)(hp:PlanAt w m p hm)(hX:w0.heap.size≤p.H) :
  Calls Tryz.prog 44 #[.pointer (some ⟨p.X,0,none⟩),.slice SA q.length sc] w fun e w'=>e = .returned (.int .i64 (stepsE m 0 (q.map (·.1))))∧Ext w0 w':=by
 have hcm:=(restErr_zero h0).1;have hnb:=(hM.fit hcm).n;have hn64:m.bs.length≤64:=by omega
 obtain⟨t,ht⟩:=nm (q.map (·.1));rw[ht] at hf hok;rw[ht];have hlt0:t.length=q.length:=by rw[←ht,List.length_map]
 have hg: ∀(i:Nat) (x:StpV×SAt),q[i]? = some x→t[i]? = some x.1:=fun i x h=>by rw[←ht,List.getElem?_map,h];rfl
 have hHw:p.H<w.heap.size:=hp.h.lt;obtain⟨W1,hW1,E1,B1,hz1⟩:=mk_ w #[.int .i64 0] 30;obtain⟨R,hR⟩:=nm w.heap.size;rw[hR] at B1 hHw;have HRH:=h_ (show R≠p.H by omega);have HR0:=h_ (show w0.heap.size≤R by omega);have Hg:=h_ hg;have HF:=h_ hf;have HQ:=h_ hq;have HL:=h_ hlt0;have HM:=h_ hM;have HT:=h_ hT;have H0:=h_ h0;have HX:=h_ hX;have Hok:=h_ hok;have HB1:=h_ B1;have HP1:=h_ (hp.ext E1);have HE1:=h_ (E0.trans E1);have hq100:q.length≤100:=by have:=hf.1;omega
 have hle:=hq.1.le;have hsm:=hq.1.small;have hmf: ∀(fn:Fn) (first cap:Array Value) (w:World),(Instr.makeFunc fn first cap).run Tryz.prog w = .ok (.func fn first cap) w:=fun _ _ _ _=>rfl;clear E0 hM h0 hq hf hok hT hp hX ht hlt0 hg hHw E1 B1 hz1 hcm hnb
 go_enter_defers Tryz.func44,Tryz.ntmps44
 go_wp2_with fail;clear hW1 hR;go_loopw [5,14] (fun vs ii wr=> ∃(i z:Nat) (hm:List (Int×Bool)),i≤q.length∧ii = .int .i64 i∧vs = .int .u64 z∧Hid (SetB m.bs.length z)∧Hid (stepsOk m.bs.length most z (t.drop i)=true)∧Hid (stepsE m 0 t=stepsE m z (t.drop i))∧Hid (PlanAt wr m p hm)∧Hid (Ext w0 wr)∧Hid (Blk wr R 30 #[.int .i64 0])) (fun _ ii _=>q.length-(intOf ii).toNat)
 case atStart=>exact⟨0,0,hm,by omega,rfl,rfl,h_ (SetB.zero _),Hok,h_ rfl,HP1,HE1,HB1⟩
 case round =>
  clear HP1 HE1 HB1 Hok;obtain⟨i,z,hm,hi,rfl,rfl,Hz,Ho,Hs,HP,HE,HB⟩:=hrel;by_cases hlt:i<q.length
  ·obtain⟨x,hx⟩: ∃x,q[i]? = some x:=⟨_,List.getElem?_eq_getElem hlt⟩;obtain⟨g,off,rfl⟩:=HQ.out.addr (by omega);obtain⟨c0,c1⟩:=(HQ.out.ext HE.out).cell hx rfl;have hby:=(HQ.out.puts hx).2;have HPu:=h_ (HQ.out.puts hx).1;have hTx:=Hg.out _ _ hx;have Hst:=h_ (stepsE_at (m:=m) (z:=z) hTx);have hhd:=stepsOk_head hTx Ho.out;have hl100:=HF.out.2 _ (List.mem_of_getElem? hTx);obtain⟨⟨l,v⟩,⟨PA,pc⟩⟩:=x;simp only at c0 c1 HPu hby hl100 hhd;have Hpok:=h_ hhd.1;have Hnok:=h_ hhd.2;have hpl:=HPu.out.1.le;have hps:=HPu.out.1.small;obtain⟨W2,hW2,E2,B2,hz2⟩:=mk_ wr #[.slice PA l.length pc,.int .u8 v] 84;have b2:=B2.cell;have HE2:=h_ (HE.out.trans E2);have HP2:=h_ (HP.out.ext E2);have HBR2:=h_ (HB.out.ext E2);obtain⟨X,hXe⟩:=nm wr.heap.size;have HXH:=h_ (show wr.heap.size≠p.H by have:=HP.out.h.lt;omega);have HB2:=h_ B2;have i0:(0:Int)≤i:=by omega
   have i1:(i:Int)<q.length:=by omega
   have i2:(i:Int)<sc:=by omega
   have hby':0≤v∧v<256:=hby;obtain⟨hv0,hv1⟩:=hby';clear hx hby hTx B2 hz2 E2 hhd Ho HP HE HB hXe X;go_wp2_with fail;clear b2 c0 c1 hW2;go_loopw [5,8,21] (fun vs vy kk wr2=> ∃(k z2 y:Nat) (hm:List (Int×Bool)),k≤l.length∧kk = .int .i64 k∧vs = .int .u64 z2∧vy = .int .u64 y∧Hid (SetB m.bs.length z2)∧Hid (SetB m.bs.length y)∧Hid (z2=putsZ z (l.take k))∧Hid (y=putsZ 0 (l.take k))∧Hid (putsE m z l=putsE m z2 (l.drop k))∧Hid (putsOk m.bs.length z2 (l.drop k)=true)∧Hid (PlanAt wr2 m p hm)∧Hid (Ext w0 wr2)∧Hid (Blk wr2 R 30 #[.int .i64 0])∧Hid (Blk wr2 wr.heap.size 84 #[.slice PA l.length pc,.int .u8 v])) (fun _ _ kk _=>l.length-(intOf kk).toNat)
   case atStart=>exact⟨0,z,0,hm,by omega,rfl,rfl,rfl,Hz,h_ (SetB.zero _),h_ rfl,h_ rfl,h_ rfl,h_ Hpok.out,HP2,HE2,HBR2,HB2⟩
   case round =>
    clear HP2 HE2 HBR2 HB2;obtain⟨k,z2,y,hm,hk,rfl,rfl,rfl,Hz2,Hy2,He2,Hye,Hpe,Hpo,HP,HE,HB,HBs⟩:=hrel;by_cases hkl:k<l.length
    ·obtain⟨pt,hpt⟩: ∃p,l[k]? = some p:=⟨_,List.getElem?_eq_getElem hkl⟩;obtain⟨pg,po,rfl⟩:=HPu.out.addr (by omega);obtain⟨e0,e1⟩:=(HPu.out.ext HE.out).cell hpt rfl;have hhd:=putsOk_head hpt Hpo.out;have Hpn:=h_ hhd.2;obtain⟨⟨a1,a2⟩,a3,a4⟩:=putOk_iff.1 hhd.1;have hd0:=(HPu.out.byte hpt).1;have Hpt:=h_ (putsE_at (m:=m) (z:=z2) hpt);have Htk:=h_ (take_at hpt);obtain⟨pb,pd⟩:=pt;obtain⟨b,rfl⟩:=Int.eq_ofNat_of_zero_le a1;obtain⟨d,rfl⟩:=Int.eq_ofNat_of_zero_le hd0;simp only[Int.toNat_natCast] at e0 e1 a2 a4 Hpn Hpt Htk;have hbn:b<m.bs.length:=by omega
     have hd6:d<6:=by omega
     obtain⟨W3,hW3,E3,B3,hz3⟩:=mk_ wr #[.int .i64 b,.int .u8 d] 89;have b3:=B3.cell;have HB3:=h_ B3;have HE3:=h_ (HE.out.trans E3);have HP3:=h_ (HP.out.ext E3);have HBR3:=h_ (HB.out.ext E3);have HBs3:=h_ (HBs.out.ext E3);have HwH:=h_ (show wr.heap.size≠p.H by have:=HP.out.h.lt;omega);have FC:=free6_c m p hm z2 b d W3 HP3.out (HM.out.ext HE3.out) (restErr_zero H0.out).1 ((restErr_zero H0.out).2.2.2 b hbn) Hz2.out hbn hd6;obtain⟨r1,hr1⟩:=nm (freeB m.ks m.bs m.tab z2 b d);rw[hr1] at FC;have Hr1:=h_ hr1;have Hw6:=h_ (fun(z:Nat) (hz:z<2 ^ 64) (W:World)=>with6_c z b hz (show b<64 by omega) W);have hz64:=(Hz2.out.mono hn64).lt;have hy64:=(Hy2.out.mono hn64).lt;have Hzn:=h_ (Hz2.out.put hbn);have Hyn:=h_ (Hy2.out.put hbn);have k0:(0:Int)≤k:=by omega
     have k1:(k:Int)<l.length:=by omega
     have k2:(k:Int)<pc:=by omega
     clear hpt hhd a1 a3 hd0 B3 hz3 E3 hr1 HP HE HB HBs Hpo;go_wp2_with fail;refine FC.mono ?_;rintro e W4 ⟨rfl,E4⟩;have HE4:=h_ (HE3.out.trans E4);have HP4:=h_ (HP3.out.ext E4);have HBR4:=h_ (HBR3.out.ext E4);have HBs4:=h_ (HBs3.out.ext E4);have HB4:=h_ (HB3.out.ext E4);have b4:=HB4.out.cell;clear FC E4 b3 e0 e1 hW3;cases r1
     ·have Hr:=h_ (show stepsE m 0 t=61 from by
       have e1:putE m z2 ⟨b,d⟩=61:=by unfold putE;simp only[Int.toNat_natCast];rw[Hr1.out];rfl
       have e2:putsE m z l=61:=by rw[Hpe.out,Hpt.out,if_neg (by rw[e1];decide),e1]
       have e3:stepE m z ⟨l,v⟩=61:=by unfold stepE;simp only[];rw[if_neg (by rw[e2];decide),e2]
       rw[Hs.out,Hst.out,if_neg (by rw[e3];decide),e3])
      go_wp2_with fail;refine(must_bad 61 _).mono ?_;rintro r w' ⟨rfl,e2⟩;subst w';go_wp2_with fail;refine leaves_cons (f:=80) (args:= #[.pointer (some ⟨R,0,none⟩)]) (by simp) (by simp[go_sem]) ?_;refine(catch6_bad R 0 61 [] _ HBR4.out.cell0 HBR4.out.frozen0).mono ?_;rintro e u' w'' ⟨rfl,rfl,rfl⟩;have bR:=(HBR4.out.set_ 0 (.int .i64 61)).cell;have EF:=HE4.out.setCell (p:=⟨R,0,none⟩) HR0.out (.int .i64 61);simp[Leaves,settle,results,Tryz.results44,go_sem,bR];exact⟨by rw[Hr.out],EF⟩
     go_wp2_with fail;refine(must_ok 61 _).mono ?_;rintro r w' ⟨rfl,e2⟩;subst w'
     go_upto_region 10 with(fail)
     refine w_g ?_
     repeat (go_big_quiet_step ((go_at_call 52;exact quiet_ext (Hw6.out _ (by assumption) _))))
     refine wpQuiet_nil ?_;intro W5 hW5;have E5:Ext W4 W5:=by
      obtain⟨x,rfl⟩:=hW5;exact(Ext.refl _).grow x
     clear hW5;obtain⟨hcW5,hfW5,hzW5⟩:=ext_facts E5;have HE5:=h_ (HE4.out.trans E5);have HP5:=h_ (HP4.out.ext E5);have HBR5:=h_ (HBR4.out.ext E5);have HBs5:=h_ (HBs4.out.ext E5);clear E5 b4 hcW5 hfW5 hzW5 hz64 hy64;have HC:=holds6_c m p hm (putN z2 b) W5 HP5.out (HM.out.ext HE5.out) H0.out Hzn.out (HT.out.ext HE5.out);obtain⟨r2,hr2⟩:=nm (holdB m.ks m.bs m.tab m.hands (putN z2 b));unfold HoldsPost at HC;rw[hr2] at HC;have Hr2:=h_ hr2;clear hr2;go_wp2_with fail;refine HC.mono ?_;rintro e W6 ⟨rfl,⟨hm6,hP6⟩,O6⟩;have HP6:=h_ hP6;have HE6:=h_ (Only.below HE5.out O6 (fun k e=>by rw[e];exact HX.out));have HBR6:=h_ (O6.blk HBR5.out HRH.out);have HBs6:=h_ (O6.blk HBs5.out HXH.out);clear HC hP6 O6;cases r2
     ·have Hr:=h_ (show stepsE m 0 t=62 from by
       have e1:putE m z2 ⟨b,d⟩=62:=by unfold putE;exact(if_pos Hr1.out).trans (if_neg (show ¬(holdB m.ks m.bs m.tab m.hands (putN z2 b)=true) by rw[Hr2.out];decide))
       have e2:putsE m z l=62:=by rw[Hpe.out,Hpt.out,if_neg (by rw[e1];decide),e1]
       have e3:stepE m z ⟨l,v⟩=62:=by unfold stepE;simp only[];rw[if_neg (by rw[e2];decide),e2]
       rw[Hs.out,Hst.out,if_neg (by rw[e3];decide),e3])
      go_wp2_with fail;refine(must_bad 62 _).mono ?_;rintro r w' ⟨rfl,e2⟩;subst w';go_wp2_with fail;refine leaves_cons (f:=80) (args:= #[.pointer (some ⟨R,0,none⟩)]) (by simp) (by simp[go_sem]) ?_;refine(catch6_bad R 0 62 [] _ HBR6.out.cell0 HBR6.out.frozen0).mono ?_;rintro e u' w'' ⟨rfl,rfl,rfl⟩;have bR:=(HBR6.out.set_ 0 (.int .i64 62)).cell;have EF:=HE6.out.setCell (p:=⟨R,0,none⟩) HR0.out (.int .i64 62);simp[Leaves,settle,results,Tryz.results44,go_sem,bR];exact⟨by rw[Hr.out],EF⟩
     have Hpe2:=h_ (show putsE m z l=putsE m (putN z2 b) (l.drop (k+1)) from by
      have e1:putE m z2 ⟨b,d⟩=0:=by unfold putE;exact(if_pos Hr1.out).trans (if_pos Hr2.out)
      rw[Hpe.out,Hpt.out,if_pos e1])
     go_wp2_with fail;refine(must_ok 62 _).mono ?_;rintro r w' ⟨rfl,e2⟩;subst w';go_wp2_with fail;go_roundw
     case rel=>exact⟨k+1,putN z2 b,putN y b,hm6,by omega,by go_num,rfl,rfl,Hzn,Hyn,h_ (by rw[Htk.out,putsZ_snoc,←He2.out];rfl),h_ (by rw[Htk.out,putsZ_snoc,←Hye.out];rfl),Hpe2,Hpn,HP6,HE6,HBR6,HBs6⟩
     case measure=>simp only[intOf];omega
    ·obtain rfl:k=l.length:=by omega
     have hz2:z2=putsZ z l:=by rw[He2.out,List.take_length]
     have hy2:y=putsZ 0 l:=by rw[Hye.out,List.take_length]
     have Hp0:=h_ (show putsE m z l=0 from by rw[Hpe.out,drop_all];rfl);obtain⟨hset,hall,hnd⟩:=putsOk_all Hpok.out Hz.out;have HVw:=h_ (fun(W:World) (E':Ext wr W)=>view6_c m p hm z2 y l W (HP.out.ext E') (HM.out.ext (HE.out.trans E')) (restErr_zero H0.out).1 Hz2.out (HT.out.ext (HE.out.trans E')) ((Hy2.out.mono hn64).lt) (fun p hp=>⟨(hall p hp).1,(hall p hp).2.1⟩) hnd
      (fun p hp=>by rw[hz2];exact(putsZ_bit z l _).2 (.inr ⟨p,hp,rfl⟩)) (fun j=>by rw[hy2,putsZ_bit];simp))
     have bs:=HBs.out.cell;have Hz2e:=h_ hz2;obtain⟨vq,hvq⟩:=nm (viewQ m.ks m.bs z2 l);rw[hvq] at HVw;have Hvq:=h_ hvq;clear hz2 hy2 hset hall hnd hvq Hpo He2 Hye Hpe
     go_upto_region 14 with(fail)
     by_cases hve:v=(vq:Int)
     ·have hv':(v==(vq:Int))=true:=by simpa using hve
      refine wp_region_tail 7 (by kernel_rfl) (by kernel_rfl) ?_;simp only[List.take_succ_cons,List.take_zero,List.drop_succ_cons,List.drop_zero]
      repeat (go_big_quiet_step ((go_at_call 53;exact quiet_ext (HVw.out _ (by first|exact Ext.refl _|exact(Ext.refl _).grow _)))))
      refine wpQuiet_nil ?_;intro W5 hW5;have E5:Ext wr W5:=by
       obtain⟨x,rfl⟩:=hW5;exact(Ext.refl _).grow x
      clear hW5;obtain⟨hcW5,hfW5,hzW5⟩:=ext_facts E5;have HE5:=h_ (HE.out.trans E5);have HP5:=h_ (HP.out.ext E5);have HBR5:=h_ (HB.out.ext E5);clear E5 bs hcW5 hfW5 hzW5;go_wp2_with fail;refine(must_ok 63 _).mono ?_;rintro r w' ⟨rfl,e2⟩;subst w';have Hnx:=h_ (show stepsE m 0 t=stepsE m z2 (t.drop (i+1)) from by
       have e3:stepE m z ⟨l,v⟩=0:=by unfold stepE;simp only[];rw[if_pos Hp0.out,←Hz2e.out,Hvq.out,if_pos hve]
       rw[Hs.out,Hst.out,if_pos e3,←Hz2e.out])
      have Hno:=h_ (show stepsOk m.bs.length most z2 (t.drop (i+1))=true from by rw[Hz2e.out];exact Hnok.out);go_wp2_with fail;go_roundw
      case rel=>exact⟨i+1,z2,hm,by omega,by go_num,rfl,Hz2,Hno,Hnx,HP5,HE5,HBR5⟩
      case measure=>simp only[intOf];omega
     ·have hv':(v==(vq:Int))=false:=by simpa using hve
      refine wp_region_tail 7 (by kernel_rfl) (by kernel_rfl) ?_;simp only[List.take_succ_cons,List.take_zero,List.drop_succ_cons,List.drop_zero]
      repeat (go_big_quiet_step ((go_at_call 53;exact quiet_ext (HVw.out _ (by first|exact Ext.refl _|exact(Ext.refl _).grow _)))))
      refine wpQuiet_nil ?_;intro W5 hW5;have E5:Ext wr W5:=by
       obtain⟨x,rfl⟩:=hW5;exact(Ext.refl _).grow x
      clear hW5;obtain⟨hcW5,hfW5,hzW5⟩:=ext_facts E5;have HE5:=h_ (HE.out.trans E5);have HBR5:=h_ (HB.out.ext E5);clear E5 bs hcW5 hfW5 hzW5;have Hr:=h_ (show stepsE m 0 t=63 from by
       have e3:stepE m z ⟨l,v⟩=63:=by unfold stepE;simp only[];rw[if_pos Hp0.out,←Hz2e.out,Hvq.out,if_neg hve]
       rw[Hs.out,Hst.out,if_neg (by rw[e3];decide),e3])
      go_wp2_with fail;refine(must_bad 63 _).mono ?_;rintro r w' ⟨rfl,e2⟩;subst w';go_wp2_with fail;refine leaves_cons (f:=80) (args:= #[.pointer (some ⟨R,0,none⟩)]) (by simp) (by simp[go_sem]) ?_;refine(catch6_bad R 0 63 [] _ HBR5.out.cell0 HBR5.out.frozen0).mono ?_;rintro e u' w'' ⟨rfl,rfl,rfl⟩;have bR:=(HBR5.out.set_ 0 (.int .i64 63)).cell;have EF:=HE5.out.setCell (p:=⟨R,0,none⟩) HR0.out (.int .i64 63);simp[Leaves,settle,results,Tryz.results44,go_sem,bR];exact⟨by rw[Hr.out],EF⟩
  ·obtain rfl:i=q.length:=by omega
   have Hr:=h_ (show stepsE m 0 t=0 from by rw[Hs.out,←HL.out,drop_all];rfl);have bR:=HB.out.cell;have fR:=HB.out.frozen;go_wp2_with fail;refine leaves_cons (f:=80) (args:= #[.pointer (some ⟨R,0,none⟩)]) (by simp) (by simp[go_sem]) ?_;refine(catch6_idle R _).mono ?_;rintro e u' w'' ⟨rfl,rfl,e2⟩;subst e2;have bR2:=(HB.out.set_ 0 (.int .i64 0)).cell0;have EF:=HE.out.setCell (p:=⟨R,0,none⟩) HR0.out (.int .i64 0);simp[Leaves,settle,results,Tryz.results44,go_sem,bR2];exact⟨by rw[Hr.out],EF⟩
theorem Check6_c(m:MB)(most:Int)(q:List (StpV×SAt))(SA:Option Addr)(sc:Nat)(w:World)(hM:MBAt w m)(hq:StepsZ w SA sc q)(hf:FewS (q.map (·.1)))(hT:Tz6Tab w) :
  Calls Tryz.prog 16 #[.slice m.QA m.qs.length m.qc,.agg #[.slice m.B m.bs.length m.cb],.agg #[.int .i64 m.tab,.slice m.HA m.hands.length m.hc],.int .i64 most,.slice SA q.length sc] w fun e w'=>e = .returned (.int .i64 (chkE m most (q.map (·.1))))∧Ext w w':=by
 obtain⟨W1,hW1,E1,B1,hz1⟩:=mk_ w #[.slice m.B m.bs.length m.cb] 25;obtain⟨W2,hW2,E2,B2,hz2⟩:=mk_ W1 #[.int .i64 m.tab,.slice m.HA m.hands.length m.hc] 28;have E:=E1.trans E2;have HB1:=h_ (B1.ext E2);have HB2:=h_ B2;have b1:=HB1.out.cell;have b2:=HB2.out.cell;have HE:=h_ E;have HM:=h_ hM;have HQ:=h_ hq;have HF:=h_ hf;have HT:=h_ hT;have RE:=checkRest_c m.qs m.QA m.qc m.bs m.B m.cb m.tab m.HA m.hc m.hands W2 (hM.ext E).k (hM.ext E).b (hM.ext E).h;replace RE:Calls Tryz.prog 26 #[.slice m.QA m.qs.length m.qc,.agg #[.slice m.B m.bs.length m.cb],.agg #[.int .i64 m.tab,.slice m.HA m.hands.length m.hc]] W2 fun e w'=>e = .returned (.int .i64 (restErr m.ks m.bs m.tab m.hands))∧Ext W2 w':=RE;obtain⟨r,hr⟩:=nm (restErr m.ks m.bs m.tab m.hands);rw[hr] at RE;have Hr:=h_ hr;obtain⟨t,ht⟩:=nm (q.map (·.1));have Ht:=h_ ht;rw[ht];clear hz1 hz2 B1 B2 E1 E2 E hM hq hf hT hr ht;by_cases h0:r=0;rotate_left
 ·have h1:(r != 0)=true:=by simpa using h0
  have Hv:=h_ (show chkE m most t=r from by rw[chkE,if_neg (by rw[Hr.out];exact h0),Hr.out]);go_enter Tryz.func16,Tryz.ntmps16;go_wp2_with fail;refine RE.mono ?_;rintro e W3 ⟨rfl,E3⟩;go_wp2_with fail;refine bodyPost_ret (v:= .int .i64 r) (by simp[results,Tryz.results16,go_sem]) rfl ⟨by rw[Hv.out],HE.out.trans E3⟩
 subst h0;have hn40:=(HM.out.fit (restErr_zero Hr.out).1).n;go_enter Tryz.func16,Tryz.ntmps16;go_wp2_with fail;clear hW1 hW2;refine RE.mono ?_;rintro e W3 ⟨rfl,E3⟩;have HE3:=h_ (HE.out.trans E3);have HB13:=h_ (HB1.out.ext E3);have HB23:=h_ (HB2.out.ext E3);have b13:=HB13.out.cell;have b23:=HB23.out.cell;clear RE E3 b1 b2;by_cases hm1:most<1
 ·have Hv:=h_ (show chkE m most t=2 from by rw[chkE,if_pos Hr.out,if_neg (by omega)]);go_wp2_with fail;refine bodyPost_ret (v:= .int .i64 2) (by simp[results,Tryz.results16,go_sem]) rfl ⟨by rw[Hv.out],HE3.out⟩
 have hm1':decide (most<1)=false:=decide_eq_false hm1;by_cases hm8:most>8
 ·have Hv:=h_ (show chkE m most t=2 from by rw[chkE,if_pos Hr.out,if_neg (by omega)]);go_wp2_with fail;refine bodyPost_ret (v:= .int .i64 2) (by simp[results,Tryz.results16,go_sem]) rfl ⟨by rw[Hv.out],HE3.out⟩
 have hm8':decide (most>8)=false:=decide_eq_false hm8;have FC:=formed6_c m.bs.length most q SA sc W3 (HQ.out.ext HE3.out) (by omega) HF.out;rw[Ht.out] at FC;obtain⟨fb,hfb⟩:=nm (formB m.bs.length most t);rw[hfb] at FC;have Hfb:=h_ hfb;clear hfb;go_wp2_with fail;refine FC.mono ?_;rintro e W4 ⟨rfl,E4⟩;have HE4:=h_ (HE3.out.trans E4);have b14:=(HB13.out.ext E4).cell;have b24:=(HB23.out.ext E4).cell;clear FC E4 b13 b23;cases fb
 ·have Hv:=h_ (show chkE m most t=60 from by rw[chkE,if_pos Hr.out,if_pos ⟨by omega,by omega⟩,if_neg (by rw[Hfb.out];decide)]);go_wp2_with fail;refine bodyPost_ret (v:= .int .i64 60) (by simp[results,Tryz.results16,go_sem]) rfl ⟨by rw[Hv.out],HE4.out⟩
 have Hv:=h_ (show chkE m most t=stepsE m 0 t from by rw[chkE,if_pos Hr.out,if_pos ⟨by omega,by omega⟩,if_pos Hfb.out]);have Hok:=h_ (show stepsOk m.bs.length most 0 t=true from by
  have h:=Hfb.out;unfold formB at h;rw[Bool.and_eq_true] at h
  exact h.1)
 have ST:=start_c m W4 (HM.out.ext HE4.out) (restErr_zero Hr.out).1;have FW:=h_ (fun(p:PlV) (hm:List (Int×Bool)) (w5:World) (E5:Ext W4 w5) (hp:PlanAt w5 m p hm) (hX:W4.heap.size≤p.H)=>follow6_c m p hm most q SA sc W4 w5 E5 (HM.out.ext HE4.out) Hr.out (HQ.out.ext HE4.out) HF.out (by rw[Ht.out];exact Hok.out) (HT.out.ext HE4.out) hp hX);rw[Ht.out] at FW;go_wp2_with fail;clear b14 b24;refine ST.mono ?_;rintro e W5 ⟨p,rfl,hX,hp,E5⟩;have FP:=FW.out p [] W5 E5 hp hX;clear ST FW hp hX E5;go_wp2_with fail;refine FP.mono ?_;rintro e W6 ⟨rfl,E6⟩;have HE6:=h_ (HE4.out.trans E6);clear FP E6;go_wp2_with fail;refine bodyPost_ret (v:= .int .i64 (stepsE m 0 t)) (by simp[results,Tryz.results16,go_sem]) rfl ⟨by rw[Hv.out],HE6.out⟩
theorem within6_c(n lo hi:Int)(w:World):Calls Tryz.prog 35 #[.int .i64 n,.int .i64 lo,.int .i64 hi] w fun e w'=>e = .returned (.bool (inB lo hi n))∧Ext w w':=by
 by_cases h1:lo≤n
 ·by_cases h2:n≤hi
  ·have Hv:=h_ (inB_iff.2 ⟨h1,h2⟩);have h3:n≥lo:=h1;go_enter Tryz.func35,Tryz.ntmps35;go_wp2_with fail;go_ret;exact⟨by rw[Hv.out];rfl,Ext.refl w⟩
  ·have Hv:=h_ (inB_not (lo:=lo) (hi:=hi) (n:=n) |>.2 (fun h=>h2 h.2));go_enter Tryz.func35,Tryz.ntmps35;go_wp2_with fail;go_ret;exact⟨by rw[Hv.out];rfl,Ext.refl w⟩
 ·have Hv:=h_ (inB_not (lo:=lo) (hi:=hi) (n:=n) |>.2 (fun h=>h1 h.1));go_enter Tryz.func35,Tryz.ntmps35;go_wp2_with fail;go_ret;exact⟨by rw[Hv.out];rfl,Ext.refl w⟩
theorem rIn6_c(A:Option Addr)(ca:Nat)(l:List Int)(n:Int)(w:World)(hs:IntsZ w A ca l) :
  Calls Tryz.prog 36 #[.slice A l.length ca,.int .i64 n] w fun e w'=>e = .returned (.bool (hasZ l n))∧Ext w w':=by
 have hl:l.length≤9223372036854775807:=by have:=hs.len;unfold maxLen at this;omega
 go_enter Tryz.func36,Tryz.ntmps36;go_wp2_with fail;go_loopw [5] (fun i wr=> ∃k:Nat,k≤l.length∧i = .int .i64 k∧Hid (hasZ l n=hasZ (l.drop k) n)∧Ext w wr) (fun i _=>l.length-(intOf i).toNat)
 case atStart=>exact⟨0,by omega,rfl,h_ rfl,Ext.refl w⟩
 case round =>
  obtain⟨k,hk,rfl,Hj,E⟩:=hrel;by_cases hlt:k<l.length
  ·obtain⟨g,off,q,rfl,hq,hg,c0⟩:=hs.at_ hlt;have e0:=E.cell c0;have hle:=hs.le;clear c0;have Hd:=h_ (hasZ_drop (p:=n) hq);clear hq;have i1:(0:Int)≤k:=by omega
   have i2:(k:Int)<l.length:=by omega
   have i3:(k:Int)<ca:=by omega
   obtain⟨r,hr⟩:=nm ((q==n));have hr2:(q==n)=r:=hr;have Hr:=h_ hr;skip;cases r
   ·skip;go_wp2_with fail;go_roundw
    case rel=>exact⟨k+1,by omega,by go_num,h_ (by rw[Hj.out,Hd.out,Hr.out];rfl),E⟩
    case measure=>simp[intOf];omega
   ·skip;go_wp2_with fail;go_ret;exact⟨by rw[Hj.out,Hd.out,Hr.out];rfl,E⟩
  ·obtain rfl:k=l.length:=by omega
   go_wp2_with fail;go_ret;exact⟨by rw[Hj.out,hasZ_none (Nat.le_refl _)];rfl,E⟩
theorem rIn6_set{TA:Option Addr}{tc n z:Nat}(hz:SetB n z)(hn:n≤64)(i:Nat){w:World}(hs:IntsZ w TA tc (setI z)) :
  Calls Tryz.prog 36 #[.slice TA (setL z).length tc,.int .i64 i] w fun e w'=>e = .returned (.bool (z.testBit i))∧Ext w w':=by
 have h:=rIn6_c TA tc (setI z) i w hs;rw[setI_len,hasZ_setI hz hn] at h;exact h
theorem rKnobbedAt_c{qs:List (Knd×KAt)}{bs:List Brk}{w:World}{QA:Option Addr}{qc:Nat}(hk:Kinds w QA qc qs)(hb: ∀b∈bs,b.byte)(h0:modelErr (qs.map (·.1)) bs=0){j:Nat}(hj:j<bs.length)(W:World)(E:Ext w W) :
  Calls Tryz.prog 101 #[.slice QA qs.length qc,brkV (brkAt bs j)] W (RKnobsPost (bknobs (qs.map (·.1)) (brkAt bs j)) (bknobs (qs.map (·.1)) (brkAt bs j)).length W):=by
 obtain⟨i,t,x,y,z,c,k,p,e,ht,hi,hkf,hp,hby,has,-,hn⟩:=brk_parts hk hb h0 hj;have h:=rKnobbed_c qs QA qc i k.cells k.knobs k.weight p.A p.ca p.B p.cb hi t x y z c W (hk.ext E) (Nat.le_trans hkf.klen (by omega)) hkf.kok ht (hp.ok (by omega));have hl:k.knobs.length=(bknobs (qs.map (·.1)) (brkAt bs j)).length:=by rw[hn,placeK_len]
 rw[hl,←hn] at h;rw[e] at h ⊢;exact h
theorem knb_dir{w:World}{A:Option Addr}{n cap:Nat}{l:List Knb}(h:SliceIs w A n cap 5 (l.map Knb.cs))(hn:l.length=n){q:Nat}(hq:q<n): ∃b off,A=some ⟨b,off,none⟩∧w.cell? ⟨b,off+q*5+3,none⟩=some (.int .u8 (knbAt l q).dir):=by
 obtain⟨b,off,hA,hb,hc⟩:=h.cells (by omega);have hg:l[q]? = some (l[q]'(by omega)):=List.getElem?_eq_getElem _;have hr:(l.map Knb.cs)[q]? = some (knbAt l q).cs:=by rw[List.getElem?_map,hg,knbAt_eq hg];rfl
 exact⟨b,off,hA,hc q _ hr 3 _ rfl⟩
def FitsPost(ks:List Knd)(bs:List Brk)(L:List Lnk)(z b d:Nat)(w:World)(e:Ending)(w':World):Prop:= ∃r,e = .returned (.bool r)∧(r=true ↔ ∀x∈L,fitX ks bs z b d x)∧Ext w w'
section
variable {ks:List Knd} {bs:List Brk} {z b d:Nat}
theorem fitX_a{x:Lnk}(h:x.a<x.b)(e:x.a=b):fitX ks bs z b d x↔(z.testBit x.b=true→(knbAt (bknobs ks (brkAt bs b)) x.knob).dir=d):=⟨fun h1=>h1.1 e,fun h1=>⟨fun _=>h1,fun e2=>by omega⟩⟩
theorem fitX_b{x:Lnk}(h:x.a<x.b)(e:x.b=b):fitX ks bs z b d x↔(z.testBit x.a=true→(knbAt (bknobs ks (brkAt bs b)) x.other).dir=d):=⟨fun h1=>h1.2 e,fun h1=>⟨fun e2=>by omega,fun _=>h1⟩⟩
theorem fitX_no{x:Lnk}(h1:x.a≠b)(h2:x.b≠b):fitX ks bs z b d x:=⟨fun e=>absurd e h1,fun e=>absurd e h2⟩
end
theorem rFits_c(qs:List (Knd×KAt))(QA:Option Addr)(qc:Nat)(bs:List Brk)(B:Option Addr)(cb:Nat)(TA:Option Addr)(tc z b d:Nat)(LA:Option Addr)(lc:Nat)(w:World)(hk:Kinds w QA qc qs)(hb:Bricks w B cb bs)(hcm:checkErr (qs.map (·.1)) bs=0)(hz:SetB bs.length z)(hbn:b<bs.length)(hd:d<6)(hT:IntsZ w TA tc (setI z))(hL:Links w LA lc (linkL (qs.map (·.1)) bs)) :
  Calls Tryz.prog 106 #[.slice QA qs.length qc,.agg #[.slice B bs.length cb],.slice TA (setL z).length tc,.int .i64 b,.int .i64 d,.slice LA (linkL (qs.map (·.1)) bs).length lc] w (FitsPost (qs.map (·.1)) bs (linkL (qs.map (·.1)) bs) z b d w):=by
 have hf:=fit_of hk hb.2 hcm;have hnb:=hf.n;obtain⟨g,off,rfl⟩:=bricks_addr hb (by omega);obtain⟨W1,hW1,E1,B1,hz1⟩:=mk_ w #[.slice (some ⟨g,off,none⟩) bs.length cb] 25;have HIn:=h_ (fun(W:World) (E:Ext w W) (i:Nat)=>rIn6_set hz (by omega) i (IntsZ.ext hT E));have HKn:=h_ (fun(W:World) (E:Ext w W)=>rKnobbedAt_c hk hb.2 (check_model hcm) hbn W E);have HBc:=h_ (fun(W:World) (E:Ext w W)=>bricks_cell (hb.ext E) hbn (rfl:some (⟨g,off,none⟩:Addr)=some ⟨g,off,none⟩));have HLx:=h_ (fun(x:Lnk) (h:x∈linkL (qs.map (·.1)) bs)=>(⟨(mem_linkL.1 h).ab,lnk_lt h⟩:x.a<x.b∧_));have HDir:=h_ (fun(q:Nat) (hq:q<(bknobs (qs.map (·.1)) (brkAt bs b)).length)=>(hf.dirN hbn hq:_∧Go.Proofs.YtojolpbpjimfgaaGreatDoor.dirN (qs.map (·.1)) bs b q<6));have hll:(linkL (qs.map (·.1)) bs).length≤9223372036854775807:=by have:=hL.len;unfold maxLen at this;omega
 have hle:=SliceIs.le hL;obtain⟨ks,hks⟩:=nm (qs.map (·.1));rw[hks] at hL HKn HLx HDir hll hle ⊢;obtain⟨L,hLe⟩:=nm (linkL ks bs);have HLe:=h_ hLe;rw[hLe] at hL HLx hll hle ⊢;have HL:=h_ hL;obtain⟨nb,hnbe⟩:=nm bs.length;rw[hnbe] at hbn hnb HLx B1 hW1 ⊢;obtain⟨⟨kd,⟨x1,x2,x3⟩,tn,cl⟩,hbk⟩:=nm (brkAt bs b);have Hbk:=h_ hbk;rw[hbk] at HKn HBc HDir;obtain⟨N,hN⟩:=nm (bknobs ks ⟨kd,⟨x1,x2,x3⟩,tn,cl⟩);have HN:=h_ hN;rw[hN] at HKn HDir;have HB1:=h_ B1;have HE1:=h_ E1;have b1:=B1.cell;have b0:(0:Int)≤b:=by omega
 have b2:(b:Int)<nb:=by omega
 clear hz1 B1 E1 hk hb hf hks hLe hnbe hbk hN hT hL hcm;go_enter Tryz.func106,Tryz.ntmps106;go_wp2_with fail;clear b1;go_loopw [13] (fun i wr=> ∃k:Nat,k≤L.length∧i = .int .i64 k∧Hid (∀t,t<k → ∀x,L[t]? = some x→fitX ks bs z b d x)∧Ext W1 wr) (fun i _=>L.length-(intOf i).toNat)
 case atStart=>exact⟨0,by omega,rfl,h_ (fun t h=>absurd h (by omega)),Ext.refl _⟩
 case round =>
  obtain⟨k,hk,rfl,HJ,E⟩:=hrel;by_cases hlt:k<L.length
  ·obtain⟨lb,lo,p,rfl,hp,hlb,c0,c1,c2,c3,c4⟩:=(HL.out.ext (HE1.out.trans E)).at_ hlt;obtain⟨hab,hla,hlb2,hlq,hlo⟩:=HLx.out p (List.mem_of_getElem? hp);have Hj:=h_ (fun(h:fitX ks bs z b d p)=>show ∀t,t<k+1 → ∀x,L[t]? = some x→fitX ks bs z b d x from fun t ht x hx=>by
    rcases Nat.lt_or_ge t k with h1|h1
    ·exact HJ.out t h1 x hx
    ·obtain rfl:t=k:=by omega
     rw[hp] at hx;cases hx
     exact h)
   have HNo:=h_ (fun(h: ¬fitX ks bs z b d p)=>show ¬∀x∈L,fitX ks bs z b d x from fun h2=>h (h2 p (List.mem_of_getElem? hp)));have i1:(0:Int)≤k:=by omega
   have i2:(k:Int)<L.length:=by omega
   have i3:(k:Int)<lc:=by omega
   have HFa:=h_ (fun e=>fitX_a (ks:=ks) (bs:=bs) (z:=z) (b:=b) (d:=d) (x:=p) hab e);have HFb:=h_ (fun e=>fitX_b (ks:=ks) (bs:=bs) (z:=z) (b:=b) (d:=d) (x:=p) hab e);have HFn:=h_ (fun e e2=>fitX_no (ks:=ks) (bs:=bs) (z:=z) (b:=b) (d:=d) (x:=p) e e2);obtain⟨pa,pb,q1,q2,sr⟩:=p;simp only at c0 c1 c2 c3 c4 hab hla hlb2 hlq hlo HFa HFb HFn;obtain⟨W2,hW2,EW,B2,hz2⟩:=mk_ wr #[.int .i64 pa,.int .i64 pb,.int .i64 q1,.int .i64 q2,.int .u8 sr] 135;have HEW:=h_ (E.trans EW);have b2c:=B2.cell;clear hp hz2;go_wp2_with fail;clear c0 c1 c2 c3 c4;refine w_g ?_
   repeat (go_big_quiet_step ((fail)))
   refine wpQuiet_nil ?_;intro W4 hW4;have E4:Ext W2 W4:=by
    obtain⟨x,rfl⟩:=hW4;exact(Ext.refl _).grow x
   clear hW4;obtain⟨hcW4,hfW4,hzW4⟩:=ext_facts E4;clear hcW4 hfW4 hzW4;have HE4:=h_ (HEW.out.trans E4);have HB24:=h_ (B2.ext E4);have b2c:=HB24.out.cell;clear E4;by_cases hb1:pb=b
   ·have e1:((pb:Int)==(b:Int))=true:=by simp[hb1]
    have HFx:=h_ (HFb.out hb1)
    go_upto_region 7 with(fail)
    refine w_g ?_
    repeat (go_big_quiet_step ((fail)))
    refine wpQuiet_nil ?_;intro W5 hW5;have E5:Ext W4 W5:=by
     obtain⟨x,rfl⟩:=hW5;exact(Ext.refl _).grow x
    clear hW5;obtain⟨hcW5,hfW5,hzW5⟩:=ext_facts E5;clear hcW5 hfW5 hzW5;have HEc:=h_ (HE4.out.trans E5);go_wp2_with fail;have hq:=(hb1▸hlo);rw[Hbk.out,HN.out] at hq HFx;clear b2c;refine(HIn.out _ (HE1.out.trans HEc.out) pa).mono ?_;rintro e W6 ⟨rfl,E6⟩;have HE6:=h_ (HEc.out.trans E6);have b1:=(HB1.out.ext HE6.out).cell;obtain⟨t,ht⟩:=nm (z.testBit pa);rw[ht] at HFx ⊢;clear ht E6;cases t
    ·go_wp2_with fail;clear b1;go_roundw
     case rel=>exact⟨k+1,by omega,by go_num,h_ (Hj.out (HFx.out.2 nofun)),HE6.out⟩
     case measure=>simp[intOf];omega
    ·obtain⟨d0,d1,d2,d3,d4,d5⟩:=HBc.out W6 (HE1.out.trans HE6.out);go_wp2_with fail;clear b1 d0 d1 d2 d3 d4 d5;refine(HKn.out _ (HE1.out.trans HE6.out)).mono ?_;rintro e W7 ⟨KA,kc,rfl,hS,-,E7⟩;obtain⟨kb,ko,rfl,hkd⟩:=knb_dir hS rfl hq;have hkl:=hS.le;have hk0:(0:Int)≤q2:=by omega
     have hk1:(q2:Int)<N.length:=by omega
     obtain⟨hdr,hd6⟩:=HDir.out q2 hq;have HE7:=h_ (HE6.out.trans E7);rw[hdr] at hkd HFx;obtain⟨u,hu⟩:=nm (dirN ks bs b q2);rw[hu] at hkd HFx hd6;clear hS hdr hu E7;by_cases hud:u=d
     ·have huz:((u:Int) != (d:Int))=false:=by simp[hud]
      go_wp2_with fail;clear hkd;go_roundw
      case rel=>exact⟨k+1,by omega,by go_num,h_ (Hj.out (HFx.out.2 fun _=>by rw[hud])),HE7.out⟩
      case measure=>simp[intOf];omega
     ·have huz:((u:Int) != (d:Int))=true:=by simp;omega
      go_wp2_with fail;go_ret;exact⟨false,rfl,⟨nofun,fun h=>absurd h (HNo.out fun h=>hud (by have:=HFx.out.1 h trivial;omega))⟩,HE1.out.trans HE7.out⟩
   ·have e1:((pb:Int)==(b:Int))=false:=by simp;omega
    by_cases ha1:pa=b
    ·have e2:((pa:Int) != (b:Int))=false:=by simp[ha1]
     have HFx:=h_ (HFa.out ha1);have HEc:=HE4;go_wp2_with fail;have hq:=(ha1▸hlq);rw[Hbk.out,HN.out] at hq HFx;clear b2c;refine(HIn.out _ (HE1.out.trans HEc.out) pb).mono ?_;rintro e W6 ⟨rfl,E6⟩;have HE6:=h_ (HEc.out.trans E6);have b1:=(HB1.out.ext HE6.out).cell;obtain⟨t,ht⟩:=nm (z.testBit pb);rw[ht] at HFx ⊢;clear ht E6;cases t
     ·go_wp2_with fail;clear b1;go_roundw
      case rel=>exact⟨k+1,by omega,by go_num,h_ (Hj.out (HFx.out.2 nofun)),HE6.out⟩
      case measure=>simp[intOf];omega
     ·obtain⟨d0,d1,d2,d3,d4,d5⟩:=HBc.out W6 (HE1.out.trans HE6.out);go_wp2_with fail;clear b1 d0 d1 d2 d3 d4 d5;refine(HKn.out _ (HE1.out.trans HE6.out)).mono ?_;rintro e W7 ⟨KA,kc,rfl,hS,-,E7⟩;obtain⟨kb,ko,rfl,hkd⟩:=knb_dir hS rfl hq;have hkl:=hS.le;have hk0:(0:Int)≤q1:=by omega
      have hk1:(q1:Int)<N.length:=by omega
      obtain⟨hdr,hd6⟩:=HDir.out q1 hq;have HE7:=h_ (HE6.out.trans E7);rw[hdr] at hkd HFx;obtain⟨u,hu⟩:=nm (dirN ks bs b q1);rw[hu] at hkd HFx hd6;clear hS hdr hu E7;by_cases hud:u=d
      ·have huz:((u:Int) != (d:Int))=false:=by simp[hud]
       go_wp2_with fail;clear hkd;go_roundw
       case rel=>exact⟨k+1,by omega,by go_num,h_ (Hj.out (HFx.out.2 fun _=>by rw[hud])),HE7.out⟩
       case measure=>simp[intOf];omega
      ·have huz:((u:Int) != (d:Int))=true:=by simp;omega
       go_wp2_with fail;go_ret;exact⟨false,rfl,⟨nofun,fun h=>absurd h (HNo.out fun h=>hud (by have:=HFx.out.1 h trivial;omega))⟩,HE1.out.trans HE7.out⟩
    ·have e2:((pa:Int) != (b:Int))=true:=by simp;omega
     go_wp2_with fail;clear b2c;go_roundw
     case rel=>exact⟨k+1,by omega,by go_num,h_ (Hj.out (HFn.out ha1 hb1)),HE4.out⟩
     case measure=>simp[intOf];omega
  ·obtain rfl:k=L.length:=by omega
   have HJ2:=h_ (fun x (h:x∈L)=>by
    obtain⟨t,ht⟩:=List.getElem?_of_mem h
    exact HJ.out t (List.getElem?_eq_some_iff.1 ht).1 x ht)
   go_wp2_with fail;go_ret;exact⟨true,rfl,⟨fun _=>HJ2.out,fun _=>rfl⟩,HE1.out.trans E⟩
end Go.Proofs.YtojolpbpjimfgaaGreatDoor
