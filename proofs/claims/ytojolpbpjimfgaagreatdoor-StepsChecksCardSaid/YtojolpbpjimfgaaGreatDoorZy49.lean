/- Texts of the proof: RSeen, RView, RFreeL. -/
import Derived.Test.YtojolpbpjimfgaaGreatDoorZy9
import Derived.Test.YtojolpbpjimfgaaGreatDoorZy26
import Derived.Test.YtojolpbpjimfgaaGreatDoorZy37
import Derived.Test.YtojolpbpjimfgaaGreatDoorZy48
set_option maxHeartbeats 16000000
set_option maxRecDepth 100000
namespace Go.Proofs.YtojolpbpjimfgaaGreatDoor
open Go.RowKit
def HidP(ks:List Knd)(bs:List Brk)(z b d:Nat)(c:Pt):Prop:= ∃j,z.testBit j=true∧j≠b ∧ ∃t,1≤t∧backP d t c∈bcells ks (brkAt bs j)
theorem behind_pos{c p:Pt}{d:Nat}(hd:d<6):0<behindZ c p d ↔ ∃t,1≤t∧backP d t c=p:=by
 constructor
 ·intro h;obtain⟨n,hn⟩:=Int.eq_ofNat_of_zero_le (behind_nonneg c p d);exact⟨n,by omega,(behind_iff hd (by omega)).1 hn⟩
 ·rintro⟨t,h1,h3⟩;rw[(behind_iff hd h1).2 h3];omega
section
variable {ks:List Knd} {bs:List Brk} {z b d:Nat} {c:Pt}
theorem hid_yes{n k:Nat}{p:Pt}(hz:SetB n z)(hn:n≤64)(hk:k<(setL z).length)(hd:d<6)(hb:memA z k≠b)(hp:p∈bcells ks (brkAt bs (memA z k)))(h:0<behindZ c p d):HidP ks bs z b d c:=by
 obtain⟨t,t1,rfl⟩:=(behind_pos hd).1 h;exact⟨_,(setL_of hz hn).1 (List.mem_of_getElem? (memA_get hk)),hb,t,t1,hp⟩
theorem hid_no{n:Nat}(hz:SetB n z)(hn:n≤64)(hd:d<6)(h: ∀k,k<(setL z).length→memA z k≠b → ∀p∈bcells ks (brkAt bs (memA z k)),behindZ c p d≤0): ¬HidP ks bs z b d c:=by
 rintro⟨j,hj,hne,t,t1,hm⟩;obtain⟨k,hk⟩:=List.getElem?_of_mem ((setL_of hz hn).2 hj);have h1:=h k (List.getElem?_eq_some_iff.1 hk).1 (by rw[memA_eq hk];exact hne) _ (by rw[memA_eq hk];exact hm);have h2:=(behind_pos (c:=c) hd).2 ⟨t,t1,rfl⟩;omega
theorem see_hid:SeeP ks bs z b d ↔ ∃c∈bcells ks (brkAt bs b),¬HidP ks bs z b d c :=
 ⟨fun⟨c,hc,h⟩=>⟨c,hc,fun⟨j,hj,hne,t,t1,hm⟩=>h j hj hne t t1 hm⟩,fun⟨c,hc,h⟩=>⟨c,hc,fun j hj hne t t1 hm=>h ⟨j,hj,hne,t,t1,hm⟩⟩⟩
end
def HidPost(ks:List Knd)(bs:List Brk)(z b d:Nat)(c:Pt)(w:World)(e:Ending)(w':World):Prop:= ∃r,e = .returned (.bool r)∧(r=true↔HidP ks bs z b d c)∧Ext w w'
theorem rHidden_c(m:MB)(TA:Option Addr)(tc z b d:Nat)(x y zz:Int)(w:World)(hM:MBAt w m)(hcm:checkErr m.ks m.bs=0)(hz:SetB m.bs.length z)(hd:d<6)(hc:Small 2000 ⟨x,y,zz⟩)(hT:IntsZ w TA tc (setI z)) :
  Calls Tryz.prog 79 #[.slice m.QA m.qs.length m.qc,.agg #[.slice m.B m.bs.length m.cb],.slice TA (setL z).length tc,.int .i64 b,.agg #[.int .i64 x,.int .i64 y,.int .i64 zz],.int .i64 d] w (HidPost m.ks m.bs z b d ⟨x,y,zz⟩ w):=by
 have hf:=hM.fit hcm;have hnb:=hf.n;obtain⟨W1,hW1,E1,B1,hz1⟩:=mk_ w #[.slice m.B m.bs.length m.cb] 25;have HPl:=h_ (fun(j:Nat) (hj:j<m.bs.length)=>rPlacedAt_c hM.k hM.b.2 (check_model hcm) hj);have HNe:=h_ (fun(j:Nat) (hj:j<m.bs.length) (c:Pt) (hc:c∈bcells m.ks (brkAt m.bs j))=>in_small (cells_near hM.k hM.b.2 (check_model hcm) hj c hc));have HMe:=h_ (fun(k:Nat) (hk:k<(setL z).length)=>memA_lt hz (by omega) hk);have hzl:(setL z).length≤9223372036854775807:=by have:=setL_len z;omega
 obtain⟨T1,hT1⟩:=nm w.heap.size;have HT1:=h_ hT1;rw[hT1] at B1;have HT:=h_ hT;obtain⟨W2,hW2,E2,B2,hz2⟩:=mk_ W1 #[.int .i64 x,.int .i64 y,.int .i64 zz] 124;obtain⟨T2,hT2⟩:=nm W1.heap.size;have HT2:=h_ hT2;rw[hT2] at B2;have HB2:=h_ B2;have HE:=h_ (E1.trans E2);have HYes:=h_ (fun(k:Nat) (hk:k<(setL z).length) (p:Pt) hb hp h=>hid_yes (ks:=m.ks) (bs:=m.bs) (b:=b) (d:=d) (c:=⟨x,y,zz⟩) (p:=p) hz (by omega) hk hd hb hp h);have HNo:=h_ (fun h=>hid_no (ks:=m.ks) (bs:=m.bs) (b:=b) (d:=d) (c:=⟨x,y,zz⟩) hz (by omega) hd h);have HBr:=h_ hM.b;have HB1:=h_ (B1.ext E2);have b1:=HB1.out.cell;obtain⟨zn,hzn⟩:=nm ((setL z).length);have Hzn:=h_ hzn;obtain⟨nb,hnbe⟩:=nm m.bs.length;have Hnb:=h_ hnbe;rw[hzn] at HMe hzl HYes HNo ⊢;rw[hnbe] at HPl HNe HMe hnb HB1 b1 hW1 ⊢;have hnb0:zn=0∨0<nb:=by
  rcases Nat.eq_zero_or_pos zn with h|h
  ·exact Or.inl h
  ·exact Or.inr (by have:=HMe.out 0 h;omega)
 clear hz1 hz2 B1 B2 E1 E2 hM hf hT hcm hz hzn hnbe hT1 hT2;go_enter Tryz.func79,Tryz.ntmps79;go_wp2_with fail;rw[HT1.out,HT2.out];clear b1 hW1 hW2;go_loopw [13] (fun i w'=> ∃k:Nat,k≤zn∧i = .int .i64 k∧Ext W2 w'∧Hid (∀t,t<k→memA z t≠b → ∀p∈bcells m.ks (brkAt m.bs (memA z t)),behindZ ⟨x,y,zz⟩ p d≤0)) (fun i _=>zn-(intOf i).toNat)
 case atStart=>exact⟨0,by omega,rfl,Ext.refl _,h_ (fun t ht=>by omega)⟩
 case round =>
  obtain⟨k,hk,rfl,E,Hk⟩:=hrel;have HE5:=h_ (HE.out.trans E);have HB15:=h_ (HB1.out.ext E);by_cases hkn:k<zn
  ·obtain⟨g,off,hB⟩:=bricks_addr HBr.out (by rw[Hnb.out];omega);have HBc:=h_ (fun(j:Nat) (hj:j<nb) (W:World) (E:Ext w W)=>bricks_cell (HBr.out.ext E) (by rw[Hnb.out];exact hj) hB);have hcb:nb≤m.cb:=by have:=HBr.out.1.le;rw[Hnb.out] at this;exact this
   rw[hB] at HB15;clear hB;have TT:=IntsZ.ext HT.out HE5.out;obtain⟨tb,t9,kv,rfl,hkv,-,-⟩:=TT.at_ (show k<(setI z).length by rw[setI_len,Hzn.out];exact hkn);obtain rfl:kv=(memA z k:Int):=by
    rw[setI_get (memA_get (show k<(setL z).length by rw[Hzn.out];exact hkn))] at hkv;exact(Option.some.inj hkv).symm
   have hjn:=HMe.out k hkn;obtain⟨j,hj⟩:=nm (memA z k);rw[hj] at hkv hjn;have Hj:=h_ hj;have Hkv:=h_ hkv;have HTc:=h_ (fun(W:World) (E':Ext wr W)=>show W.cell? ⟨tb,t9+k,none⟩=some (.int .i64 j) from by
    obtain⟨tb',t9',kv',h1,h2,-,h3⟩:=(IntsZ.ext HT.out (HE5.out.trans E')).at_ (show k<(setI z).length by rw[setI_len,Hzn.out];exact hkn);cases h1;rw[Hkv.out] at h2;cases h2
    exact h3)
   have hle:=TT.le;rw[setI_len,Hzn.out] at hle;have HD:=h_ (fun(W:World) (E':Ext wr W)=>HBc.out j hjn W (HE5.out.trans E'));have HP:=h_ (HPl.out j hjn);have HNj:=h_ (HNe.out j hjn);obtain⟨⟨kj,⟨y1,y2,y3⟩,tj,cj⟩,hbj⟩:=nm (brkAt m.bs j);rw[hbj] at HD HP HNj;have Hbj:=h_ hbj;obtain⟨Lj,hLj⟩:=nm (bcells m.ks ⟨kj,⟨y1,y2,y3⟩,tj,cj⟩);obtain⟨nj,hnj⟩:=nm Lj.length;have Hnj:=h_ hnj;have HLj:=h_ hLj;have hclj:clen m.ks m.bs j=nj:=by unfold clen;rw[hbj,hLj,hnj]
   rw[show clen (m.qs.map (·.1)) m.bs j=nj from hclj,show bcells (m.qs.map (·.1)) ⟨kj,⟨y1,y2,y3⟩,tj,cj⟩=Lj from hLj] at HP;rw[hLj] at HNj;unfold brkV at HP;have k0:(0:Int)≤k:=by omega
   have k1:(k:Int)<zn:=by omega
   have j0:(0:Int)≤j:=by omega
   have j1:(j:Int)<nb:=by omega
   clear hj hkv hbj hLj hnj hclj TT;have tt:=HTc.out wr (Ext.refl _);by_cases hjb:j=b
   ·have e1:((j:Int)==(b:Int))=true:=by simp[hjb]
    have Hk2:=h_ (show ∀t,t<k+1→memA z t≠b → ∀p∈bcells m.ks (brkAt m.bs (memA z t)),behindZ ⟨x,y,zz⟩ p d≤0 from fun t ht=>by
     rcases Nat.lt_or_ge t k with h|h
     ·exact Hk.out t h
     ·obtain rfl:t=k:=by omega
      rw[Hj.out]
      exact fun h=>absurd hjb h)
    go_wp2_with fail;clear tt;go_roundw
    case rel=>exact⟨k+1,by omega,by go_num,E,Hk2⟩
    case measure=>simp only[intOf];omega
   ·have e1:((j:Int)==(b:Int))=false:=by simp;omega
    go_upto_region 5 with(fail)
    clear tt;refine wp_region_by (Pl10 wr (.slice m.QA m.qs.length m.qc) (.agg #[.int .i64 kj,.int .i64 y1,.int .i64 y2,.int .i64 y3,.int .u8 tj,.int .u8 cj]) T1 (some ⟨g,off,none⟩) (some ⟨tb,t9,none⟩) nb m.cb zn tc k j ⟨g,off+j*6,none⟩ ⟨tb,t9+k,none⟩ nj Lj) (by kernel_rfl) (by kernel_rfl) (by kernel_rfl) (fun us=>⟨(Ext.refl _).drew,(nofun),(nofun),(nofun),(nofun),(nofun),(nofun),(nofun),(nofun),(nofun),(nofun),(nofun)⟩) ⟨?_,?_,?_,?_,?_,?_,?_,?_,?_,?_,?_,trivial⟩ ?_
    any_goals (intro L us wx K a ha hp hd hun hI hK;replace hp:=h_ hp;replace hd:=h_ hd;simp only[putAll,Act.put,zs,Nat.reduceAdd] at ha;subst ha;simp only[Act.put,zs] at hK)
    ·go_simp;exact hK _ _ {hI with f0:=fun _=>rfl}
    ·go_simp;exact hK _ _ {hI with f1:=fun _=>rfl}
    ·have bb:=(HB15.out.ext hI.x).cell;rw[hI.f1 (h_p hp 1)] at hK ⊢;go_simp;exact hK _ _ {hI with f2:=fun _=>rfl}
    ·go_simp;exact hK _ _ {hI with f3:=fun _=>rfl}
    ·go_simp;exact hK _ _ {hI with f4:=fun _=>rfl}
    ·rw[hI.f3 (h_p hp 3),hI.f4 (h_p hp 4)] at hK ⊢;go_simp;exact hK _ _ {hI with f5:=fun _=>rfl}
    ·have tt:=HTc.out wx hI.x;rw[hI.f5 (h_p hp 5)] at hK ⊢;go_simp;exact hK _ _ {hI with f6:=fun _=>rfl}
    ·rw[hI.f2 (h_p hp 2),hI.f6 (h_p hp 6)] at hK ⊢;go_simp;exact hK _ _ {hI with f7:=fun _=>rfl}
    ·obtain⟨d0,d1,d2,d3,d4,d5⟩:=HD.out wx hI.x;rw[hI.f7 (h_p hp 7)] at hK ⊢;go_simp;exact hK _ _ {hI with f8:=fun _=>rfl}
    ·have EX:=h_ (HE5.out.trans hI.x);rw[hI.f0 (h_p hp 0),hI.f8 (h_p hp 8)] at hK ⊢;go_simp;go_at_call 68;refine(HP.out _ EX.out).mono ?_;rintro e wn ⟨g,cp,hg,rfl,q1,q2,X,En⟩;go_simp;refine hK _ _ ?_;refine {hI with x:=hI.x.trans En,f9:= ?_,f10:= ?_}<;>(first|exact fun h=>(hI.f9 h).ext En|exact fun h=>own_ext (hI.f9 h) En|exact fun h=>(hI.f10 h).ext En|exact fun h=>own_ext (hI.f10 h) En|exact fun _=>rfl|skip)
     all_goals exact(by first|exact fun _=>⟨cp,rfl,q1,q2,X⟩)
    ·obtain⟨cu,ua,q1,q2,X⟩:=hI.f9 (h_p hp 9);obtain⟨g2,hg2⟩:=nm (bk (us 9));rw[hg2] at ua X;clear hg2;rw[ua] at hK ⊢;go_simp;exact hK _ _ {hI with f10:=fun _=>⟨cu,rfl,q1,q2,X⟩}
    intro L us V hall hI;obtain⟨c2,u10,q1,q2,X2⟩:=hI.f10 (hall 10 (by simp));obtain⟨g2,hg2⟩:=nm (bk (us 10));rw[hg2] at u10 X2;simp only[putAll,Act.put,zs,Nat.reduceAdd,u10];have EV:=E.trans hI.x;have HEV:=h_ (HE5.out.trans hI.x);have HBV:=h_ (HB2.out.ext EV);have HX2:=h_ X2;have hnl:nj≤maxLen:=Nat.le_trans q1 q2;unfold maxLen at hnl;clear hall hI u10 hg2 X2 HB15 HD HP HTc HE5;go_wp2_with fail;go_loopw [15] (fun i w'=> ∃u:Nat,u≤nj∧i = .int .i64 u∧Ext V w'∧Hid (∀t,t<u → ∀p,Lj[t]? = some p→behindZ ⟨x,y,zz⟩ p d≤0)) (fun i _=>nj-(intOf i).toNat)
    case atStart=>exact⟨0,by omega,rfl,Ext.refl _,h_ (fun t ht=>by omega)⟩
    case round =>
     obtain⟨u,hu,rfl,E2,Hu⟩:=hrel;by_cases hun:u<nj
     ·obtain⟨⟨px,py,pz⟩,hc⟩: ∃c,Lj[u]? = some c:=⟨_,List.getElem?_eq_getElem (by rw[Hnj.out];exact hun)⟩;have hr:(Lj.map Pt.cs)[u]? = some (Pt.cs ⟨px,py,pz⟩):=by rw[List.getElem?_map,hc];rfl
      have RX:=HX2.out.ext E2;have p0:=RX.cell (pts_wide' Lj) hr (j:=0) rfl;have p1:=RX.cell (pts_wide' Lj) hr (j:=1) rfl;have p2:=RX.cell (pts_wide' Lj) hr (j:=2) rfl;simp only[Nat.add_zero] at p0;have Hp:=h_ hc;have u0:(0:Int)≤u:=by omega
      have u1:(u:Int)<nj:=by omega
      have u2:(u:Int)<c2:=by omega
      clear RX hr hc;have RB:=h_ (fun W=>rbehind_c x y zz px py pz d hd ‹Small 2000 ⟨x,y,zz⟩› (HNj.out _ (List.mem_of_getElem? Hp.out)) W);obtain⟨v,hv⟩:=nm (behindZ ⟨x,y,zz⟩ ⟨px,py,pz⟩ d);rw[hv] at RB;have Hv:=h_ hv;have bx:=(HBV.out.ext E2).cell;clear hv
      go_upto_region 9 with(fail)
      refine w_g ?_
      repeat (go_big_quiet_step ((go_at_call 105;exact quiet_ext (RB.out _))))
      refine wpQuiet_nil ?_;intro W5 hW5;have E5:Ext wr W5:=by
       obtain⟨x,rfl⟩:=hW5;exact(Ext.refl _).grow x
      clear hW5;obtain⟨hcW5,hfW5,hzW5⟩:=ext_facts E5;clear p0 p1 p2 bx hcW5 hfW5 hzW5;have E26:=E2.trans E5;clear E2 E5;by_cases h0:0<v
      ·have hd0:decide (v>0)=true:=decide_eq_true h0;have Hf:=h_ (HYes.out k hkn ⟨px,py,pz⟩ (by rw[Hj.out];exact hjb) (by rw[Hj.out,Hbj.out,HLj.out];exact List.mem_of_getElem? Hp.out) (by rw[Hv.out];exact h0));go_wp2_with fail;go_ret;exact⟨true,rfl,⟨fun _=>Hf.out,fun _=>rfl⟩,HEV.out.trans E26⟩
      ·have hd0:decide (v>0)=false:=decide_eq_false h0;go_wp2_with fail;go_roundw
       case rel=>exact⟨u+1,by omega,by go_num,E26,h_ (all_to Hu.out Hp.out (by rw[Hv.out];omega))⟩
       case measure=>simp only[intOf];omega
     ·obtain rfl:u=nj:=by omega
      have Hk2:=h_ (show ∀t,t<k+1→memA z t≠b → ∀p∈bcells m.ks (brkAt m.bs (memA z t)),behindZ ⟨x,y,zz⟩ p d≤0 from fun t ht=>by
       rcases Nat.lt_or_ge t k with h|h
       ·exact Hk.out t h
       ·obtain rfl:t=k:=by omega
        rw[Hj.out,Hbj.out,HLj.out]
        exact fun _=>all_mem Hu.out Hnj.out)
      go_wp2_with fail;go_roundw
      case rel=>exact⟨k+1,by omega,by go_num,EV.trans E2,Hk2⟩
      case measure=>simp only[intOf];omega
  ·obtain rfl:k=zn:=by omega
   have Hf:=h_ (HNo.out Hk.out);go_wp2_with fail;go_ret;exact⟨false,rfl,⟨nofun,fun h=>absurd h Hf.out⟩,HE5.out⟩
theorem rVisible_c(m:MB)(TA:Option Addr)(tc z b d:Nat)(w:World)(hM:MBAt w m)(hcm:checkErr m.ks m.bs=0)(hz:SetB m.bs.length z)(hbn:b<m.bs.length)(hd:d<6)(hT:IntsZ w TA tc (setI z)) :
  Calls Tryz.prog 42 #[.slice m.QA m.qs.length m.qc,.agg #[.slice m.B m.bs.length m.cb],.slice TA (setL z).length tc,.int .i64 b,.int .i64 d] w fun e w'=>e = .returned (.bool (seeB m.ks m.bs z b d))∧Ext w w':=by
 have hf:=hM.fit hcm;have hnb:=hf.n;obtain⟨W1,hW1,E1,B1,hz1⟩:=mk_ w #[.slice m.B m.bs.length m.cb] 25;have HPl:=h_ (fun(j:Nat) (hj:j<m.bs.length)=>rPlacedAt_c hM.k hM.b.2 (check_model hcm) hj);have HNe:=h_ (fun(j:Nat) (hj:j<m.bs.length) (c:Pt) (hc:c∈bcells m.ks (brkAt m.bs j))=>in_small (cells_near hM.k hM.b.2 (check_model hcm) hj c hc));have HMe:=h_ (fun(k:Nat) (hk:k<(setL z).length)=>memA_lt hz (by omega) hk);have hzl:(setL z).length≤9223372036854775807:=by have:=setL_len z;omega
 obtain⟨T1,hT1⟩:=nm w.heap.size;have HT1:=h_ hT1;rw[hT1] at B1;have HHd:=h_ (fun(x y zz:Int) (hc:Small 2000 ⟨x,y,zz⟩) (W:World) (E:Ext w W)=>rHidden_c m TA tc z b d x y zz W (hM.ext E) hcm hz hd hc (IntsZ.ext hT E));obtain⟨g,off,hB⟩:=bricks_addr hM.b (by omega);obtain⟨d0,d1,d2,d3,d4,d5⟩:=bricks_cell (hM.ext E1).b hbn hB;have PB:=HPl.out b hbn W1 E1;have HNb:=h_ (HNe.out b hbn);have HSe:=h_ (fun(r:Bool) (h:r=true ↔ ∃c∈bcells m.ks (brkAt m.bs b),¬HidP m.ks m.bs z b d c)=>show seeB m.ks m.bs z b d=r by rw[Bool.eq_iff_iff,seeB_iff,see_hid,h]);rw[hB] at B1 hW1 HHd ⊢;obtain⟨nb,hnbe⟩:=nm m.bs.length;have HB1:=h_ B1;have HE1:=h_ E1;have b1:=B1.cell;rw[hnbe] at b1 hbn hW1 HB1 HHd hnb ⊢;obtain⟨⟨kd,⟨x1,x2,x3⟩,tn,cl⟩,hbk⟩:=nm (brkAt m.bs b);rw[hbk] at d0 d1 d2 d3 d4 d5 PB HNb HSe;obtain⟨Lb,hLb⟩:=nm (bcells m.ks ⟨kd,⟨x1,x2,x3⟩,tn,cl⟩);obtain⟨n,hn⟩:=nm Lb.length;have hcl:clen m.ks m.bs b=n:=by unfold clen;rw[hbk,hLb,hn]
 have Hn:=h_ hn;rw[show clen (m.qs.map (·.1)) m.bs b=n from hcl,show bcells (m.qs.map (·.1)) ⟨kd,⟨x1,x2,x3⟩,tn,cl⟩=Lb from hLb] at PB;rw[hLb] at HNb HSe;have b0:(0:Int)≤b:=by omega
 have b2:(b:Int)<nb:=by omega
 unfold brkV at PB;obtain⟨zn,hzn⟩:=nm ((setL z).length);rw[hzn] at HHd ⊢;have hcb:(nb:Int)≤m.cb:=by have:=hM.b.1.le;omega
 clear hz1 B1 E1 hM hf hT hcm hz hbk hLb hn hcl hnbe hB hT1 hzl hzn HMe HPl HNe;go_enter Tryz.func42,Tryz.ntmps42
 go_upto_region 1 with(fail)
 rw[HT1.out];go_wp2_with fail;clear b1 hW1 d0 d1 d2 d3 d4 d5;refine PB.mono ?_;rintro e W3 ⟨g1,c1,-,rfl,hn1,hc1,X1,E3⟩;unfold maxLen at hc1;have HX1:=h_ X1;have HE3:=h_ (HE1.out.trans E3);have HB13:=h_ (HB1.out.ext E3);clear X1 E3 PB;go_wp2_with fail;go_loopw [12] (fun i wr=> ∃q:Nat,q≤n∧i = .int .i64 q∧Ext W3 wr∧Hid (∀t,t<q → ∀c,Lb[t]? = some c→HidP m.ks m.bs z b d c)) (fun i _=>n-(intOf i).toNat)
 case atStart=>exact⟨0,by omega,rfl,Ext.refl _,h_ (fun t ht=>by omega)⟩
 case round =>
  obtain⟨q,hq,rfl,E,Hq⟩:=hrel;by_cases hqn:q<n
  ·obtain⟨⟨x,y,zz⟩,hc⟩: ∃c,Lb[q]? = some c:=⟨_,List.getElem?_eq_getElem (by rw[Hn.out];exact hqn)⟩;have hr:(Lb.map Pt.cs)[q]? = some (Pt.cs ⟨x,y,zz⟩):=by rw[List.getElem?_map,hc];rfl
   have RX:=HX1.out.ext E;have a0:=RX.cell (pts_wide' Lb) hr (j:=0) rfl;have a1:=RX.cell (pts_wide' Lb) hr (j:=1) rfl;have a2:=RX.cell (pts_wide' Lb) hr (j:=2) rfl;simp only[Nat.add_zero] at a0;have Hc:=h_ hc;have q0:(0:Int)≤q:=by omega
   have q1:(q:Int)<n:=by omega
   have q2:(q:Int)<c1:=by omega
   clear RX hr hc;obtain⟨r,hr⟩: ∃r:Bool,r=true↔HidP m.ks m.bs z b d ⟨x,y,zz⟩:=⟨@decide _ (Classical.propDecidable _),@decide_eq_true_iff _ (Classical.propDecidable _)⟩;have Hr:=h_ hr;have HC:=h_ (fun(W:World) (E':Ext wr W)=>(HHd.out x y zz (HNb.out _ (List.mem_of_getElem? Hc.out)) W (HE3.out.trans (E.trans E'))).mono (R':=fun e w'=>e = .returned (.bool r)∧Ext W w') (fun e w' ⟨r2,h1,h2,h3⟩=>⟨by rw[h1,Bool.eq_iff_iff.2 (h2.trans hr.symm)],h3⟩));have b1:=(HB13.out.ext E).cell;clear hr
   go_upto_region 5 with(fail)
   refine w_g ?_
   repeat (go_big_quiet_step ((go_at_call 79;exact quiet_ext (HC.out _ (by first|exact Ext.refl _|exact(Ext.refl _).grow _)))))
   refine wpQuiet_nil ?_;intro W5 hW5;have E5:Ext wr W5:=by
    obtain⟨x,rfl⟩:=hW5;exact(Ext.refl _).grow x
   clear hW5;obtain⟨hcW5,hfW5,hzW5⟩:=ext_facts E5;clear a0 a1 a2 b1 hcW5 hfW5 hzW5;have E15:=E.trans E5;clear E E5;cases r
   ·have Hf:=h_ (HSe.out true ⟨fun _=>⟨_,List.mem_of_getElem? Hc.out,fun h=>nomatch Hr.out.2 h⟩,fun _=>rfl⟩);go_wp2_with fail;go_ret;exact⟨by rw[Hf.out];rfl,HE3.out.trans E15⟩
   ·go_wp2_with fail;go_roundw
    case rel=>exact⟨q+1,by omega,by go_num,E15,h_ (all_to Hq.out Hc.out (Hr.out.1 rfl))⟩
    case measure=>simp only[intOf];omega
  ·obtain rfl:n=q:=by omega
   have Hf:=h_ (HSe.out false ⟨nofun,fun⟨c,hc,h⟩=>absurd (all_mem Hq.out Hn.out c hc) h⟩);go_wp2_with fail;go_ret;exact⟨by rw[Hf.out];rfl,HE3.out.trans E⟩
theorem seeC_at{ks:List Knd}{bs:List Brk}{z d k:Nat}{l:List PutV}{p:PutV}(hp:l[k]? = some p):seeC ks bs z (l.take (k+1)) d=seeC ks bs z (l.take k) d+(seeB ks bs z p.b.toNat d).toNat:=by
 unfold seeC;rw[take_at hp,List.filter_append,List.length_append,List.filter_cons];cases seeB ks bs z p.b.toNat d <;> rfl
theorem rView_c(m:MB)(TA:Option Addr)(tc z:Nat)(PA:Option Addr)(pc:Nat)(l:List PutV)(w:World)(hM:MBAt w m)(hcm:checkErr m.ks m.bs=0)(hz:SetB m.bs.length z)(hT:IntsZ w TA tc (setI z))(hP:PutsZ w PA pc l)(hl: ∀p∈l,0≤p.b∧p.b<m.bs.length)(h100:l.length≤100) :
  Calls Tryz.prog 48 #[.slice m.QA m.qs.length m.qc,.agg #[.slice m.B m.bs.length m.cb],.slice TA (setL z).length tc,.slice PA l.length pc] w fun e w'=>e = .returned (.int .u8 (viewQ m.ks m.bs z l:Nat))∧Ext w w':=by
 obtain⟨W1,hW1,E1,B1,hz1⟩:=mk_ w #[.slice m.B m.bs.length m.cb] 25;have HVis:=h_ (fun(b:Nat) (hb:b<m.bs.length) (d:Nat) (hd:d<6) (W:World) (E:Ext w W)=>rVisible_c m TA tc z b d W (hM.ext E) hcm hz hb hd (IntsZ.ext hT E));have hvl:=viewF_lt (seeC m.ks m.bs z l) 6;have Hw:=h_ (show((viewQ m.ks m.bs z l:Nat):Int) % 256=(viewQ m.ks m.bs z l:Nat) from by
  unfold viewQ
  omega)
 have hvm:=h_ (viewF_most (seeC m.ks m.bs z l) (seeC_le m.ks m.bs z l));have Hq:=h_ (show(viewF (seeC m.ks m.bs z l) 6).1=viewQ m.ks m.bs z l from rfl);obtain⟨vq,hvq⟩:=nm (viewQ m.ks m.bs z l);rw[hvq] at Hw Hq;rw[hvq];have HP:=h_ hP;have HL:=h_ hl;have HE1:=h_ E1;have HB1:=h_ B1;have b1:=B1.cell;have hple:=hP.1.le;have hpsm:=hP.1.small;clear hM hcm hz hT hP hl hvl hvq E1 B1 hz1;go_enter Tryz.func48,Tryz.ntmps48;go_wp2_with fail;clear b1;go_loopw [9,10,11] (fun vb vm ii wr=> ∃(d b:Nat) (t:Int),d≤6∧ii = .int .i64 d∧vb = .int .i64 b∧vm = .int .i64 t∧Hid (viewF (seeC m.ks m.bs z l) d=(b,t))∧Ext W1 wr) (fun _ _ ii _=>6-(intOf ii).toNat)
 case atStart=>exact⟨0,0,-1,by omega,rfl,rfl,rfl,h_ rfl,Ext.refl _⟩
 case round =>
  obtain⟨d,b,t,hd,rfl,rfl,rfl,Hv,Er⟩:=hrel;by_cases hlt:d<6
  ·have d0:(0:Int)≤d:=by omega
   have d1:(d:Int)<6:=by omega
   have hb:=viewF_lt (seeC m.ks m.bs z l) d;have ht:=hvm.out d;rw[Hv.out] at hb ht;simp only at hb ht;have hfl:=seeC_le m.ks m.bs z l d;have Hs:=h_ (show viewF (seeC m.ks m.bs z l) (d+1)=if t<seeC m.ks m.bs z l d then(d,(seeC m.ks m.bs z l d:Int)) else(b,t) by show(if(viewF (seeC m.ks m.bs z l) d).2<seeC m.ks m.bs z l d then(d,(seeC m.ks m.bs z l d:Int)) else viewF (seeC m.ks m.bs z l) d)=_;rw[Hv.out]);have HEr:=h_ Er;clear Er Hv;go_wp2_with fail;go_loopw [12,13] (fun vn kk wr2=> ∃(k:Nat),k≤l.length∧kk = .int .i64 k∧vn = .int .i64 (seeC m.ks m.bs z (l.take k) d:Nat)∧Ext W1 wr2) (fun _ kk _=>l.length-(intOf kk).toNat)
   case atStart=>exact⟨0,by omega,rfl,by simp[seeC],HEr.out⟩
   case round =>
    obtain⟨k,hk,rfl,rfl,Er2⟩:=hrel;by_cases hkl:k<l.length
    ·obtain⟨p,hp⟩: ∃p,l[k]? = some p:=⟨_,List.getElem?_eq_getElem hkl⟩;obtain⟨pg,po,rfl⟩:=HP.out.addr (by omega);obtain⟨e0,-⟩:=(HP.out.ext (HE1.out.trans Er2)).cell hp rfl;obtain⟨hb0,hbn⟩:=HL.out p (List.mem_of_getElem? hp);have hst:=seeC_at (ks:=m.ks) (bs:=m.bs) (z:=z) (d:=d) hp;have hcl:=seeC_le m.ks m.bs z (l.take k) d;rw[List.length_take] at hcl;obtain⟨pb,pd⟩:=p;obtain⟨j,rfl⟩:=Int.eq_ofNat_of_zero_le hb0;simp only[Int.toNat_natCast] at e0 hst hbn;have VC:=h_ (fun(W:World) (E':Ext wr W)=>HVis.out j (by omega) d hlt W (HE1.out.trans (Er2.trans E')));obtain⟨r,hr⟩:=nm (seeB m.ks m.bs z j d);rw[hr] at VC hst;obtain⟨c,hc⟩:=nm (seeC m.ks m.bs z (l.take k) d);rw[hc] at hst hcl ⊢;have Hst:=h_ hst;have b1:=(HB1.out.ext Er2).cell;have k0:(0:Int)≤k:=by omega
     have k1:(k:Int)<l.length:=by omega
     have k2:(k:Int)<pc:=by omega
     clear hr hc hst hp hb0 hbn
     go_upto_region 10 with(fail)
     refine w_g ?_
     repeat (go_big_quiet_step ((go_at_call 42;exact quiet_ext (VC.out _ (by first|exact Ext.refl _|exact(Ext.refl _).grow _)))))
     refine wpQuiet_nil ?_;intro W7 hW7;have E7:Ext wr W7:=by
      obtain⟨x,rfl⟩:=hW7;exact(Ext.refl _).grow x
     clear hW7;obtain⟨hcW7,hfW7,hzW7⟩:=ext_facts E7;have EW:=h_ (Er2.trans E7);clear e0 b1 hcW7 hfW7 hzW7 E7 Er2 VC;cases r
     ·go_wp2_with fail;go_roundw
      case rel=>exact⟨k+1,by omega,by go_num,by rw[Hst.out];rfl,EW.out⟩
      case measure=>simp only[intOf];omega
     ·go_wp2_with fail;go_roundw
      case rel=>exact⟨k+1,by omega,by go_num,by rw[Hst.out];rfl,EW.out⟩
      case measure=>simp only[intOf];omega
    ·obtain rfl:k=l.length:=by omega
     rw[List.take_length];obtain⟨n,hn⟩:=nm (seeC m.ks m.bs z l d);rw[hn] at Hs hfl ⊢;have HR2:=h_ Er2;clear hn Er2;by_cases hgt:t<(n:Int)
     ·have hgt':(n:Int)>t:=hgt;go_wp2_with fail;go_roundw
      case rel=>exact⟨d+1,d,n,by omega,by go_num,rfl,rfl,h_ (by rw[Hs.out,if_pos hgt]),HR2.out⟩
      case measure=>simp only[intOf];omega
     ·have hgt':decide ((n:Int)>t)=false:=decide_eq_false hgt;go_wp2_with fail;go_roundw
      case rel=>exact⟨d+1,b,t,by omega,by go_num,rfl,rfl,h_ (by rw[Hs.out,if_neg (by omega)]),HR2.out⟩
      case measure=>simp only[intOf];omega
  ·obtain rfl:d=6:=by omega
   have hb:b=vq:=by rw[←Hq.out,Hv.out]
   subst hb;have HR:=h_ (HE1.out.trans Er);clear Er Hv;go_wp2_with fail;refine bodyPost_ret (v:= .int .u8 b) (by simp[results,Tryz.results48,go_sem];exact Hw.out) rfl ⟨rfl,HR.out⟩
def LnkV(w:World)(v:Value)(L:List Lnk):Prop:= ∃A c,v = .slice A L.length c∧Links w A c L
theorem LnkV.ext{w w':World}{v:Value}{L:List Lnk}(h:LnkV w v L)(E:Ext w w'):LnkV w' v L:=by
 obtain⟨A,c,h1,h2⟩:=h;exact⟨A,c,h1,h2.ext E⟩
structure Fe1(W0:World)(vQ vM vR vT vb vd:Value)(K:List Lnk)(r:Bool)(L:Nat→Bool)(us:Nat→Value)(w:World):Prop where
 x:Ext W0 w
 f0:L 0=true→us 0=vQ
 f1:L 1=true→us 1=vM
 f2:L 2=true→us 2=vR
 f3:L 3=true→us 3=vT
 f4:L 4=true→us 4=vb
 f5:L 5=true→us 5=vd
 f6:L 6=true→us 6=vQ
 f7:L 7=true→us 7=vM
 f8:L 8=true→LnkV w (us 8) K
 f9:L 9=true→us 9 = .bool r
 f10:L 10=true→us 10 = .bool r
theorem rFreeL_c(m:MB)(TA:Option Addr)(tc z b d:Nat)(w:World)(hM:MBAt w m)(hcm:checkErr m.ks m.bs=0)(hz:SetB m.bs.length z)(hbn:b<m.bs.length)(hd:d<6)(hT:IntsZ w TA tc (setI z)) :
  Calls Tryz.prog 46 #[.slice m.QA m.qs.length m.qc,.agg #[.slice m.B m.bs.length m.cb],.agg #[.int .i64 m.tab,.slice m.HA m.hands.length m.hc],.slice TA (setL z).length tc,.int .i64 b,.int .i64 d] w fun e w'=>e = .returned (.bool (freeB m.ks m.bs m.tab z b d))∧Ext w w':=by
 obtain⟨W1,hW1,E1,B1,hz1⟩:=mk_ w #[.slice m.B m.bs.length m.cb] 25;obtain⟨W2,hW2,E2,B2,hz2⟩:=mk_ W1 #[.int .i64 m.tab,.slice m.HA m.hands.length m.hc] 28;have E:=E1.trans E2;have HB1:=h_ (B1.ext E2);have HB2:=h_ B2;have HE:=h_ E;have RL:=h_ (fun(W:World) (E':Ext w W)=>rLinked_c m.qs m.QA m.qc m.bs m.B m.cb W (hM.ext E').k (hM.ext E').b hcm);have FR:=h_ (fun(LA:Option Addr) (lc:Nat) (W:World) (E':Ext w W) (hL:Links W LA lc (linkL m.ks m.bs))=>rFree_c m TA tc z b d LA lc W (hM.ext E') hcm hz hbn hd (IntsZ.ext hT E') hL);obtain⟨K,hK⟩:=nm (linkL m.ks m.bs);rw[show linkL (m.qs.map (·.1)) m.bs=K from hK] at RL;rw[hK] at FR;obtain⟨r,hr⟩:=nm (freeB m.ks m.bs m.tab z b d);rw[hr] at FR;rw[hr];clear hM hcm hz hbn hd hT hz1 hz2 B1 B2 E1 E2 E hK hr;go_enter Tryz.func46,Tryz.ntmps46
 go_upto_region 1 with(fail)
 clear hW1 hW2;refine wp_region_by (Fe1 W2 (.slice m.QA m.qs.length m.qc) (.agg #[.slice m.B m.bs.length m.cb]) (.agg #[.int .i64 m.tab,.slice m.HA m.hands.length m.hc]) (.slice TA (setL z).length tc) (.int .i64 b) (.int .i64 d) K r) (by kernel_rfl) (by kernel_rfl) (by kernel_rfl) (fun us=>⟨(Ext.refl _).drew,(nofun),(nofun),(nofun),(nofun),(nofun),(nofun),(nofun),(nofun),(nofun),(nofun),(nofun)⟩) ⟨?_,?_,?_,?_,?_,?_,?_,?_,?_,?_,?_,trivial⟩ ?_
 any_goals (intro L us wx K a ha hp hd hun hI hK;replace hp:=h_ hp;replace hd:=h_ hd;simp only[putAll,Act.put,zs,Nat.reduceAdd] at ha;subst ha;simp only[Act.put,zs] at hK)
 ·go_simp;exact hK _ _ {hI with f0:=fun _=>rfl}
 ·have bb:=(HB1.out.ext hI.x).cell;go_simp;exact hK _ _ {hI with f1:=fun _=>rfl}
 ·have bb:=(HB2.out.ext hI.x).cell;go_simp;exact hK _ _ {hI with f2:=fun _=>rfl}
 ·go_simp;exact hK _ _ {hI with f3:=fun _=>rfl}
 ·go_simp;exact hK _ _ {hI with f4:=fun _=>rfl}
 ·go_simp;exact hK _ _ {hI with f5:=fun _=>rfl}
 ·go_simp;exact hK _ _ {hI with f6:=fun _=>rfl}
 ·have bb:=(HB1.out.ext hI.x).cell;go_simp;exact hK _ _ {hI with f7:=fun _=>rfl}
 ·have EX:=h_ (HE.out.trans hI.x);rw[hI.f6 (h_p hp 6),hI.f7 (h_p hp 7)] at hK ⊢;go_simp;go_at_call 72;refine(RL.out _ EX.out).mono ?_;rintro e wn ⟨LA,lc,rfl,hL,En⟩;go_simp;refine hK _ _ ?_;refine {hI with x:=hI.x.trans En,f8:= ?_}<;>(first|exact fun h=>(hI.f8 h).ext En|exact fun h=>own_ext (hI.f8 h) En|exact fun _=>rfl|skip)
  all_goals exact fun _=>⟨LA,lc,rfl,hL⟩
 ·have u8:=hI.f8 (h_p hp 8);obtain⟨LA,lc,v8,hL⟩:=u8;have FC:=FR.out LA lc wx (HE.out.trans hI.x) hL;clear hL;rw[hI.f0 (h_p hp 0),hI.f1 (h_p hp 1),hI.f2 (h_p hp 2),hI.f3 (h_p hp 3),hI.f4 (h_p hp 4),hI.f5 (h_p hp 5),v8] at hK ⊢;go_simp;go_at_call 73;refine(FC).mono ?_;rintro e wn ⟨rfl,En⟩;go_simp;refine hK _ _ ?_;refine {hI with x:=hI.x.trans En,f8:= ?_,f9:= ?_}<;>(first|exact fun h=>(hI.f8 h).ext En|exact fun h=>own_ext (hI.f8 h) En|exact fun _=>rfl|skip)
 ·rw[hI.f9 (h_p hp 9)] at hK ⊢;go_simp;exact hK _ _ {hI with f10:=fun _=>rfl}
 intro L us wx hall hI;have e10:=hI.f10 (hall 10 (by simp));have HEX:=h_ (HE.out.trans hI.x);simp only[putAll,Act.put,zs,Nat.reduceAdd,e10];clear hall hI e10;go_wp2_with fail;go_ret;exact⟨rfl,HEX.out⟩
end Go.Proofs.YtojolpbpjimfgaaGreatDoor
