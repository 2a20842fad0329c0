/- Texts of the proof: RSeen, RTops6. -/
import Derived.Test.YtojolpbpjimfgaaGreatDoorZz26
import Derived.Test.YtojolpbpjimfgaaGreatDoorZz41
import Derived.Test.YtojolpbpjimfgaaGreatDoorZz46
import Derived.Test.YtojolpbpjimfgaaGreatDoorZz47
import Derived.Test.YtojolpbpjimfgaaGreatDoorZz48
namespace Go.Proofs.YtojolpbpjimfgaaGreatDoor
open Go.RowKit
def HidP(ks:List Knd)(bs:List Brk)(z b d:Nat)(c:Pt):Prop:= ∃j,z.testBit j=true∧j≠b ∧ ∃t,1≤t∧backP d t c∈bcells ks (brkAt bs j)
theorem behind_pos{c p:Pt}{d:Nat}(hd:d<6):0<behindZ c p d ↔ ∃t,1≤t∧backP d t c=p:=by
 constructor
 ·intro h
  obtain⟨n,hn⟩:=Int.eq_ofNat_of_zero_le (behind_nonneg c p d)
  exact⟨n,by omega,(behind_iff hd (by omega)).1 hn⟩
 ·rintro⟨t,h1,h3⟩
  rw[(behind_iff hd h1).2 h3]
  omega
section
variable {ks:List Knd} {bs:List Brk} {z b d:Nat} {c:Pt}
theorem hid_yes{n k:Nat}{p:Pt}(hz:SetB n z)(hn:n≤64)(hk:k<(setL z).length)(hd:d<6)(hb:memA z k≠b)(hp:p∈bcells ks (brkAt bs (memA z k)))(h:0<behindZ c p d):HidP ks bs z b d c:=by
 obtain⟨t,t1,rfl⟩:=(behind_pos hd).1 h
 exact⟨_,(setL_of hz hn).1 (List.mem_of_getElem? (memA_get hk)),hb,t,t1,hp⟩
theorem hid_no{n:Nat}(hz:SetB n z)(hn:n≤64)(hd:d<6)(h: ∀k,k<(setL z).length→memA z k≠b → ∀p∈bcells ks (brkAt bs (memA z k)),behindZ c p d≤0): ¬HidP ks bs z b d c:=by
 rintro⟨j,hj,hne,t,t1,hm⟩
 obtain⟨k,hk⟩:=List.getElem?_of_mem ((setL_of hz hn).2 hj)
 have h1:=h k (List.getElem?_eq_some_iff.1 hk).1 (by rw[memA_eq hk];exact hne) _ (by rw[memA_eq hk];exact hm)
 have h2:=(behind_pos (c:=c) hd).2 ⟨t,t1,rfl⟩
 omega
theorem see_hid:SeeP ks bs z b d ↔ ∃c∈bcells ks (brkAt bs b),¬HidP ks bs z b d c :=
 ⟨fun⟨c,hc,h⟩=>⟨c,hc,fun⟨j,hj,hne,t,t1,hm⟩=>h j hj hne t t1 hm⟩,fun⟨c,hc,h⟩=>⟨c,hc,fun j hj hne t t1 hm=>h ⟨j,hj,hne,t,t1,hm⟩⟩⟩
end
def HidPost(ks:List Knd)(bs:List Brk)(z b d:Nat)(c:Pt)(w:World)(e:Ending)(w':World):Prop:= ∃r,e = .returned (.bool r)∧(r=true↔HidP ks bs z b d c)∧Ext w w'
set_option maxRecDepth 100000 in
set_option maxHeartbeats 16000000 in
theorem rHidden_c(m:MB)(TA:Option Addr)(tc z b d:Nat)(x y zz:Int)(w:World)(hM:MBAt w m)(hcm:checkErr m.ks m.bs=0)(hz:SetB m.bs.length z)(hd:d<6)(hc:Small 2000 ⟨x,y,zz⟩)(hT:IntsZ w TA tc (setI z)) :
  Calls Tryz.prog 79 #[.slice m.QA m.qs.length m.qc,.agg #[.slice m.B m.bs.length m.cb],.slice TA (setL z).length tc,.int .i64 b,.agg #[.int .i64 x,.int .i64 y,.int .i64 zz],.int .i64 d] w (HidPost m.ks m.bs z b d ⟨x,y,zz⟩ w):=by
 have hf:=hM.fit hcm
 have hnb:=hf.n
 obtain⟨W1,hW1,E1,B1,hz1⟩:=mk_ w #[.slice m.B m.bs.length m.cb] 25
 have HPl:=h_ (fun(j:Nat) (hj:j<m.bs.length)=>rPlacedAt_c hM.k hM.b.2 (check_model hcm) hj)
 have HNe:=h_ (fun(j:Nat) (hj:j<m.bs.length) (c:Pt) (hc:c∈bcells m.ks (brkAt m.bs j))=>in_small (cells_near hM.k hM.b.2 (check_model hcm) hj c hc))
 have HMe:=h_ (fun(k:Nat) (hk:k<(setL z).length)=>memA_lt hz (by omega) hk)
 have hzl:(setL z).length≤9223372036854775807:=by have:=setL_len z;omega
 obtain⟨T1,hT1⟩:=nm w.heap.size
 have HT1:=h_ hT1
 rw[hT1] at B1
 have HT:=h_ hT
 obtain⟨W2,hW2,E2,B2,hz2⟩:=mk_ W1 #[.int .i64 x,.int .i64 y,.int .i64 zz] 124
 obtain⟨T2,hT2⟩:=nm W1.heap.size
 have HT2:=h_ hT2
 rw[hT2] at B2
 have HB2:=h_ B2
 have HE:=h_ (E1.trans E2)
 have HYes:=h_ (fun(k:Nat) (hk:k<(setL z).length) (p:Pt) hb hp h=>hid_yes (ks:=m.ks) (bs:=m.bs) (b:=b) (d:=d) (c:=⟨x,y,zz⟩) (p:=p) hz (by omega) hk hd hb hp h)
 have HNo:=h_ (fun h=>hid_no (ks:=m.ks) (bs:=m.bs) (b:=b) (d:=d) (c:=⟨x,y,zz⟩) hz (by omega) hd h)
 have HBr:=h_ hM.b
 have HB1:=h_ (B1.ext E2)
 have b1:=HB1.out.cell
 obtain⟨zn,hzn⟩:=nm ((setL z).length)
 have Hzn:=h_ hzn
 obtain⟨nb,hnbe⟩:=nm m.bs.length
 have Hnb:=h_ hnbe
 rw[hzn] at HMe hzl HYes HNo ⊢
 rw[hnbe] at HPl HNe HMe hnb HB1 b1 hW1 ⊢
 have hnb0:zn=0∨0<nb:=by
  rcases Nat.eq_zero_or_pos zn with h|h
  ·exact Or.inl h
  ·exact Or.inr (by have:=HMe.out 0 h;omega)
 clear hz1 hz2 B1 B2 E1 E2 hM hf hT hcm hz hzn hnbe hT1 hT2
 go_enter Tryz.func79,Tryz.ntmps79
 go_wp2_with fail
 rw[HT1.out,HT2.out]
 clear b1 hW1 hW2
 go_loopw [13] (fun i w'=> ∃k:Nat,k≤zn∧i = .int .i64 k∧Ext W2 w'∧Hid (∀t,t<k→memA z t≠b → ∀p∈bcells m.ks (brkAt m.bs (memA z t)),behindZ ⟨x,y,zz⟩ p d≤0)) (fun i _=>zn-(intOf i).toNat)
 case atStart=>exact⟨0,by omega,rfl,Ext.refl _,h_ (fun t ht=>by omega)⟩
 case round =>
  obtain⟨k,hk,rfl,E,Hk⟩:=hrel
  have HE5:=h_ (HE.out.trans E)
  have HB15:=h_ (HB1.out.ext E)
  by_cases hkn:k<zn
  ·obtain⟨g,off,hB⟩:=bricks_addr HBr.out (by rw[Hnb.out];omega)
   have HBc:=h_ (fun(j:Nat) (hj:j<nb) (W:World) (E:Ext w W)=>bricks_cell (HBr.out.ext E) (by rw[Hnb.out];exact hj) hB)
   have hcb:nb≤m.cb:=by have:=HBr.out.1.le;rw[Hnb.out] at this;exact this
   rw[hB] at HB15
   clear hB
   have TT:=IntsZ.ext HT.out HE5.out
   obtain⟨tb,t9,kv,rfl,hkv,-,-⟩:=TT.at_ (show k<(setI z).length by rw[setI_len,Hzn.out];exact hkn)
   obtain rfl:kv=(memA z k:Int):=by
    rw[setI_get (memA_get (show k<(setL z).length by rw[Hzn.out];exact hkn))] at hkv
    exact(Option.some.inj hkv).symm
   have hjn:=HMe.out k hkn
   obtain⟨j,hj⟩:=nm (memA z k)
   rw[hj] at hkv hjn
   have Hj:=h_ hj
   have Hkv:=h_ hkv
   have HTc:=h_ (fun(W:World) (E':Ext wr W)=>show W.cell? ⟨tb,t9+k,none⟩=some (.int .i64 j) from by
    obtain⟨tb',t9',kv',h1,h2,-,h3⟩:=(IntsZ.ext HT.out (HE5.out.trans E')).at_ (show k<(setI z).length by rw[setI_len,Hzn.out];exact hkn)
    cases h1
    rw[Hkv.out] at h2
    cases h2
    exact h3)
   have hle:=TT.le
   rw[setI_len,Hzn.out] at hle
   have HD:=h_ (fun(W:World) (E':Ext wr W)=>HBc.out j hjn W (HE5.out.trans E'))
   have HP:=h_ (HPl.out j hjn)
   have HNj:=h_ (HNe.out j hjn)
   obtain⟨⟨kj,⟨y1,y2,y3⟩,tj,cj⟩,hbj⟩:=nm (brkAt m.bs j)
   rw[hbj] at HD HP HNj
   have Hbj:=h_ hbj
   obtain⟨Lj,hLj⟩:=nm (bcells m.ks ⟨kj,⟨y1,y2,y3⟩,tj,cj⟩)
   obtain⟨nj,hnj⟩:=nm Lj.length
   have Hnj:=h_ hnj
   have HLj:=h_ hLj
   have hclj:clen m.ks m.bs j=nj:=by unfold clen;rw[hbj,hLj,hnj]
   rw[show clen (m.qs.map (·.1)) m.bs j=nj from hclj,show bcells (m.qs.map (·.1)) ⟨kj,⟨y1,y2,y3⟩,tj,cj⟩=Lj from hLj] at HP
   rw[hLj] at HNj
   unfold brkV at HP
   have k0:(0:Int)≤k:=by omega
   have k1:(k:Int)<zn:=by omega
   have j0:(0:Int)≤j:=by omega
   have j1:(j:Int)<nb:=by omega
   clear hj hkv hbj hLj hnj hclj TT
   have tt:=HTc.out wr (Ext.refl _)
   by_cases hjb:j=b
   ·have e1:((j:Int)==(b:Int))=true:=by simp[hjb]
    have Hk2:=h_ (show ∀t,t<k+1→memA z t≠b → ∀p∈bcells m.ks (brkAt m.bs (memA z t)),behindZ ⟨x,y,zz⟩ p d≤0 from fun t ht=>by
     rcases Nat.lt_or_ge t k with h|h
     ·exact Hk.out t h
     ·obtain rfl:t=k:=by omega
      rw[Hj.out]
      exact fun h=>absurd hjb h)
    go_wp2_with fail
    clear tt
    go_roundw
    case rel=>exact⟨k+1,by omega,by go_num,E,Hk2⟩
    case measure=>simp only[intOf];omega
   ·have e1:((j:Int)==(b:Int))=false:=by simp;omega
    go_upto_region 5 with(fail)
    clear tt
    refine wp_region_by (Pl10 wr (.slice m.QA m.qs.length m.qc) (.agg #[.int .i64 kj,.int .i64 y1,.int .i64 y2,.int .i64 y3,.int .u8 tj,.int .u8 cj]) T1 (some ⟨g,off,none⟩) (some ⟨tb,t9,none⟩) nb m.cb zn tc k j ⟨g,off+j*6,none⟩ ⟨tb,t9+k,none⟩ nj Lj) (by kernel_rfl) (by kernel_rfl) (by kernel_rfl) (fun us=>⟨(Ext.refl _).drew,(nofun),(nofun),(nofun),(nofun),(nofun),(nofun),(nofun),(nofun),(nofun),(nofun),(nofun)⟩) ⟨?_,?_,?_,?_,?_,?_,?_,?_,?_,?_,?_,trivial⟩ ?_
    any_goals (intro L us wx K a ha hp hd hun hI hK;replace hp:=h_ hp;replace hd:=h_ hd;simp only[putAll,Act.put,zs,Nat.reduceAdd] at ha;subst ha;simp only[Act.put,zs] at hK)
    ·go_simp
     exact hK _ _ {hI with f0:=fun _=>rfl}
    ·go_simp
     exact hK _ _ {hI with f1:=fun _=>rfl}
    ·have bb:=(HB15.out.ext hI.x).cell
     rw[hI.f1 (h_p hp 1)] at hK ⊢
     go_simp
     exact hK _ _ {hI with f2:=fun _=>rfl}
    ·go_simp
     exact hK _ _ {hI with f3:=fun _=>rfl}
    ·go_simp
     exact hK _ _ {hI with f4:=fun _=>rfl}
    ·rw[hI.f3 (h_p hp 3),hI.f4 (h_p hp 4)] at hK ⊢
     go_simp
     exact hK _ _ {hI with f5:=fun _=>rfl}
    ·have tt:=HTc.out wx hI.x
     rw[hI.f5 (h_p hp 5)] at hK ⊢
     go_simp
     exact hK _ _ {hI with f6:=fun _=>rfl}
    ·rw[hI.f2 (h_p hp 2),hI.f6 (h_p hp 6)] at hK ⊢
     go_simp
     exact hK _ _ {hI with f7:=fun _=>rfl}
    ·obtain⟨d0,d1,d2,d3,d4,d5⟩:=HD.out wx hI.x
     rw[hI.f7 (h_p hp 7)] at hK ⊢
     go_simp
     exact hK _ _ {hI with f8:=fun _=>rfl}
    ·have EX:=h_ (HE5.out.trans hI.x)
     rw[hI.f0 (h_p hp 0),hI.f8 (h_p hp 8)] at hK ⊢
     go_simp
     go_at_call 68
     refine(HP.out _ EX.out).mono ?_
     rintro e wn ⟨g,cp,hg,rfl,q1,q2,X,En⟩
     go_simp
     refine hK _ _ ?_
     refine {hI with x:=hI.x.trans En,f9:= ?_,f10:= ?_}<;>(first|exact fun h=>(hI.f9 h).ext En|exact fun h=>own_ext (hI.f9 h) En|exact fun h=>(hI.f10 h).ext En|exact fun h=>own_ext (hI.f10 h) En|exact fun _=>rfl|skip)
     all_goals exact(by first|exact fun _=>⟨cp,rfl,q1,q2,X⟩)
    ·obtain⟨cu,ua,q1,q2,X⟩:=hI.f9 (h_p hp 9)
     obtain⟨g2,hg2⟩:=nm (bk (us 9))
     rw[hg2] at ua X
     clear hg2
     rw[ua] at hK ⊢
     go_simp
     exact hK _ _ {hI with f10:=fun _=>⟨cu,rfl,q1,q2,X⟩}
    intro L us V hall hI
    obtain⟨c2,u10,q1,q2,X2⟩:=hI.f10 (hall 10 (by simp))
    obtain⟨g2,hg2⟩:=nm (bk (us 10))
    rw[hg2] at u10 X2
    simp only[putAll,Act.put,zs,Nat.reduceAdd,u10]
    have EV:=E.trans hI.x
    have HEV:=h_ (HE5.out.trans hI.x)
    have HBV:=h_ (HB2.out.ext EV)
    have HX2:=h_ X2
    have hnl:nj≤maxLen:=Nat.le_trans q1 q2
    unfold maxLen at hnl
    clear hall hI u10 hg2 X2 HB15 HD HP HTc HE5
    go_wp2_with fail
    go_loopw [15] (fun i w'=> ∃u:Nat,u≤nj∧i = .int .i64 u∧Ext V w'∧Hid (∀t,t<u → ∀p,Lj[t]? = some p→behindZ ⟨x,y,zz⟩ p d≤0)) (fun i _=>nj-(intOf i).toNat)
    case atStart=>exact⟨0,by omega,rfl,Ext.refl _,h_ (fun t ht=>by omega)⟩
    case round =>
     obtain⟨u,hu,rfl,E2,Hu⟩:=hrel
     by_cases hun:u<nj
     ·obtain⟨⟨px,py,pz⟩,hc⟩: ∃c,Lj[u]? = some c:=⟨_,List.getElem?_eq_getElem (by rw[Hnj.out];exact hun)⟩
      have hr:(Lj.map Pt.cs)[u]? = some (Pt.cs ⟨px,py,pz⟩):=by rw[List.getElem?_map,hc];rfl
      have RX:=HX2.out.ext E2
      have p0:=RX.cell (pts_wide' Lj) hr (j:=0) rfl
      have p1:=RX.cell (pts_wide' Lj) hr (j:=1) rfl
      have p2:=RX.cell (pts_wide' Lj) hr (j:=2) rfl
      simp only[Nat.add_zero] at p0
      have Hp:=h_ hc
      have u0:(0:Int)≤u:=by omega
      have u1:(u:Int)<nj:=by omega
      have u2:(u:Int)<c2:=by omega
      clear RX hr hc
      have RB:=h_ (fun W=>rbehind_c x y zz px py pz d hd ‹Small 2000 ⟨x,y,zz⟩› (HNj.out _ (List.mem_of_getElem? Hp.out)) W)
      obtain⟨v,hv⟩:=nm (behindZ ⟨x,y,zz⟩ ⟨px,py,pz⟩ d)
      rw[hv] at RB
      have Hv:=h_ hv
      have bx:=(HBV.out.ext E2).cell
      clear hv
      go_upto_region 9 with(fail)
      refine wp_region_grow (by kernel_rfl) (by kernel_rfl) ?_
      repeat (go_big_quiet_step ((go_at_call 105;exact quiet_ext (RB.out _))))
      refine wpQuiet_nil ?_
      intro W5 hW5
      have E5:Ext wr W5:=by
       obtain⟨x,rfl⟩:=hW5
       exact(Ext.refl _).grow x
      clear hW5
      obtain⟨hcW5,hfW5,hzW5⟩:=ext_facts E5
      clear p0 p1 p2 bx hcW5 hfW5 hzW5
      have E26:=E2.trans E5
      clear E2 E5
      by_cases h0:0<v
      ·have hd0:decide (v>0)=true:=decide_eq_true h0
       have Hf:=h_ (HYes.out k hkn ⟨px,py,pz⟩ (by rw[Hj.out];exact hjb) (by rw[Hj.out,Hbj.out,HLj.out];exact List.mem_of_getElem? Hp.out) (by rw[Hv.out];exact h0))
       go_wp2_with fail
       go_ret
       exact⟨true,rfl,⟨fun _=>Hf.out,fun _=>rfl⟩,HEV.out.trans E26⟩
      ·have hd0:decide (v>0)=false:=decide_eq_false h0
       go_wp2_with fail
       go_roundw
       case rel=>exact⟨u+1,by omega,by go_num,E26,h_ (all_to Hu.out Hp.out (by rw[Hv.out];omega))⟩
       case measure=>simp only[intOf];omega
     ·obtain rfl:u=nj:=by omega
      have Hk2:=h_ (show ∀t,t<k+1→memA z t≠b → ∀p∈bcells m.ks (brkAt m.bs (memA z t)),behindZ ⟨x,y,zz⟩ p d≤0 from fun t ht=>by
       rcases Nat.lt_or_ge t k with h|h
       ·exact Hk.out t h
       ·obtain rfl:t=k:=by omega
        rw[Hj.out,Hbj.out,HLj.out]
        exact fun _=>all_mem Hu.out Hnj.out)
      go_wp2_with fail
      go_roundw
      case rel=>exact⟨k+1,by omega,by go_num,EV.trans E2,Hk2⟩
      case measure=>simp only[intOf];omega
  ·obtain rfl:k=zn:=by omega
   have Hf:=h_ (HNo.out Hk.out)
   go_wp2_with fail
   go_ret
   exact⟨false,rfl,⟨nofun,fun h=>absurd h Hf.out⟩,HE5.out⟩
set_option maxRecDepth 100000 in
set_option maxHeartbeats 16000000 in
theorem rVisible_c(m:MB)(TA:Option Addr)(tc z b d:Nat)(w:World)(hM:MBAt w m)(hcm:checkErr m.ks m.bs=0)(hz:SetB m.bs.length z)(hbn:b<m.bs.length)(hd:d<6)(hT:IntsZ w TA tc (setI z)) :
  Calls Tryz.prog 42 #[.slice m.QA m.qs.length m.qc,.agg #[.slice m.B m.bs.length m.cb],.slice TA (setL z).length tc,.int .i64 b,.int .i64 d] w fun e w'=>e = .returned (.bool (seeB m.ks m.bs z b d))∧Ext w w':=by
 have hf:=hM.fit hcm
 have hnb:=hf.n
 obtain⟨W1,hW1,E1,B1,hz1⟩:=mk_ w #[.slice m.B m.bs.length m.cb] 25
 have HPl:=h_ (fun(j:Nat) (hj:j<m.bs.length)=>rPlacedAt_c hM.k hM.b.2 (check_model hcm) hj)
 have HNe:=h_ (fun(j:Nat) (hj:j<m.bs.length) (c:Pt) (hc:c∈bcells m.ks (brkAt m.bs j))=>in_small (cells_near hM.k hM.b.2 (check_model hcm) hj c hc))
 have HMe:=h_ (fun(k:Nat) (hk:k<(setL z).length)=>memA_lt hz (by omega) hk)
 have hzl:(setL z).length≤9223372036854775807:=by have:=setL_len z;omega
 obtain⟨T1,hT1⟩:=nm w.heap.size
 have HT1:=h_ hT1
 rw[hT1] at B1
 have HHd:=h_ (fun(x y zz:Int) (hc:Small 2000 ⟨x,y,zz⟩) (W:World) (E:Ext w W)=>rHidden_c m TA tc z b d x y zz W (hM.ext E) hcm hz hd hc (IntsZ.ext hT E))
 obtain⟨g,off,hB⟩:=bricks_addr hM.b (by omega)
 obtain⟨d0,d1,d2,d3,d4,d5⟩:=bricks_cell (hM.ext E1).b hbn hB
 have PB:=HPl.out b hbn W1 E1
 have HNb:=h_ (HNe.out b hbn)
 have HSe:=h_ (fun(r:Bool) (h:r=true ↔ ∃c∈bcells m.ks (brkAt m.bs b),¬HidP m.ks m.bs z b d c)=>show seeB m.ks m.bs z b d=r by rw[Bool.eq_iff_iff,seeB_iff,see_hid,h])
 rw[hB] at B1 hW1 HHd ⊢
 obtain⟨nb,hnbe⟩:=nm m.bs.length
 have HB1:=h_ B1
 have HE1:=h_ E1
 have b1:=B1.cell
 rw[hnbe] at b1 hbn hW1 HB1 HHd hnb ⊢
 obtain⟨⟨kd,⟨x1,x2,x3⟩,tn,cl⟩,hbk⟩:=nm (brkAt m.bs b)
 rw[hbk] at d0 d1 d2 d3 d4 d5 PB HNb HSe
 obtain⟨Lb,hLb⟩:=nm (bcells m.ks ⟨kd,⟨x1,x2,x3⟩,tn,cl⟩)
 obtain⟨n,hn⟩:=nm Lb.length
 have hcl:clen m.ks m.bs b=n:=by unfold clen;rw[hbk,hLb,hn]
 have Hn:=h_ hn
 rw[show clen (m.qs.map (·.1)) m.bs b=n from hcl,show bcells (m.qs.map (·.1)) ⟨kd,⟨x1,x2,x3⟩,tn,cl⟩=Lb from hLb] at PB
 rw[hLb] at HNb HSe
 have b0:(0:Int)≤b:=by omega
 have b2:(b:Int)<nb:=by omega
 unfold brkV at PB
 obtain⟨zn,hzn⟩:=nm ((setL z).length)
 rw[hzn] at HHd ⊢
 have hcb:(nb:Int)≤m.cb:=by have:=hM.b.1.le;omega
 clear hz1 B1 E1 hM hf hT hcm hz hbk hLb hn hcl hnbe hB hT1 hzl hzn HMe HPl HNe
 go_enter Tryz.func42,Tryz.ntmps42
 go_upto_region 1 with(fail)
 rw[HT1.out]
 go_wp2_with fail
 clear b1 hW1 d0 d1 d2 d3 d4 d5
 refine PB.mono ?_
 rintro e W3 ⟨g1,c1,-,rfl,hn1,hc1,X1,E3⟩
 unfold maxLen at hc1
 have HX1:=h_ X1
 have HE3:=h_ (HE1.out.trans E3)
 have HB13:=h_ (HB1.out.ext E3)
 clear X1 E3 PB
 go_wp2_with fail
 go_loopw [12] (fun i wr=> ∃q:Nat,q≤n∧i = .int .i64 q∧Ext W3 wr∧Hid (∀t,t<q → ∀c,Lb[t]? = some c→HidP m.ks m.bs z b d c)) (fun i _=>n-(intOf i).toNat)
 case atStart=>exact⟨0,by omega,rfl,Ext.refl _,h_ (fun t ht=>by omega)⟩
 case round =>
  obtain⟨q,hq,rfl,E,Hq⟩:=hrel
  by_cases hqn:q<n
  ·obtain⟨⟨x,y,zz⟩,hc⟩: ∃c,Lb[q]? = some c:=⟨_,List.getElem?_eq_getElem (by rw[Hn.out];exact hqn)⟩
   have hr:(Lb.map Pt.cs)[q]? = some (Pt.cs ⟨x,y,zz⟩):=by rw[List.getElem?_map,hc];rfl
   have RX:=HX1.out.ext E
   have a0:=RX.cell (pts_wide' Lb) hr (j:=0) rfl
   have a1:=RX.cell (pts_wide' Lb) hr (j:=1) rfl
   have a2:=RX.cell (pts_wide' Lb) hr (j:=2) rfl
   simp only[Nat.add_zero] at a0
   have Hc:=h_ hc
   have q0:(0:Int)≤q:=by omega
   have q1:(q:Int)<n:=by omega
   have q2:(q:Int)<c1:=by omega
   clear RX hr hc
   obtain⟨r,hr⟩: ∃r:Bool,r=true↔HidP m.ks m.bs z b d ⟨x,y,zz⟩:=⟨@decide _ (Classical.propDecidable _),@decide_eq_true_iff _ (Classical.propDecidable _)⟩
   have Hr:=h_ hr
   have HC:=h_ (fun(W:World) (E':Ext wr W)=>(HHd.out x y zz (HNb.out _ (List.mem_of_getElem? Hc.out)) W (HE3.out.trans (E.trans E'))).mono (R':=fun e w'=>e = .returned (.bool r)∧Ext W w') (fun e w' ⟨r2,h1,h2,h3⟩=>⟨by rw[h1,Bool.eq_iff_iff.2 (h2.trans hr.symm)],h3⟩))
   have b1:=(HB13.out.ext E).cell
   clear hr
   go_upto_region 5 with(fail)
   refine wp_region_grow (by kernel_rfl) (by kernel_rfl) ?_
   repeat (go_big_quiet_step ((go_at_call 79;exact quiet_ext (HC.out _ (by first|exact Ext.refl _|exact(Ext.refl _).grow _)))))
   refine wpQuiet_nil ?_
   intro W5 hW5
   have E5:Ext wr W5:=by
    obtain⟨x,rfl⟩:=hW5
    exact(Ext.refl _).grow x
   clear hW5
   obtain⟨hcW5,hfW5,hzW5⟩:=ext_facts E5
   clear a0 a1 a2 b1 hcW5 hfW5 hzW5
   have E15:=E.trans E5
   clear E E5
   cases r
   ·have Hf:=h_ (HSe.out true ⟨fun _=>⟨_,List.mem_of_getElem? Hc.out,fun h=>nomatch Hr.out.2 h⟩,fun _=>rfl⟩)
    go_wp2_with fail
    go_ret
    exact⟨by rw[Hf.out];rfl,HE3.out.trans E15⟩
   ·go_wp2_with fail
    go_roundw
    case rel=>exact⟨q+1,by omega,by go_num,E15,h_ (all_to Hq.out Hc.out (Hr.out.1 rfl))⟩
    case measure=>simp only[intOf];omega
  ·obtain rfl:n=q:=by omega
   have Hf:=h_ (HSe.out false ⟨nofun,fun⟨c,hc,h⟩=>absurd (all_mem Hq.out Hn.out c hc) h⟩)
   go_wp2_with fail
   go_ret
   exact⟨by rw[Hf.out];rfl,HE3.out.trans E⟩
theorem num_len{n:Nat}{l:List Int}(hn:n≤64)(h:chosenB l n=true):(setL (numOf l)).length=l.length:=by rw[←setI_len,(chosen_set hn h).1]
set_option maxRecDepth 100000 in
set_option maxHeartbeats 8000000 in
theorem rHolds0_c(m:MB)(TA:Option Addr)(tc z:Nat)(w:World)(hM:MBAt w m)(h0:restErr m.ks m.bs m.tab m.hands=0)(hz:SetB m.bs.length z)(hT:IntsZ w TA tc (setI z)) :
  Calls Tryz.prog 32 #[.slice m.QA m.qs.length m.qc,.agg #[.slice m.B m.bs.length m.cb],.agg #[.int .i64 m.tab,.slice m.HA m.hands.length m.hc],.slice TA (setL z).length tc] w fun e w'=>e = .returned (.bool (holdB m.ks m.bs m.tab m.hands z))∧Ext w w':=by
 obtain⟨W1,hW1,E1,B1,hz1⟩:=mk_ w #[.slice m.B m.bs.length m.cb] 25
 obtain⟨W2,hW2,E2,B2,hz2⟩:=mk_ W1 #[.int .i64 m.tab,.slice m.HA m.hands.length m.hc] 28
 have E:=E1.trans E2
 have b1:=(B1.ext E2).cell
 have b2:=B2.cell
 have hcm:=(restErr_zero h0).1
 have hn:=(hM.fit hcm).n
 have PC:=rPart_c m TA tc z W2 (hM.ext E) hM.b.2 hn hz (IntsZ.ext hT E)
 have HM:=h_ hM
 have Hr0:=h_ (rest_part hz h0)
 have HE:=h_ E
 clear hM h0 hz hT hcm hn hz1 hz2 B1 B2 E1 E2 E
 go_enter Tryz.func32,Tryz.ntmps32
 go_wp2_with fail
 clear b1 b2 hW1 hW2
 refine PC.mono ?_
 rintro e W3 ⟨VA,vc,UA,uc,rfl,hV,hU,E3⟩
 have HE3:=h_ (HE.out.trans E3)
 obtain⟨W4,hW4,E4,B4,hz4⟩:=mk_ W3 #[.slice VA (partB m.bs z).length vc] 25
 obtain⟨W5,hW5,E5,B5,hz5⟩:=mk_ W4 #[.int .i64 0,.slice none 0 0] 28
 rw[hz4] at B5
 obtain⟨pl,hpl⟩:=nm ((partB m.bs z).length)
 obtain⟨ph,hph⟩:=nm ((handP m.hands z).length)
 obtain⟨V,hVe⟩:=nm ((W5.setCell ⟨W3.heap.size+1,0,none⟩ (.int .i64 m.tab)).setCell ⟨W3.heap.size+1,1,none⟩ (.slice UA ph uc))
 have E45:Ext W3 V:=hVe▸((E4.trans E5).setCell (p:=⟨W3.heap.size+1,0,none⟩) (by show W3.heap.size≤W3.heap.size+1;omega) _).setCell (p:=⟨W3.heap.size+1,1,none⟩) (by show W3.heap.size≤W3.heap.size+1;omega) _
 have b4:=(hVe▸((B4.ext E5).far (p:=⟨W3.heap.size+1,0,none⟩) (by show W3.heap.size≠W3.heap.size+1;omega) _).far (p:=⟨W3.heap.size+1,1,none⟩) (by show W3.heap.size≠W3.heap.size+1;omega) _:Blk V W3.heap.size 25 #[.slice VA (partB m.bs z).length vc]).cell
 have b5:=(hVe▸(B5.set_ 0 _).set_ 1 _:Blk V (W3.heap.size+1) 28 #[.int .i64 m.tab,.slice UA ph uc]).cell
 have c5:=B5.cell
 have f5:=B5.frozen
 have HV:=h_ hVe
 have HE5:=h_ (HE3.out.trans E45)
 have FC:=rFallen_c m.qs m.QA m.qc (partB m.bs z) VA vc m.tab UA uc (handP m.hands z) V (HM.out.ext HE5.out).k (hV.ext E45) (IntsZ.ext hU E45) Hr0.out
 rw[hpl] at b4 FC hW4
 rw[hph] at FC
 rw[hpl,hph]
 clear hpl hph E3 E4 E5 B4 B5 hz4 hz5 E45 hV hU PC hVe
 go_upto_region 2 with(fail)
 rw[HV.out]
 clear c5 f5
 go_wp2_with fail
 clear b4 b5
 refine FC.mono ?_
 rintro e W6 ⟨FA,fc,fl,rfl,hZ,hF,E6⟩
 have hHv:=holdB_of (show FallOf m.ks (partB m.bs z) m.tab (handP m.hands z) fl from hF)
 have hlf:=hZ.len
 have HE6:=h_ (HE5.out.trans E6)
 obtain⟨nf,hnf⟩:=nm fl.length
 rw[hnf] at hHv hlf ⊢
 obtain⟨r,hr⟩:=nm (holdB m.ks m.bs m.tab m.hands z)
 have hq:((nf:Int)==0)=r:=by
  rw[←hr,hHv]
  by_cases h:nf=0
  ·simp[h]
  ·have:((nf:Int)==0)=false:=by simp;omega
   rw[this,decide_eq_false h]
 have Hr:=h_ hr
 clear hnf hZ hF hHv hr E6 FC hW4 hW5
 go_wp2_with fail
 go_ret
 exact⟨by rw[Hr.out,←hq];rfl,HE6.out⟩
set_option maxRecDepth 100000 in
set_option maxHeartbeats 8000000 in
theorem rHolds6_c(m:MB)(TA:Option Addr)(tc:Nat)(th:List Int)(w:World)(hM:MBAt w m)(hth:IntsZ w TA tc th) :
  Calls Tryz.prog 8 #[.slice m.QA m.qs.length m.qc,.agg #[.slice m.B m.bs.length m.cb],.agg #[.int .i64 m.tab,.slice m.HA m.hands.length m.hc],.slice TA th.length tc] w fun e w'=>e = .returned (.tuple #[.bool (holdA m th),.int .i64 (holdE m th)])∧Ext w w':=by
 obtain⟨W1,hW1,E1,B1,hz1⟩:=mk_ w #[.slice m.B m.bs.length m.cb] 25
 obtain⟨W2,hW2,E2,B2,hz2⟩:=mk_ W1 #[.int .i64 m.tab,.slice m.HA m.hands.length m.hc] 28
 have E:=E1.trans E2
 have HB1:=h_ (B1.ext E2)
 have HB2:=h_ B2
 have b1:=HB1.out.cell
 have b2:=HB2.out.cell
 have HE:=h_ E
 have HM:=h_ hM
 have HTh:=h_ hth
 have RE:=rCheckRest_c m.qs m.QA m.qc m.bs m.B m.cb m.tab m.HA m.hc m.hands W2 (hM.ext E).k (hM.ext E).b (hM.ext E).h
 replace RE:Calls Tryz.prog 30 #[.slice m.QA m.qs.length m.qc,.agg #[.slice m.B m.bs.length m.cb],.agg #[.int .i64 m.tab,.slice m.HA m.hands.length m.hc]] W2 fun e w'=>e = .returned (.int .i64 (restErr m.ks m.bs m.tab m.hands))∧Ext W2 w':=RE
 obtain⟨r,hr⟩:=nm (restErr m.ks m.bs m.tab m.hands)
 rw[hr] at RE
 have Hr:=h_ hr
 clear hz1 hz2 B1 B2 E1 E2 E hM hth hr
 by_cases h0:r=0
 rotate_left
 ·have h1:(r != 0)=true:=by simpa using h0
  have Hv:=h_ (show holdE m th=r∧holdA m th=false from by
   have e:holdE m th=r:=by rw[holdE,if_neg (by rw[Hr.out];exact h0),Hr.out]
   exact⟨e,by rw[holdA,if_neg (by rw[e];exact h0)]⟩)
  go_enter Tryz.func8,Tryz.ntmps8
  go_wp2_with fail
  refine RE.mono ?_
  rintro e W3 ⟨rfl,E3⟩
  go_wp2_with fail
  go_ret2
  exact⟨by rw[Hv.out.1,Hv.out.2];rfl,HE.out.trans E3⟩
 subst h0
 have hn40:=(HM.out.fit (restErr_zero Hr.out).1).n
 go_enter Tryz.func8,Tryz.ntmps8
 go_wp2_with fail
 clear hW1 hW2
 refine RE.mono ?_
 rintro e W3 ⟨rfl,E3⟩
 have HE3:=h_ (HE.out.trans E3)
 have b1:=(HB1.out.ext E3).cell
 have b2:=(HB2.out.ext E3).cell
 have CH:=rChosen_c TA tc th m.bs.length W3 (IntsZ.ext HTh.out HE3.out) (by omega) (by omega)
 have HB13:=h_ (HB1.out.ext E3)
 have HB23:=h_ (HB2.out.ext E3)
 obtain⟨c,hc⟩:=nm (chosenB th m.bs.length)
 rw[hc] at CH
 have Hc:=h_ hc
 clear RE E3 hc
 go_wp2_with fail
 refine CH.mono ?_
 rintro e W4 ⟨rfl,E4⟩
 have HE4:=h_ (HE3.out.trans E4)
 have HB14:=h_ (HB13.out.ext E4)
 have HB24:=h_ (HB23.out.ext E4)
 have b14:=HB14.out.cell
 have b24:=HB24.out.cell
 clear b1 b2 CH E4
 cases c
 ·have Hv:=h_ (show holdE m th=2∧holdA m th=false from by
   have e:holdE m th=2:=by rw[holdE,if_pos Hr.out,if_neg (by rw[Hc.out];decide)]
   exact⟨e,by rw[holdA,if_neg (by rw[e];decide)]⟩)
  clear b14 b24
  go_wp2_with fail
  go_ret2
  exact⟨by rw[Hv.out.1,Hv.out.2];rfl,HE4.out⟩
 ·have hset:=chosen_set (show m.bs.length≤64 by omega) Hc.out
  have HHc:=rHolds0_c m TA tc (numOf th) W4 (HM.out.ext HE4.out) Hr.out hset.2 (by rw[hset.1];exact IntsZ.ext HTh.out HE4.out)
  rw[num_len (show m.bs.length≤64 by omega) Hc.out] at HHc
  have Hv:=h_ (show holdE m th=0∧holdA m th=holdB m.ks m.bs m.tab m.hands (numOf th) from by
   have e:holdE m th=0:=by rw[holdE,if_pos Hr.out,if_pos Hc.out]
   exact⟨e,by rw[holdA,if_pos e]⟩)
  obtain⟨s,hs⟩:=nm (numOf th)
  rw[hs] at HHc Hv
  clear hset hs
  go_wp2_with fail
  clear b14 b24
  refine HHc.mono ?_
  rintro e W5 ⟨rfl,E5⟩
  have HE5:=h_ (HE4.out.trans E5)
  clear HHc E5
  go_wp2_with fail
  go_ret2
  exact⟨by rw[Hv.out.1,Hv.out.2];rfl,HE5.out⟩
set_option maxRecDepth 100000 in
set_option maxHeartbeats 8000000 in
theorem rWays6_c(m:MB)(TA:Option Addr)(tc:Nat)(th:List Int)(b:Int)(w:World)(hM:MBAt w m)(hth:IntsZ w TA tc th) :
  Calls Tryz.prog 10 #[.slice m.QA m.qs.length m.qc,.agg #[.slice m.B m.bs.length m.cb],.agg #[.int .i64 m.tab,.slice m.HA m.hands.length m.hc],.slice TA th.length tc,.int .i64 b] w (ListPost (wayA m th b) (wayE m th b) w):=by
 obtain⟨W1,hW1,E1,B1,hz1⟩:=mk_ w #[.slice m.B m.bs.length m.cb] 25
 obtain⟨W2,hW2,E2,B2,hz2⟩:=mk_ W1 #[.int .i64 m.tab,.slice m.HA m.hands.length m.hc] 28
 have E:=E1.trans E2
 have HB1:=h_ (B1.ext E2)
 have HB2:=h_ B2
 have b1:=HB1.out.cell
 have b2:=HB2.out.cell
 have HE:=h_ E
 have HM:=h_ hM
 have HTh:=h_ hth
 have RE:=rCheckRest_c m.qs m.QA m.qc m.bs m.B m.cb m.tab m.HA m.hc m.hands W2 (hM.ext E).k (hM.ext E).b (hM.ext E).h
 replace RE:Calls Tryz.prog 30 #[.slice m.QA m.qs.length m.qc,.agg #[.slice m.B m.bs.length m.cb],.agg #[.int .i64 m.tab,.slice m.HA m.hands.length m.hc]] W2 fun e w'=>e = .returned (.int .i64 (restErr m.ks m.bs m.tab m.hands))∧Ext W2 w':=RE
 obtain⟨r,hr⟩:=nm (restErr m.ks m.bs m.tab m.hands)
 rw[hr] at RE
 have Hr:=h_ hr
 clear hz1 hz2 B1 B2 E1 E2 E hM hth hr
 by_cases h0:r=0
 rotate_left
 ·have h1:(r != 0)=true:=by simpa using h0
  have Hv:=h_ (show wayE m th b=r∧wayA m th b = [] from by
   have e:wayE m th b=r:=by rw[wayE,if_neg (by rw[Hr.out];exact h0),Hr.out]
   exact⟨e,by rw[wayA,if_neg (by rw[e];exact h0)]⟩)
  go_enter Tryz.func10,Tryz.ntmps10
  go_wp2_with fail
  refine RE.mono ?_
  rintro e W3 ⟨rfl,E3⟩
  go_wp2_with fail
  go_ret2
  rw[Hv.out.1,Hv.out.2]
  exact listPost_nil (HE.out.trans E3)
 subst h0
 have hn40:=(HM.out.fit (restErr_zero Hr.out).1).n
 go_enter Tryz.func10,Tryz.ntmps10
 go_wp2_with fail
 clear hW1 hW2
 refine RE.mono ?_
 rintro e W3 ⟨rfl,E3⟩
 have HE3:=h_ (HE.out.trans E3)
 have b1:=(HB1.out.ext E3).cell
 have b2:=(HB2.out.ext E3).cell
 have CH:=rChosen_c TA tc th m.bs.length W3 (IntsZ.ext HTh.out HE3.out) (by omega) (by omega)
 have HB13:=h_ (HB1.out.ext E3)
 have HB23:=h_ (HB2.out.ext E3)
 obtain⟨c,hc⟩:=nm (chosenB th m.bs.length)
 rw[hc] at CH
 have Hc:=h_ hc
 clear RE E3 hc
 go_wp2_with fail
 refine CH.mono ?_
 rintro e W4 ⟨rfl,E4⟩
 have HE4:=h_ (HE3.out.trans E4)
 have HB14:=h_ (HB13.out.ext E4)
 have HB24:=h_ (HB23.out.ext E4)
 have b14:=HB14.out.cell
 have b24:=HB24.out.cell
 clear b1 b2 CH E4
 cases c
 ·have Hbad:=h_ (show wayBad m th b=true by unfold wayBad;rw[Hc.out];rfl)
  have Hv:=h_ (show wayE m th b=2∧wayA m th b = [] from by
   have e:wayE m th b=2:=by rw[wayE,if_pos Hr.out,if_pos Hbad.out]
   exact⟨e,by rw[wayA,if_neg (by rw[e];decide)]⟩)
  go_wp2_with fail
  go_ret2
  rw[Hv.out.1,Hv.out.2]
  exact listPost_nil HE4.out
 have hset:=chosen_set (show m.bs.length≤64 by omega) Hc.out
 have Hnl:=h_ (num_len (show m.bs.length≤64 by omega) Hc.out)
 have WC:=within6_c b 0 ((m.bs.length:Int)-1) W4
 obtain⟨q,hq⟩:=nm (inB 0 ((m.bs.length:Int)-1) b)
 rw[hq] at WC
 have Hset:=h_ hset
 clear hset
 go_wp2_with fail
 clear b14 b24
 refine WC.mono ?_
 rintro e W5 ⟨rfl,E5⟩
 have HE5:=h_ (HE4.out.trans E5)
 have HB15:=h_ (HB14.out.ext E5)
 have HB25:=h_ (HB24.out.ext E5)
 clear E5 WC
 cases q
 ·have hn:=inB_not.1 hq
  have Hbad:=h_ (show wayBad m th b=true by
   unfold wayBad
   rw[Hc.out]
   simp only[Bool.not_true,Bool.false_or,Bool.or_eq_true,decide_eq_true_eq]
   omega)
  clear hn hq
  have Hv:=h_ (show wayE m th b=2∧wayA m th b = [] from by
   have e:wayE m th b=2:=by rw[wayE,if_pos Hr.out,if_pos Hbad.out]
   exact⟨e,by rw[wayA,if_neg (by rw[e];decide)]⟩)
  go_wp2_with fail
  go_ret2
  rw[Hv.out.1,Hv.out.2]
  exact listPost_nil HE5.out
 obtain⟨hb0,hbn⟩:=inB_iff.1 hq
 obtain⟨k,rfl⟩:=Int.eq_ofNat_of_zero_le hb0
 have hkn:k<m.bs.length:=by omega
 have IN:=rIn6_c TA tc th k W5 (IntsZ.ext HTh.out HE5.out)
 have hbit:hasZ th (k:Int)=(numOf th).testBit k:=by
  have:=hasZ_setI Hset.out.2 (show m.bs.length≤64 by omega) k
  rw[Hset.out.1] at this
  exact this
 rw[hbit] at IN
 have HWc:=h_ (fun(W:World) (E:Ext w W)=>rWays_c m TA tc (numOf th) k W (HM.out.ext E) (restErr_zero Hr.out).1 Hset.out.2 hkn (by rw[Hset.out.1];exact IntsZ.ext HTh.out E))
 rw[Hnl.out] at HWc
 obtain⟨r,hr⟩:=nm ((numOf th).testBit k)
 have Hbd:=h_ (show wayBad m th k=r by unfold wayBad;rw[Hc.out,decide_eq_false (by omega),decide_eq_false (by omega),Int.toNat_natCast,hr];rfl)
 rw[hr] at IN
 clear hq hb0 hbn hbit hr
 go_wp2_with fail
 refine IN.mono ?_
 rintro e W6 ⟨rfl,E6⟩
 have HE6:=h_ (HE5.out.trans E6)
 have b16:=(HB15.out.ext E6).cell
 have b26:=(HB25.out.ext E6).cell
 clear E6 IN
 cases r
 rotate_left
 ·have Hbad:=h_ (show wayBad m th k=true from Hbd.out)
  have Hv:=h_ (show wayE m th k=2∧wayA m th k = [] from by
   have e:wayE m th k=2:=by rw[wayE,if_pos Hr.out,if_pos Hbad.out]
   exact⟨e,by rw[wayA,if_neg (by rw[e];decide)]⟩)
  clear b16 b26
  go_wp2_with fail
  go_ret2
  rw[Hv.out.1,Hv.out.2]
  exact listPost_nil HE6.out
 ·have Hv:=h_ (show wayE m th k=0∧wayA m th k=wayQ m.ks m.bs m.tab (numOf th) k 6 from by
   have e:wayE m th k=0:=by rw[wayE,if_pos Hr.out,if_neg (by rw[Hbd.out];decide)]
   exact⟨e,by rw[wayA,if_pos e,Int.toNat_natCast]⟩)
  go_wp2_with fail
  clear b16 b26
  refine(HWc.out _ HE6.out).mono ?_
  rintro e W7 ⟨LA,lc,rfl,hZ,E7⟩
  have HF:=h_ (show IntsZ W7 LA lc (wayQ m.ks m.bs m.tab (numOf th) k 6)∧Ext w W7 from⟨hZ,HE6.out.trans E7⟩)
  obtain⟨nl,hnl⟩:=nm ((wayQ m.ks m.bs m.tab (numOf th) k 6).length)
  have Hnl2:=h_ hnl
  rw[hnl]
  clear hZ E7 hnl
  go_wp2_with fail
  go_ret2
  rw[Hv.out.1,Hv.out.2]
  exact⟨LA,lc,by rw[Hnl2.out];rfl,HF.out.1,HF.out.2⟩
end Go.Proofs.YtojolpbpjimfgaaGreatDoor
