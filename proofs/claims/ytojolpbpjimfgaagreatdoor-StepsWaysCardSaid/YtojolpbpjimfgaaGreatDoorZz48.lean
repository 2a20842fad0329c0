/- Texts of the proof: RFree, RWays6. -/
import Derived.Test.YtojolpbpjimfgaaGreatDoorZz26
import Derived.Test.YtojolpbpjimfgaaGreatDoorZz29
import Derived.Test.YtojolpbpjimfgaaGreatDoorZz46
import Derived.Test.YtojolpbpjimfgaaGreatDoorZz47
namespace Go.Proofs.YtojolpbpjimfgaaGreatDoor
open Go.RowKit
def wayC(c p:Pt)(d:Nat):Bool:=inB 1 64 (behindZ c p d)
theorem wayC_iff{c p:Pt}{d:Nat}(hd:d<6):wayC c p d=true ↔ ∃t,1≤t∧t≤64∧backP d t c=p:=by
 unfold wayC
 rw[inB_iff]
 constructor
 ·rintro⟨h1,h2⟩
  obtain⟨n,hn⟩:=Int.eq_ofNat_of_zero_le (behind_nonneg c p d)
  exact⟨n,by omega,by omega,(behind_iff hd (by omega)).1 hn⟩
 ·rintro⟨t,h1,h2,h3⟩
  rw[(behind_iff hd h1).2 h3]
  omega
section
variable {ks:List Knd} {bs:List Brk} {tab:Int} {z b d:Nat}
theorem free_tab{c:Pt}(hc:c∈bcells ks (brkAt bs b))(h: ¬tab≤(backP d 64 c).z):freeB ks bs tab z b d=false:=freeB_not fun h1=>h (h1.tab c hc)
theorem free_way{n k:Nat}{c p:Pt}(hz:SetB n z)(hn:n≤64)(hk:k<(setL z).length)(hd:d<6)(hc:c∈bcells ks (brkAt bs b))(hp:p∈bcells ks (brkAt bs (memA z k)))(h:wayC c p d=true):freeB ks bs tab z b d=false:=freeB_not fun h1=>by
 obtain⟨t,t1,t2,rfl⟩:=(wayC_iff hd).1 h
 exact h1.way _ ((setL_of hz hn).1 (List.mem_of_getElem? (memA_get hk))) c hc t t1 t2 hp
theorem free_of{r:Bool}{n:Nat}(hz:SetB n z)(hn:n≤64)(hd:d<6)(hr:r=true ↔ ∀x∈linkL ks bs,fitX ks bs z b d x)(ht: ∀c∈bcells ks (brkAt bs b),tab≤(backP d 64 c).z)(hw: ∀k,k<(setL z).length → ∀c∈bcells ks (brkAt bs b),∀p∈bcells ks (brkAt bs (memA z k)),wayC c p d=false):freeB ks bs tab z b d=r:=by
 rw[Bool.eq_iff_iff,freeB_iff,hr]
 refine⟨fun h=>h.fit,fun h=>⟨h,ht,fun j hj c hc t t1 t2 hm=> ?_⟩⟩
 obtain⟨k,hk⟩:=List.getElem?_of_mem ((setL_of hz hn).2 hj)
 have h1:=hw k (List.getElem?_eq_some_iff.1 hk).1 c hc _ (memA_eq hk▸hm)
 rw[(wayC_iff hd).2 ⟨t,t1,t2,rfl⟩] at h1
 cases h1
end
theorem in_small{p:Pt}(h:p.in_ 1015):Small 2000 p:=by
 obtain⟨⟨h1,h2⟩,⟨h3,h4⟩,⟨h5,h6⟩⟩:=h
 exact⟨⟨by omega,by omega⟩,⟨by omega,by omega⟩,⟨by omega,by omega⟩⟩
theorem small_mono{p:Pt}(h:Small 2000 p):Small 100000 p:=by
 obtain⟨⟨h1,h2⟩,⟨h3,h4⟩,⟨h5,h6⟩⟩:=h
 exact⟨⟨by omega,by omega⟩,⟨by omega,by omega⟩,⟨by omega,by omega⟩⟩
theorem all_to{α:Type}{l:List α}{P:α→Prop}{k:Nat}(h: ∀t,t<k → ∀x,l[t]? = some x→P x){y:α}(hy:l[k]? = some y)(hP:P y): ∀t,t<k+1 → ∀x,l[t]? = some x→P x:=fun t ht x hx=>by
 rcases Nat.lt_or_ge t k with h1|h1
 ·exact h t h1 x hx
 ·obtain rfl:t=k:=by omega
  rw[hy] at hx
  cases hx
  exact hP
theorem all_mem{α:Type}{l:List α}{P:α→Prop}{n:Nat}(h: ∀t,t<n → ∀x,l[t]? = some x→P x)(hn:l.length=n): ∀x∈l,P x:=fun x hx=>by
 obtain⟨t,ht⟩:=List.getElem?_of_mem hx
 exact h t (hn▸(List.getElem?_eq_some_iff.1 ht).1) x ht
structure Fr5(W0:World)(g1 c1 n q d T2:Nat)(cx cy cz u1 u2 u3 tab:Int)(L:Nat→Bool)(us:Nat→Value)(w:World):Prop where
 x:Ext W0 w
 f0:L 0=true→us 0 = .slice (some ⟨g1,0,none⟩) n c1
 f1:L 1=true→us 1 = .int .i64 q
 f2:L 2=true→us 2 = .pointer (some ⟨g1,q*3,none⟩)
 f3:L 3=true→us 3 = .agg #[.int .i64 cx,.int .i64 cy,.int .i64 cz]
 f4:L 4=true→us 4 = .int .i64 d
 f5:L 5=true→us 5 = .agg #[.int .i64 u1,.int .i64 u2,.int .i64 u3]
 f6:L 6=true→us 6 = .int .i64 u3
 f7:L 7=true→us 7 = .pointer (some ⟨T2,0,none⟩)
 f8:L 8=true→us 8 = .int .i64 tab
 f9:L 9=true→us 9 = .bool (decide (u3<tab))
structure Pl10(W0:World)(vQ vb:Value)(T1:Nat)(B TA:Option Addr)(nb cb tn tc k j:Nat)(p p2:Addr)(n:Nat)(L1:List Pt)(L:Nat→Bool)(us:Nat→Value)(w:World):Prop where
 x:Ext W0 w
 f0:L 0=true→us 0=vQ
 f1:L 1=true→us 1 = .pointer (some ⟨T1,0,none⟩)
 f2:L 2=true→us 2 = .slice B nb cb
 f3:L 3=true→us 3 = .slice TA tn tc
 f4:L 4=true→us 4 = .int .i64 k
 f5:L 5=true→us 5 = .pointer (some p2)
 f6:L 6=true→us 6 = .int .i64 j
 f7:L 7=true→us 7 = .pointer (some p)
 f8:L 8=true→us 8=vb
 f9:L 9=true→RowV w (us 9) n L1
 f10:L 10=true→RowV w (us 10) n L1
set_option maxRecDepth 100000 in
set_option maxHeartbeats 16000000 in
theorem rFree_c(m:MB)(TA:Option Addr)(tc z b d:Nat)(LA:Option Addr)(lc:Nat)(w:World)(hM:MBAt w m)(hcm:checkErr m.ks m.bs=0)(hz:SetB m.bs.length z)(hbn:b<m.bs.length)(hd:d<6)(hT:IntsZ w TA tc (setI z))(hL:Links w LA lc (linkL m.ks m.bs)) :
  Calls Tryz.prog 73 #[.slice m.QA m.qs.length m.qc,.agg #[.slice m.B m.bs.length m.cb],.agg #[.int .i64 m.tab,.slice m.HA m.hands.length m.hc],.slice TA (setL z).length tc,.int .i64 b,.int .i64 d,.slice LA (linkL m.ks m.bs).length lc] w fun e w'=>e = .returned (.bool (freeB m.ks m.bs m.tab z b d))∧Ext w w':=by
 have hf:=hM.fit hcm
 have hnb:=hf.n
 obtain⟨W1,hW1,E1,B1,hz1⟩:=mk_ w #[.slice m.B m.bs.length m.cb] 25
 obtain⟨W2,hW2,E2,B2,hz2⟩:=mk_ W1 #[.int .i64 m.tab,.slice m.HA m.hands.length m.hc] 28
 have HPl:=h_ (fun(j:Nat) (hj:j<m.bs.length)=>rPlacedAt_c hM.k hM.b.2 (check_model hcm) hj)
 have HNe:=h_ (fun(j:Nat) (hj:j<m.bs.length) (c:Pt) (hc:c∈bcells m.ks (brkAt m.bs j))=>in_small (cells_near hM.k hM.b.2 (check_model hcm) hj c hc))
 have HFi:=h_ (fun(W:World) (E:Ext w W)=>rFits_c m.qs m.QA m.qc m.bs m.B m.cb TA tc z b d LA lc W (hM.ext E).k (hM.ext E).b hcm hz hbn hd (IntsZ.ext hT E) (hL.ext E))
 have HT:=h_ hT
 have HFw:=h_ (fun(k:Nat) (hk:k<(setL z).length) (c p:Pt) hc hp h=>free_way (ks:=m.ks) (bs:=m.bs) (tab:=m.tab) (b:=b) (d:=d) (c:=c) (p:=p) hz (by omega) hk hd hc hp h)
 have HFo:=h_ (fun(r:Bool) hr ht hw=>free_of (ks:=m.ks) (bs:=m.bs) (tab:=m.tab) (b:=b) (r:=r) hz (by omega) hd hr ht hw)
 have HFt:=h_ (fun(c:Pt) hc h=>free_tab (ks:=m.ks) (bs:=m.bs) (tab:=m.tab) (z:=z) (b:=b) (d:=d) (c:=c) hc h)
 have HMe:=h_ (fun(k:Nat) (hk:k<(setL z).length)=>memA_lt hz (by omega) hk)
 obtain⟨g,off,hB⟩:=bricks_addr hM.b (by omega)
 have HBc:=h_ (fun(j:Nat) (hj:j<m.bs.length) (W:World) (E:Ext w W)=>bricks_cell (hM.ext E).b hj hB)
 have Hd:=h_ hd
 have hzl:(setL z).length≤9223372036854775807:=by have:=setL_len z;omega
 rw[hB] at B1 hW1 HFi ⊢
 have HB1:=h_ (B1.ext E2)
 have HB2:=h_ B2
 have b1:=HB1.out.cell
 have HE:=h_ (E1.trans E2)
 obtain⟨nb,hnbe⟩:=nm m.bs.length
 rw[hnbe] at HPl HNe HMe HBc hbn hnb HB1 b1 hW1 HFi ⊢
 obtain⟨⟨kd,⟨x1,x2,x3⟩,tn,cl⟩,hbk⟩:=nm (brkAt m.bs b)
 obtain⟨d0,d1,d2,d3,d4,d5⟩:=HBc.out b hbn W2 HE.out
 have PB:=HPl.out b hbn W2 HE.out
 have HNb:=h_ (HNe.out b hbn)
 rw[hbk] at d0 d1 d2 d3 d4 d5 PB HNb HFw HFo HFt
 obtain⟨Lb,hLb⟩:=nm (bcells m.ks ⟨kd,⟨x1,x2,x3⟩,tn,cl⟩)
 obtain⟨n,hn⟩:=nm Lb.length
 have hcl:clen m.ks m.bs b=n:=by unfold clen;rw[hbk,hLb,hn]
 have Hn:=h_ hn
 rw[show clen (m.qs.map (·.1)) m.bs b=n from hcl,show bcells (m.qs.map (·.1)) ⟨kd,⟨x1,x2,x3⟩,tn,cl⟩=Lb from hLb] at PB
 rw[hLb] at HNb HFw HFo HFt
 have b0:(0:Int)≤b:=by omega
 have b2:(b:Int)<nb:=by omega
 unfold brkV at PB
 obtain⟨T1,hT1⟩:=nm w.heap.size
 obtain⟨T2,hT2⟩:=nm W1.heap.size
 have HT1:=h_ hT1
 have HT2:=h_ hT2
 have HB1':=HB1.out
 rw[hT1] at HB1'
 rw[hT2] at HB2
 replace HB1:=h_ HB1'
 obtain⟨zn,hzn⟩:=nm ((setL z).length)
 have Hzn:=h_ hzn
 rw[hzn] at HFw HFo HMe hzl HFi ⊢
 clear hz1 hz2 B1 B2 E1 E2 hM hf hT hL hcm hz hbk hLb hn hcl hnbe hB hT1 hT2 HB1' hzn
 go_enter Tryz.func73,Tryz.ntmps73
 go_wp2_with fail
 clear b1 hW1 hW2 d0 d1 d2 d3 d4 d5
 refine PB.mono ?_
 rintro e W3 ⟨g1,c1,-,rfl,hn1,hc1,X1,E3⟩
 unfold maxLen at hc1
 have HX1:=h_ X1
 have HE3:=h_ (HE.out.trans E3)
 have HB13:=h_ (HB1.out.ext E3)
 have HB23:=h_ (HB2.out.ext E3)
 rw[HT1.out,HT2.out]
 clear X1 E3 PB
 go_wp2_with fail
 go_loopw [16] (fun i wr=> ∃q:Nat,q≤n∧i = .int .i64 q∧Ext W3 wr∧Hid (∀t,t<q → ∀c,Lb[t]? = some c→m.tab≤(backP d 64 c).z)) (fun i _=>n-(intOf i).toNat)
 case atStart=>exact⟨0,by omega,rfl,Ext.refl _,h_ (fun t ht=>by omega)⟩
 case round =>
  obtain⟨q,hq,rfl,E,Hq⟩:=hrel
  by_cases hqn:q<n
  ·obtain⟨⟨x,y,zz⟩,hc⟩: ∃c,Lb[q]? = some c:=⟨_,List.getElem?_eq_getElem (by rw[Hn.out];exact hqn)⟩
   have hr:(Lb.map Pt.cs)[q]? = some (Pt.cs ⟨x,y,zz⟩):=by rw[List.getElem?_map,hc];rfl
   have RX:=HX1.out.ext E
   have a0:=RX.cell (pts_wide' Lb) hr (j:=0) rfl
   have a1:=RX.cell (pts_wide' Lb) hr (j:=1) rfl
   have a2:=RX.cell (pts_wide' Lb) hr (j:=2) rfl
   simp only[Nat.add_zero] at a0
   have Hc:=h_ hc
   have q0:(0:Int)≤q:=by omega
   have q1:(q:Int)<n:=by omega
   have q2:(q:Int)<c1:=by omega
   clear RX hr hc
   have RB:=h_ (fun W=>rback_c x y zz d 64 hd (by decide) (small_mono (HNb.out _ (List.mem_of_getElem? Hc.out))) W)
   obtain⟨⟨u1,u2,u3⟩,hu⟩:=nm (backP d 64 ⟨x,y,zz⟩)
   rw[hu] at RB
   have Hu:=h_ hu
   have HB24:=h_ (HB23.out.ext E)
   clear hu
   go_upto_region 5 with(fail)
   refine wp_region_by (Fr5 wr g1 c1 n q d T2 x y zz u1 u2 u3 m.tab) (by kernel_rfl) (by kernel_rfl) (by kernel_rfl) (fun us=>⟨(Ext.refl _).drew,(nofun),(nofun),(nofun),(nofun),(nofun),(nofun),(nofun),(nofun),(nofun),(nofun)⟩) ⟨?_,?_,?_,?_,?_,?_,?_,?_,?_,?_,trivial⟩ ?_
   any_goals (intro L us wx K a ha hp hd hun hI hK;replace hp:=h_ hp;replace hd:=h_ hd;simp only[putAll,Act.put,zs,Nat.reduceAdd] at ha;subst ha;simp only[Act.put,zs] at hK)
   ·go_simp
    exact hK _ _ {hI with f0:=fun _=>rfl}
   ·go_simp
    exact hK _ _ {hI with f1:=fun _=>rfl}
   ·rw[hI.f0 (h_p hp 0),hI.f1 (h_p hp 1)] at hK ⊢
    go_simp
    exact hK _ _ {hI with f2:=fun _=>rfl}
   ·have a3:=hI.x.cell a0
    have a4:=hI.x.cell a1
    have a5:=hI.x.cell a2
    rw[hI.f2 (h_p hp 2)] at hK ⊢
    go_simp
    exact hK _ _ {hI with f3:=fun _=>rfl}
   ·go_simp
    exact hK _ _ {hI with f4:=fun _=>rfl}
   ·rw[hI.f3 (h_p hp 3),hI.f4 (h_p hp 4)] at hK ⊢
    go_simp
    go_at_call 104
    refine(RB.out _).mono ?_
    rintro e wn ⟨rfl,En⟩
    go_simp
    exact hK _ _ {hI with x:=hI.x.trans En,f5:=fun _=>rfl}
   ·rw[hI.f5 (h_p hp 5)] at hK ⊢
    go_simp
    exact hK _ _ {hI with f6:=fun _=>rfl}
   ·go_simp
    exact hK _ _ {hI with f7:=fun _=>rfl}
   ·have bb:=(HB24.out.ext hI.x).cell
    rw[hI.f7 (h_p hp 7)] at hK ⊢
    go_simp
    exact hK _ _ {hI with f8:=fun _=>rfl}
   ·rw[hI.f6 (h_p hp 6),hI.f8 (h_p hp 8)] at hK ⊢
    go_simp
    exact hK _ _ {hI with f9:=fun _=>rfl}
   intro L us W5 hall hI
   have u9:=hI.f9 (hall 9 (by simp))
   have E5:=hI.x
   simp only[putAll,Act.put,zs,Nat.reduceAdd,u9]
   clear hall hI a0 a1 a2
   by_cases hl:m.tab≤u3
   ·have hdz:decide (u3<m.tab)=false:=by simpa using hl
    go_wp2_with fail
    go_roundw
    case rel=>exact⟨q+1,by omega,by go_num,E.trans E5,h_ (all_to Hq.out Hc.out (by rw[Hu.out];exact hl))⟩
    case measure=>simp only[intOf];omega
   ·have hdz:decide (u3<m.tab)=true:=by simp;omega
    have Hf:=h_ (HFt.out _ (List.mem_of_getElem? Hc.out) (by rw[Hu.out];simp only;omega))
    go_wp2_with fail
    go_ret
    exact⟨by rw[Hf.out];rfl,HE3.out.trans (E.trans E5)⟩
  ·obtain rfl:n=q:=by omega
   have HTab:=h_ (all_mem Hq.out Hn.out)
   have HE4:=h_ (HE3.out.trans E)
   have HB14:=h_ (HB13.out.ext E)
   have HX4:=h_ (HX1.out.ext E)
   clear hqn hq Hq E HX1 HB13 HB23 HE3
   go_wp2_with fail
   go_loopw [17] (fun i w'=> ∃k:Nat,k≤zn∧i = .int .i64 k∧Ext wr w'∧Hid (∀t,t<k → ∀c∈Lb,∀p∈bcells m.ks (brkAt m.bs (memA z t)),wayC c p d=false)) (fun i _=>zn-(intOf i).toNat)
   case atStart=>exact⟨0,by omega,rfl,Ext.refl _,h_ (fun t ht=>by omega)⟩
   case round =>
    obtain⟨k,hk,rfl,E,Hk⟩:=hrel
    have HE5:=h_ (HE4.out.trans E)
    have HB15:=h_ (HB14.out.ext E)
    have HX5:=h_ (HX4.out.ext E)
    by_cases hkn:k<zn
    ·have TT:=IntsZ.ext HT.out HE5.out
     obtain⟨tb,t9,kv,rfl,hkv,-,-⟩:=TT.at_ (show k<(setI z).length by rw[setI_len,Hzn.out];exact hkn)
     obtain rfl:kv=(memA z k:Int):=by
      rw[setI_get (memA_get (show k<(setL z).length by rw[Hzn.out];exact hkn))] at hkv
      exact(Option.some.inj hkv).symm
     have hjn:=HMe.out k hkn
     obtain⟨j,hj⟩:=nm (memA z k)
     rw[hj] at hkv hjn
     have Hj:=h_ hj
     have Hkv:=h_ hkv
     have HTc:=h_ (fun(W:World) (E':Ext wr W)=>show W.cell? ⟨tb,t9+k,none⟩=some (.int .i64 j) from by
      obtain⟨tb',t9',kv',h1,h2,-,h3⟩:=(IntsZ.ext HT.out (HE5.out.trans E')).at_ (show k<(setI z).length by rw[setI_len,Hzn.out];exact hkn)
      cases h1
      rw[Hkv.out] at h2
      cases h2
      exact h3)
     have hle:=TT.le
     rw[setI_len,Hzn.out] at hle
     have HD:=h_ (fun(W:World) (E':Ext wr W)=>HBc.out j hjn W (HE5.out.trans E'))
     have HP:=h_ (HPl.out j hjn)
     have HNj:=h_ (HNe.out j hjn)
     obtain⟨⟨kj,⟨y1,y2,y3⟩,tj,cj⟩,hbj⟩:=nm (brkAt m.bs j)
     rw[hbj] at HD HP HNj
     have Hbj:=h_ hbj
     obtain⟨Lj,hLj⟩:=nm (bcells m.ks ⟨kj,⟨y1,y2,y3⟩,tj,cj⟩)
     obtain⟨nj,hnj⟩:=nm Lj.length
     have Hnj:=h_ hnj
     have HLj:=h_ hLj
     have hclj:clen m.ks m.bs j=nj:=by unfold clen;rw[hbj,hLj,hnj]
     rw[show clen (m.qs.map (·.1)) m.bs j=nj from hclj,show bcells (m.qs.map (·.1)) ⟨kj,⟨y1,y2,y3⟩,tj,cj⟩=Lj from hLj] at HP
     rw[hLj] at HNj
     unfold brkV at HP
     have HFk:=h_ (fun(c p:Pt) hc (hp:p∈Lj) h=>HFw.out k hkn c p hc (by rw[Hj.out,Hbj.out,HLj.out];exact hp) h)
     have k0:(0:Int)≤k:=by omega
     have k1:(k:Int)<zn:=by omega
     have j0:(0:Int)≤j:=by omega
     have j1:(j:Int)<nb:=by omega
     clear hj hkv hbj hLj hnj hclj TT
     go_upto_region 10 with(fail)
     refine wp_region_by (Pl10 wr (.slice m.QA m.qs.length m.qc) (.agg #[.int .i64 kj,.int .i64 y1,.int .i64 y2,.int .i64 y3,.int .u8 tj,.int .u8 cj]) T1 (some ⟨g,off,none⟩) (some ⟨tb,t9,none⟩) nb m.cb zn tc k j ⟨g,off+j*6,none⟩ ⟨tb,t9+k,none⟩ nj Lj) (by kernel_rfl) (by kernel_rfl) (by kernel_rfl) (fun us=>⟨(Ext.refl _).drew,(nofun),(nofun),(nofun),(nofun),(nofun),(nofun),(nofun),(nofun),(nofun),(nofun),(nofun)⟩) ⟨?_,?_,?_,?_,?_,?_,?_,?_,?_,?_,?_,trivial⟩ ?_
     any_goals (intro L us wx K a ha hp hd hun hI hK;replace hp:=h_ hp;replace hd:=h_ hd;simp only[putAll,Act.put,zs,Nat.reduceAdd] at ha;subst ha;simp only[Act.put,zs] at hK)
     ·go_simp
      exact hK _ _ {hI with f0:=fun _=>rfl}
     ·go_simp
      exact hK _ _ {hI with f1:=fun _=>rfl}
     ·have bb:=(HB15.out.ext hI.x).cell
      rw[hI.f1 (h_p hp 1)] at hK ⊢
      go_simp
      exact hK _ _ {hI with f2:=fun _=>rfl}
     ·go_simp
      exact hK _ _ {hI with f3:=fun _=>rfl}
     ·go_simp
      exact hK _ _ {hI with f4:=fun _=>rfl}
     ·rw[hI.f3 (h_p hp 3),hI.f4 (h_p hp 4)] at hK ⊢
      go_simp
      exact hK _ _ {hI with f5:=fun _=>rfl}
     ·have tt:=HTc.out wx hI.x
      rw[hI.f5 (h_p hp 5)] at hK ⊢
      go_simp
      exact hK _ _ {hI with f6:=fun _=>rfl}
     ·rw[hI.f2 (h_p hp 2),hI.f6 (h_p hp 6)] at hK ⊢
      go_simp
      exact hK _ _ {hI with f7:=fun _=>rfl}
     ·obtain⟨d0,d1,d2,d3,d4,d5⟩:=HD.out wx hI.x
      rw[hI.f7 (h_p hp 7)] at hK ⊢
      go_simp
      exact hK _ _ {hI with f8:=fun _=>rfl}
     ·have EX:=h_ (HE5.out.trans hI.x)
      rw[hI.f0 (h_p hp 0),hI.f8 (h_p hp 8)] at hK ⊢
      go_simp
      go_at_call 68
      refine(HP.out _ EX.out).mono ?_
      rintro e wn ⟨g,cp,hg,rfl,q1,q2,X,En⟩
      go_simp
      refine hK _ _ ?_
      refine {hI with x:=hI.x.trans En,f9:= ?_,f10:= ?_}<;>(first|exact fun h=>(hI.f9 h).ext En|exact fun h=>own_ext (hI.f9 h) En|exact fun h=>(hI.f10 h).ext En|exact fun h=>own_ext (hI.f10 h) En|exact fun _=>rfl|skip)
      all_goals exact(by first|exact fun _=>⟨cp,rfl,q1,q2,X⟩)
     ·obtain⟨cu,ua,q1,q2,X⟩:=hI.f9 (h_p hp 9)
      obtain⟨g2,hg2⟩:=nm (bk (us 9))
      rw[hg2] at ua X
      clear hg2
      rw[ua] at hK ⊢
      go_simp
      exact hK _ _ {hI with f10:=fun _=>⟨cu,rfl,q1,q2,X⟩}
     intro L us V hall hI
     obtain⟨c2,u10,q1,q2,X2⟩:=hI.f10 (hall 10 (by simp))
     obtain⟨g2,hg2⟩:=nm (bk (us 10))
     rw[hg2] at u10 X2
     simp only[putAll,Act.put,zs,Nat.reduceAdd,u10]
     have EV:=E.trans hI.x
     have HEV:=h_ (HE5.out.trans hI.x)
     have HXV:=h_ (HX5.out.ext hI.x)
     have HX2:=h_ X2
     have hnl:nj≤maxLen:=Nat.le_trans q1 q2
     unfold maxLen at hnl
     clear hall hI u10 hg2 X2 HX5 HB15 HD HP HTc HE5
     go_wp2_with fail
     go_loopw [19] (fun i w'=> ∃q:Nat,q≤n∧i = .int .i64 q∧Ext V w'∧Hid (∀t,t<q → ∀c,Lb[t]? = some c → ∀p∈Lj,wayC c p d=false)) (fun i _=>n-(intOf i).toNat)
     case atStart=>exact⟨0,by omega,rfl,Ext.refl _,h_ (fun t ht=>by omega)⟩
     case round =>
      obtain⟨q,hq,rfl,E1,Hq⟩:=hrel
      by_cases hqn:q<n
      ·have hq0:(0:Int)≤q:=by omega
       go_wp2_with fail
       go_loopw [20] (fun i w'=> ∃u:Nat,u≤nj∧i = .int .i64 u∧Ext V w'∧Hid (∀t,t<u → ∀p,Lj[t]? = some p→wayC (ptAt Lb q) p d=false)) (fun i _=>nj-(intOf i).toNat)
       case atStart=>exact⟨0,by omega,rfl,E1,h_ (fun t ht=>by omega)⟩
       case round =>
        obtain⟨u,hu,rfl,E2,Hu⟩:=hrel
        by_cases hun:u<nj
        ·obtain⟨⟨x,y,zz⟩,hc⟩: ∃c,Lb[q]? = some c:=⟨_,List.getElem?_eq_getElem (by rw[Hn.out];exact hqn)⟩
         have hr:(Lb.map Pt.cs)[q]? = some (Pt.cs ⟨x,y,zz⟩):=by rw[List.getElem?_map,hc];rfl
         have RX:=HXV.out.ext E2
         have a0:=RX.cell (pts_wide' Lb) hr (j:=0) rfl
         have a1:=RX.cell (pts_wide' Lb) hr (j:=1) rfl
         have a2:=RX.cell (pts_wide' Lb) hr (j:=2) rfl
         simp only[Nat.add_zero] at a0
         have Hc:=h_ hc
         have q0:(0:Int)≤q:=by omega
         have q1:(q:Int)<n:=by omega
         have q2:(q:Int)<c1:=by omega
         clear RX hr hc
         obtain⟨⟨px,py,pz⟩,hc⟩: ∃c,Lj[u]? = some c:=⟨_,List.getElem?_eq_getElem (by rw[Hnj.out];exact hun)⟩
         have hr:(Lj.map Pt.cs)[u]? = some (Pt.cs ⟨px,py,pz⟩):=by rw[List.getElem?_map,hc];rfl
         have RX:=HX2.out.ext E2
         have p0:=RX.cell (pts_wide' Lj) hr (j:=0) rfl
         have p1:=RX.cell (pts_wide' Lj) hr (j:=1) rfl
         have p2:=RX.cell (pts_wide' Lj) hr (j:=2) rfl
         simp only[Nat.add_zero] at p0
         have Hp:=h_ hc
         have u0:(0:Int)≤u:=by omega
         have u1:(u:Int)<nj:=by omega
         have u2:(u:Int)<c2:=by omega
         clear RX hr hc
         have RB:=h_ (fun W=>rbehind_c x y zz px py pz d hd (HNb.out _ (List.mem_of_getElem? Hc.out)) (HNj.out _ (List.mem_of_getElem? Hp.out)) W)
         obtain⟨v,hv⟩:=nm (behindZ ⟨x,y,zz⟩ ⟨px,py,pz⟩ d)
         rw[hv] at RB
         obtain⟨r,hr⟩:=nm (inB 1 64 v)
         have Hr:=h_ (show wayC ⟨x,y,zz⟩ ⟨px,py,pz⟩ d=r by unfold wayC;rw[hv,hr])
         have WC:=h_ (fun W=>within6_c v 1 64 W)
         rw[hr] at WC
         clear hv hr
         go_upto_region 17 with(fail)
         refine wp_region_grow (by kernel_rfl) (by kernel_rfl) ?_
         repeat (go_big_quiet_step ((go_at_call 105;exact quiet_ext (RB.out _))))
         refine wpQuiet_nil ?_
         intro W5 hW5
         have E5:Ext wr W5:=by
          obtain⟨x,rfl⟩:=hW5
          exact(Ext.refl _).grow x
         clear hW5
         obtain⟨hcW5,hfW5,hzW5⟩:=ext_facts E5
         clear a0 a1 a2 p0 p1 p2 hcW5 hfW5 hzW5
         go_wp2_with fail
         refine(WC.out _).mono ?_
         rintro e W6 ⟨rfl,E6⟩
         have E26:=(E2.trans E5).trans E6
         clear E2 E5 E6
         cases r
         ·go_wp2_with fail
          go_roundw
          case rel=>exact⟨u+1,by omega,by go_num,E26,h_ (all_to Hu.out Hp.out (by rw[ptAt_eq Hc.out];exact Hr.out))⟩
          case measure=>simp only[intOf];omega
         ·have Hf:=h_ (HFk.out _ _ (List.mem_of_getElem? Hc.out) (List.mem_of_getElem? Hp.out) Hr.out)
          go_wp2_with fail
          go_ret
          exact⟨by rw[Hf.out];rfl,HEV.out.trans E26⟩
        ·obtain rfl:u=nj:=by omega
         have Hn2:=h_ (all_mem Hu.out Hnj.out)
         have Hq2:=h_ (show ∀t,t<q+1 → ∀c,Lb[t]? = some c → ∀p∈Lj,wayC c p d=false from
          have hg:=List.getElem?_eq_getElem (show q<Lb.length by rw[Hn.out];exact hqn)
          all_to Hq.out hg (by rw[←ptAt_eq hg];exact Hn2.out))
         go_wp2_with fail
         go_roundw
         case rel=>exact⟨q+1,by omega,by go_num,E2,Hq2⟩
         case measure=>simp only[intOf];omega
      ·obtain rfl:n=q:=by omega
       have Hk2:=h_ (show ∀t,t<k+1 → ∀c∈Lb,∀p∈bcells m.ks (brkAt m.bs (memA z t)),wayC c p d=false from fun t ht=>by
        rcases Nat.lt_or_ge t k with h|h
        ·exact Hk.out t h
        ·obtain rfl:t=k:=by omega
         rw[Hj.out,Hbj.out,HLj.out]
         exact all_mem Hq.out Hn.out)
       go_wp2_with fail
       go_roundw
       case rel=>exact⟨k+1,by omega,by go_num,EV.trans E1,Hk2⟩
       case measure=>simp only[intOf];omega
    ·obtain rfl:k=zn:=by omega
     have HFf:=h_ (fun r hr=>HFo.out r hr HTab.out Hk.out)
     have b1:=HB15.out.cell
     clear Hk HTab
     go_wp2_with fail
     clear b1
     refine(HFi.out _ HE5.out).mono ?_
     rintro e W6 ⟨r,rfl,hr,E6⟩
     have Hf:=h_ (HFf.out r hr)
     have HE6:=h_ (HE5.out.trans E6)
     clear hr E6
     go_wp2_with fail
     go_ret
     exact⟨by rw[Hf.out];rfl,HE6.out⟩
set_option maxRecDepth 100000 in
set_option maxHeartbeats 8000000 in
theorem rWays_c(m:MB)(TA:Option Addr)(tc z b:Nat)(w:World)(hM:MBAt w m)(h0:checkErr m.ks m.bs=0)(hz:SetB m.bs.length z)(hb:b<m.bs.length)(hT:IntsZ w TA tc (setI z)) :
  Calls Tryz.prog 37 #[.slice m.QA m.qs.length m.qc,.agg #[.slice m.B m.bs.length m.cb],.agg #[.int .i64 m.tab,.slice m.HA m.hands.length m.hc],.slice TA (setL z).length tc,.int .i64 b] w (IntsPost (wayQ m.ks m.bs m.tab z b 6) w):=by
 obtain⟨W1,hW1,E1,B1,hz1⟩:=mk_ w #[.slice m.B m.bs.length m.cb] 25
 obtain⟨W2,hW2,E2,B2,hz2⟩:=mk_ W1 #[.int .i64 m.tab,.slice m.HA m.hands.length m.hc] 28
 have E:=E1.trans E2
 have HB1:=h_ (B1.ext E2)
 have HB2:=h_ B2
 have b1:=HB1.out.cell
 have RL:=rLinked_c m.qs m.QA m.qc m.bs m.B m.cb W2 (hM.ext E).k (hM.ext E).b h0
 have HF:=h_ (fun(d:Nat) (hd:d<6) (LA:Option Addr) (lc:Nat) (W:World) (E:Ext w W) (hL:Links W LA lc (linkL m.ks m.bs))=>rFree_c m TA tc z b d LA lc W (hM.ext E) h0 hz hb hd (IntsZ.ext hT E) hL)
 obtain⟨L,hL⟩:=nm (linkL m.ks m.bs)
 rw[show linkL (m.qs.map (·.1)) m.bs=L from hL] at RL
 rw[hL] at HF
 obtain⟨i9,hi9,hz9,hz91,hz92⟩:=info_parts infoI6
 have HE:=h_ E
 clear hM h0 hz hb hT hz1 hz2 B1 B2 E1 E2 E hL
 go_enter Tryz.func37,Tryz.ntmps37
 go_wp2_with fail
 clear b1 hW1 hW2
 refine RL.mono ?_
 rintro e W3 ⟨LA,lc,rfl,hL,E3⟩
 have HL:=h_ hL
 have HB13:=h_ (HB1.out.ext E3)
 have HB23:=h_ (HB2.out.ext E3)
 have HE3:=h_ (HE.out.trans E3)
 obtain⟨U,hU⟩:=nm W3.heap.size
 have HU:=h_ hU
 clear RL hL E3 hU
 go_wp2_with fail
 go_loopw [12,13] (fun v ii wr=> ∃(d:Nat) (u:Value),d≤6∧ii = .int .i64 d∧v=u∧Ext W3 wr∧wr.ownsRow U 3 1 u (wayQ m.ks m.bs m.tab z b d).length ((wayQ m.ks m.bs m.tab z b d).map (Value.int .i64))) (fun _ ii _=>6-(intOf ii).toNat)
 case atStart=>exact⟨0,_,by omega,rfl,rfl,Ext.refl _,World.ownsRow_nil _ _ _ _⟩
 case round =>
  obtain⟨d,v,hd,rfl,rfl,Er,own⟩:=hrel
  by_cases hlt:d<6
  ·have FC:=HF.out d hlt LA lc wr (HE3.out.trans Er) (HL.out.ext Er)
   have b1:=(HB13.out.ext Er).cell
   have b2:=(HB23.out.ext Er).cell
   obtain⟨r,hr⟩:=nm (freeB m.ks m.bs m.tab z b d)
   rw[hr] at FC
   have hsn:=wayQ_succ m.ks m.bs m.tab z b d
   rw[hr] at hsn
   have hln:=wayQ_len m.ks m.bs m.tab z b d
   have d0:(0:Int)≤d:=by omega
   have d1:(d:Int)<6:=by omega
   clear hr
   cases r
   ·have hf2:wayQ m.ks m.bs m.tab z b (d+1)=wayQ m.ks m.bs m.tab z b d:=by rw[hsn];exact List.append_nil _
    rw[←hf2] at own
    have Hown:=h_ own
    clear own hsn hln hf2
    go_wp2_with fail
    clear b1 b2
    refine FC.mono ?_
    rintro e W4 ⟨rfl,E4⟩
    go_wp2_with fail
    go_roundw
    case rel=>exact⟨d+1,_,by omega,by go_num,rfl,Er.trans E4,own_ext Hown.out E4⟩
    case measure=>simp only[intOf];omega
   ·have hf2:wayQ m.ks m.bs m.tab z b (d+1)=wayQ m.ks m.bs m.tab z b d ++ [(d:Int)]:=by rw[hsn];rfl
    have Hf2:=h_ hf2
    have hjl:(wayQ m.ks m.bs m.tab z b d).length+1≤maxLen:=by unfold maxLen;omega
    obtain⟨fl,hfe⟩:=nm (wayQ m.ks m.bs m.tab z b d)
    rw[hfe] at own hjl hln Hf2
    obtain⟨fn,hfn⟩:=nm fl.length
    rw[hfn] at own hjl hln
    have Hfn:=h_ hfn
    clear hsn hf2 hfe hfn
    go_wp2_with fail
    clear b1 b2
    refine FC.mono ?_
    rintro e W4 ⟨rfl,E4⟩
    have EW:=Er.trans E4
    have ow1:=own_ext own E4
    have hU4:U≤W4.heap.size:=by have:=HU.out;have:=EW.size;omega
    clear own E4 Er FC
    go_wp2_with (at_builtin;refine wpList_append_one #[.int .i64 d] rfl (.tmp 29) (.tmp 31) 26 rfl U 3 3 i9 _ 1 8 Tryz.underlying26 hi9 hz9 hz91 hz92 rfl (by decide) _ fn _ _ rfl ow1 rfl rfl (by simp[Value.oneCell']) hjl (by omega) hU4 ?_;intro g7 cap7 w7 own7 hg7)
    go_roundw
    case rel =>
     refine⟨d+1,_,by omega,by go_num,rfl,(EW.alloc _).grown hg7 (fun k hk=>by have:=(ow1.lt k hk).1;have:=HU.out;omega),?_⟩
     rw[Hf2.out,List.map_append,List.length_append,Hfn.out]
     exact own7
    case measure=>simp only[intOf];omega
  ·obtain rfl:d=6:=by omega
   obtain⟨FA,fc,rfl,hFI⟩:=ints_own6 own
   have HFI:=h_ hFI
   have HR:=h_ (HE3.out.trans Er)
   clear hFI own Er
   go_wp2_with fail
   refine bodyPost_ret (v:= .slice FA (wayQ m.ks m.bs m.tab z b 6).length fc) (by simp[results,Tryz.results37,go_sem]) rfl ⟨FA,fc,rfl,HFI.out,HR.out⟩
end Go.Proofs.YtojolpbpjimfgaaGreatDoor
