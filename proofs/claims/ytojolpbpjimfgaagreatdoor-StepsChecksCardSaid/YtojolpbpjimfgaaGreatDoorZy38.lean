/- Texts of the proof: RJoined. -/
import Derived.Test.YtojolpbpjimfgaaGreatDoorZy22
import Derived.Test.YtojolpbpjimfgaaGreatDoorZy37
set_option maxHeartbeats 16000000
set_option maxRecDepth 100000
namespace Go.Proofs.YtojolpbpjimfgaaGreatDoor
open Go.RowKit
def KnbW(w:World)(v:Value)(n:Nat)(l:List Knb):Prop:= ∃cap,v = .slice (some ⟨bk v,0,none⟩) n cap∧KnbV w v n l
theorem KnbW.ext{w w':World}{v:Value}{n:Nat}{l:List Knb}(h:KnbW w v n l)(E:Ext w w'):KnbW w' v n l:=by
 obtain⟨cap,h1,h2⟩:=h;exact⟨cap,h1,h2.ext E⟩
theorem KnbW.of{w:World}{v:Value}{n:Nat}{l:List Knb}{b:Nat}(h:w.ownsRow b 137 5 v n (l.map Knb.cs).flatten)(hn:0<n):KnbW w v n l:=by
 obtain⟨g,cap,rfl⟩:=own_form h hn;exact⟨cap,rfl,b,h⟩
theorem KnbW.open_{w:World}{v:Value}{n:Nat}{l:List Knb}(h:KnbW w v n l)(hl:l.length=n){g:Nat}(hg:bk v=g){q:Nat}(hq:q<n): ∃cap,v = .slice (some ⟨g,0,none⟩) n cap∧w.cell? ⟨g,q*5,none⟩=some (.int .i64 (knbAt l q).at_.x)∧w.cell? ⟨g,q*5+1,none⟩=some (.int .i64 (knbAt l q).at_.y) ∧
  w.cell? ⟨g,q*5+2,none⟩=some (.int .i64 (knbAt l q).at_.z)∧w.cell? ⟨g,q*5+3,none⟩=some (.int .u8 (knbAt l q).dir)∧w.cell? ⟨g,q*5+4,none⟩=some (.int .u8 (knbAt l q).sort):=by
 obtain⟨cap,h1,h2⟩:=h;rw[hg] at h1;refine⟨cap,h1,?_⟩;rw[h1] at h2;obtain⟨b,off,hA,c0,c1,c2,c3,c4⟩:=h2.at_ hl hq;cases hA;simp only[Nat.zero_add] at c0 c1 c2 c3 c4;exact⟨c0,c1,c2,c3,c4⟩
structure Jd2(W0:World)(vQ vb:Value)(T X7:Nat)(B:Option Addr)(nb cb:Nat)(p1:Addr)(xa xk:Nat)(n1:Nat)(L1:List Knb)(kx ky kz:Int)(kd:Nat)(ks':Int)(L:Nat→Bool)(us:Nat→Value)(w:World):Prop where
 x:Ext W0 w
 g0:L 12=true→W0.heap.size≤bk (us 12)
 g1:L 12=true→L 13=false→Blk w (bk (us 12)) 137 #[.int .i64 0,.int .i64 0,.int .i64 0,.int .u8 0,.int .u8 0]
 g2:L 7=true→L 13=false→KnbW w (us 7) n1 L1
 f0:L 0=true→us 0=vQ
 f1:L 1=true→us 1 = .pointer (some ⟨T,0,none⟩)
 f2:L 2=true→us 2 = .slice B nb cb
 f3:L 3=true→us 3 = .pointer (some ⟨X7,0,none⟩)
 f4:L 4=true→us 4 = .int .i64 xa
 f5:L 5=true→us 5 = .pointer (some p1)
 f6:L 6=true→us 6=vb
 f8:L 8=true→us 8 = .pointer (some ⟨X7,2,none⟩)
 f9:L 9=true→us 9 = .int .i64 xk
 f10:L 10=true→us 10 = .pointer (some ⟨bk (us 7),xk*5,none⟩)
 f11:L 11=true→us 11 = .agg #[.int .i64 kx,.int .i64 ky,.int .i64 kz,.int .u8 kd,.int .u8 ks']
 f12:L 12=true→us 12 = .pointer (some ⟨bk (us 12),0,none⟩)
 f13:L 13=true→Blk w (bk (us 12)) 137 #[.int .i64 kx,.int .i64 ky,.int .i64 kz,.int .u8 kd,.int .u8 ks']
structure Jd9a(W0:World)(vQ vA vB:Value)(T X7 lg loff ln lc:Nat)(B:Option Addr)(nb cb:Nat)(pA pB:Addr)(xa xb k yk yo:Nat)(nA nB:Nat)(LA LB:List Knb)(fx fy fz:Int)(fd:Nat)(fs ax ay az:Int)(ad:Nat)(as_ bx by_ bz:Int)(bd:Nat)(bs_:Int)(L:Nat→Bool)(us:Nat→Value)(w:World):Prop where
 x:Ext W0 w
 f0:L 0=true→us 0 = .agg #[.int .i64 fx,.int .i64 fy,.int .i64 fz,.int .u8 fd,.int .u8 fs]
 f1:L 1=true→us 1=vQ
 f2:L 2=true→us 2 = .pointer (some ⟨T,0,none⟩)
 f3:L 3=true→us 3 = .slice B nb cb
 f4:L 4=true→us 4 = .pointer (some ⟨X7,0,none⟩)
 f5:L 5=true→us 5 = .int .i64 xa
 f6:L 6=true→us 6 = .pointer (some pA)
 f7:L 7=true→us 7=vA
 f8:L 8=true→KnbW w (us 8) nA LA
 f9:L 9=true→us 9 = .slice (some ⟨lg,loff,none⟩) ln lc
 f10:L 10=true→us 10 = .int .i64 k
 f11:L 11=true→us 11 = .pointer (some ⟨lg,loff+k*5,none⟩)
 f12:L 12=true→us 12 = .pointer (some ⟨lg,loff+k*5+2,none⟩)
 f13:L 13=true→us 13 = .int .i64 yk
 f14:L 14=true→us 14 = .pointer (some ⟨bk (us 8),yk*5,none⟩)
 f15:L 15=true→us 15 = .agg #[.int .i64 ax,.int .i64 ay,.int .i64 az,.int .u8 ad,.int .u8 as_]
 f16:L 16=true→us 16 = .bool true
 f17:L 17=true→us 17 = .bool false
 f18:L 18=true→us 18 = .bool false
 f19:L 19=true→us 19 = .agg #[.int .i64 fx,.int .i64 fy,.int .i64 fz,.int .u8 fd,.int .u8 fs]
 f20:L 20=true→us 20=vQ
 f21:L 21=true→us 21 = .pointer (some ⟨T,0,none⟩)
 f22:L 22=true→us 22 = .slice B nb cb
 f23:L 23=true→us 23 = .pointer (some ⟨X7,1,none⟩)
 f24:L 24=true→us 24 = .int .i64 xb
 f25:L 25=true→us 25 = .pointer (some pB)
 f26:L 26=true→us 26=vB
 f27:L 27=true→KnbW w (us 27) nB LB
 f28:L 28=true→us 28 = .slice (some ⟨lg,loff,none⟩) ln lc
 f29:L 29=true→us 29 = .int .i64 k
 f30:L 30=true→us 30 = .pointer (some ⟨lg,loff+k*5,none⟩)
 f31:L 31=true→us 31 = .pointer (some ⟨lg,loff+k*5+3,none⟩)
 f32:L 32=true→us 32 = .int .i64 yo
 f33:L 33=true→us 33 = .pointer (some ⟨bk (us 27),yo*5,none⟩)
 f34:L 34=true→us 34 = .agg #[.int .i64 bx,.int .i64 by_,.int .i64 bz,.int .u8 bd,.int .u8 bs_]
 f35:L 35=true→us 35 = .bool true
 f36:L 36=true→us 36 = .bool false
 f37:L 37=true→us 37 = .bool false
structure Jd9b(W0:World)(vQ vA vB:Value)(T X7 lg loff ln lc:Nat)(B:Option Addr)(nb cb:Nat)(pA pB:Addr)(xa xb k yk yo:Nat)(nA nB:Nat)(LA LB:List Knb)(fx fy fz:Int)(fd:Nat)(fs ax ay az:Int)(ad:Nat)(as_ bx by_ bz:Int)(bd:Nat)(bs_:Int)(L:Nat→Bool)(us:Nat→Value)(w:World):Prop where
 x:Ext W0 w
 f0:L 0=true→us 0 = .agg #[.int .i64 fx,.int .i64 fy,.int .i64 fz,.int .u8 fd,.int .u8 fs]
 f1:L 1=true→us 1=vQ
 f2:L 2=true→us 2 = .pointer (some ⟨T,0,none⟩)
 f3:L 3=true→us 3 = .slice B nb cb
 f4:L 4=true→us 4 = .pointer (some ⟨X7,0,none⟩)
 f5:L 5=true→us 5 = .int .i64 xa
 f6:L 6=true→us 6 = .pointer (some pA)
 f7:L 7=true→us 7=vA
 f8:L 8=true→KnbW w (us 8) nA LA
 f9:L 9=true→us 9 = .slice (some ⟨lg,loff,none⟩) ln lc
 f10:L 10=true→us 10 = .int .i64 k
 f11:L 11=true→us 11 = .pointer (some ⟨lg,loff+k*5,none⟩)
 f12:L 12=true→us 12 = .pointer (some ⟨lg,loff+k*5+2,none⟩)
 f13:L 13=true→us 13 = .int .i64 yk
 f14:L 14=true→us 14 = .pointer (some ⟨bk (us 8),yk*5,none⟩)
 f15:L 15=true→us 15 = .agg #[.int .i64 ax,.int .i64 ay,.int .i64 az,.int .u8 ad,.int .u8 as_]
 f16:L 16=true→us 16 = .bool false
 f17:L 17=true→us 17 = .bool true
 f18:L 18=true→us 18 = .bool true
 f37:L 37=true→us 37 = .bool true
theorem ofPair_at{ks:List Knd}{bs:List Brk}{l:List Lnk}(h:OfPair ks bs l){k:Nat}(hk:k<l.length):IsLnk ks bs (lnkAt l k)∧(lnkAt l k).a=(lnkAt l 0).a∧(lnkAt l k).b=(lnkAt l 0).b:=h.m _ (lnkAt_mem hk)
theorem IsLnk.sort3{ks:List Knd}{bs:List Brk}(hf:Fit ks bs){x:Lnk}(h:IsLnk ks bs x):x.sort=1∨x.sort=3∨x.sort=5:=by
 have hd:=hf.dir (show x.a<bs.length by have:=h.ab;have:=h.b;omega) h.k;rw[h.s];unfold oddS;omega
theorem rJoined_c(qs:List (Knd×KAt))(QA:Option Addr)(qc:Nat)(bs:List Brk)(B:Option Addr)(cb:Nat)(l:List Lnk)(LA:Option Addr)(lc:Nat)(w:World)(hk:Kinds w QA qc qs)(hb:Bricks w B cb bs)(hcm:checkErr (qs.map (·.1)) bs=0)(hl:OfPair (qs.map (·.1)) bs l)(hL:Links w LA lc l)(hlen:l.length≤100000) :
  Calls Tryz.prog 191 #[.slice QA qs.length qc,.agg #[.slice B bs.length cb],.slice LA l.length lc] w fun e w'=>e = .returned (.agg #[.int .i64 (joinJ (qs.map (·.1)) bs l).a,.int .i64 (joinJ (qs.map (·.1)) bs l).b,.int .i64 (joinJ (qs.map (·.1)) bs l).strength,.int .u8 (joinJ (qs.map (·.1)) bs l).axis,.bool (joinJ (qs.map (·.1)) bs l).slides])∧Ext w w':=by
 have hf:=mfine_of hk hb.2 (check_model hcm);have hft:=fit_of hk hb.2 hcm;have hbn:=hf.n;obtain⟨W1,hW1,E1,B1,hz1⟩:=mk_ w #[.slice B bs.length cb] 25;obtain⟨W2,hW2,E2,B2,hz2⟩:=mk_ W1 #[.int .i64 0,.int .i64 0,.int .i64 0,.int .u8 0,.bool false] 242;obtain⟨hx,-,-⟩:=ofPair_at hl hl.ne;obtain⟨lg,loff,hLA⟩: ∃g off,LA=some ⟨g,off,none⟩:=by
  obtain⟨g,off,hA,-,-⟩:=SliceIs.cells hL hl.ne;exact⟨g,off,hA⟩
 subst hLA;have HLc:=h_ (fun W (E:Ext w W) k (hk:k<l.length)=>links_cell (hL.ext E) hk rfl);have HOf:=h_ (fun k (hk:k<l.length)=>ofPair_at hl hk);obtain⟨s0,s1,s2,s3,s4⟩:=HLc.out W2 (E1.trans E2) 0 hl.ne;simp only[Nat.zero_mul,Nat.add_zero] at s0 s1 s2 s3 s4;obtain⟨⟨xa,xb,xk,xo,xs⟩,hx0⟩:=nm (lnkAt l 0);rw[hx0] at s0 s1 s2 s3 s4 hx HOf;simp only at s0 s1 s2 s3 s4 HOf;obtain⟨W3,hW3,E3,B3,hz3⟩:=mk_ W2 #[.int .i64 xa,.int .i64 xb,.int .i64 xk,.int .i64 xo,.int .u8 xs] 135;have xab:xa<xb:=hx.ab;have xbn:xb<bs.length:=hx.b;have xkn:=hx.k;simp only at xkn;obtain⟨T,hT⟩:=nm w.heap.size;rw[hT] at B1;rw[hz1,hT] at B2;rw[hz2,hz1,hT] at B3;have HT:=h_ hT;have HZ1:=h_ (show W1.heap.size=T+1 by omega);have HZ2:=h_ (show W2.heap.size=T+1+1 by omega);have HZ3:=h_ (show W3.heap.size=T+1+1+1 by omega);clear hz1 hz2 hz3;have E13:=(E1.trans E2).trans E3;have B1':=(B1.ext E2).ext E3;have B2':=B2.ext E3;have hne:=hl.ne;have PLc:=h_ (fun(W:World) (E:Ext w W) (i tn:Nat) (k:Knd) (p:KAt) (x y z c:Int) (hi:qs[i]? = some (k,p)) (hkf:k.Fine) (hkn:k.knobs.length≤48) (ht:tn<24) (hp:Pt.in_ 1000 ⟨x,y,z⟩) =>
  rKnobbedO_c qs QA qc i k.cells k.knobs k.weight p.A p.ca p.B p.cb hi tn x y z c W (hk.ext E) (Nat.le_trans hkn (by omega)) hkf.kok ht (hp.ok (by omega)))
 obtain⟨nq,hnq⟩:=nm qs.length;obtain⟨nb,hnb⟩:=nm bs.length;obtain⟨ln,hln⟩:=nm l.length;rw[hnq] at PLc ⊢;rw[hnb] at hbn xbn B1 B1' hW1 ⊢;rw[hln] at hne hlen HLc HOf ⊢;have Hnb:=h_ hnb;have Hln:=h_ hln;have HB:=h_ hb;obtain⟨ks,hks⟩:=nm (qs.map (·.1));have Hks:=h_ hks;rw[hks] at hft HOf xkn hx ⊢;have HF:=h_ hft;have HX:=h_ hx;have HX0:=h_ hx0;have hlt1:xa<nb:=by omega
 obtain⟨g1,off1,⟨kd1,⟨x1,y1,z1⟩,t1,c1⟩,hgo1,hq,-,hg,-,-,-,-,-,-⟩:=HB.out.at_ (k:=xa) (by rw[Hnb.out];exact hlt1);obtain⟨i1,tn1,kk1,p1,e1,e2,htn,hqi,hkf,hpt,-⟩:=hf.b _ (List.mem_of_getElem? hq);simp only at e1 e2 hpt;subst e1 e2;have hbc:bknobs ks (brkAt bs xa)=placeK kk1.knobs tn1 ⟨x1,y1,z1⟩:=by rw[brkAt_eq hq,←Hks.out];exact bknobs_is rfl rfl hqi
 have hkl:=HF.out.klen (j:=xa) (by rw[Hnb.out];exact hlt1);rw[hbc,placeK_len] at hkl;have P1:=h_ (fun W E=>PLc.out W E i1 tn1 kk1 p1 x1 y1 z1 c1 hqi hkf hkl htn hpt);obtain⟨L1,hLk⟩:=nm (placeK kk1.knobs tn1 ⟨x1,y1,z1⟩);obtain⟨n1,hn⟩:=nm kk1.knobs.length;have Hl1:=h_ (show L1.length=n1 by rw[←hLk,placeK_len,hn]);rw[hLk] at P1 hbc;rw[hn] at P1 hkl;have Hbc1:=h_ hbc;have Hn1:=h_ hkl;have hr1:(bs.map Brk.cs)[xa]? = some [.int .i64 i1,.int .i64 x1,.int .i64 y1,.int .i64 z1,.int .u8 tn1,.int .u8 c1]:=by rw[List.getElem?_map,hq];rfl
 clear hq hqi hkf hpt htn hLk hn hbc hkl;have hlt2:xb<nb:=by omega
 obtain⟨g2,off2,⟨kd2,⟨x2,y2,z2⟩,t2,c2⟩,hgo2,hq,-,hg,-,-,-,-,-,-⟩:=HB.out.at_ (k:=xb) (by rw[Hnb.out];exact hlt2);obtain⟨i2,tn2,kk2,p2,e1,e2,htn,hqi,hkf,hpt,-⟩:=hf.b _ (List.mem_of_getElem? hq);simp only at e1 e2 hpt;subst e1 e2;have hbc:bknobs ks (brkAt bs xb)=placeK kk2.knobs tn2 ⟨x2,y2,z2⟩:=by rw[brkAt_eq hq,←Hks.out];exact bknobs_is rfl rfl hqi
 have hkl:=HF.out.klen (j:=xb) (by rw[Hnb.out];exact hlt2);rw[hbc,placeK_len] at hkl;have P2:=h_ (fun W E=>PLc.out W E i2 tn2 kk2 p2 x2 y2 z2 c2 hqi hkf hkl htn hpt);obtain⟨L2,hLk⟩:=nm (placeK kk2.knobs tn2 ⟨x2,y2,z2⟩);obtain⟨n2,hn⟩:=nm kk2.knobs.length;have Hl2:=h_ (show L2.length=n2 by rw[←hLk,placeK_len,hn]);rw[hLk] at P2 hbc;rw[hn] at P2 hkl;have Hbc2:=h_ hbc;have Hn2:=h_ hkl;have hr2:(bs.map Brk.cs)[xb]? = some [.int .i64 i2,.int .i64 x2,.int .i64 y2,.int .i64 z2,.int .u8 tn2,.int .u8 c2]:=by rw[List.getElem?_map,hq];rfl
 clear hq hqi hkf hpt htn hLk hn hbc hkl;subst hgo1;cases hgo2;have hcS:=SliceIs.cells HB.out.1 (by rw[Hnb.out];omega);obtain⟨g',off',hgo,-,hcell⟩:=hcS;cases hgo;have Hc1:=h_ (fun W (E:Ext w W) k u (h:([.int .i64 i1,.int .i64 x1,.int .i64 y1,.int .i64 z1,.int .u8 tn1,.int .u8 c1]:List Value)[k]? = some u)=>E.cell (hcell _ _ hr1 k u h));have Hc2:=h_ (fun W (E:Ext w W) k u (h:([.int .i64 i2,.int .i64 x2,.int .i64 y2,.int .i64 z2,.int .u8 tn2,.int .u8 c2]:List Value)[k]? = some u)=>E.cell (hcell _ _ hr2 k u h));have hxk1:xk<n1:=by rw[Hbc1.out,Hl1.out] at xkn;exact xkn
 -- the first knob
 have hM:=HF.out.meets (j:=xa) (q:=xk) (by rw[Hnb.out];omega) xkn;obtain⟨kf,hkf⟩:=nm (knbAt (bknobs ks (brkAt bs xa)) xk);have Hkf:=h_ hkf;rw[hkf] at hM;have hkf1:knbAt L1 xk=kf:=by rw[←Hbc1.out];exact hkf
 obtain⟨fx,fy,fz,fd,fs,rfl,hM⟩:=hM.nat;have fd6:fd<6:=by have:=hM.d5;simp only at this;omega
 have Hk1:=h_ hkf1;have xa0:(0:Int)≤xa:=by omega
 have xa1:(xa:Int)<nb:=by omega
 have xb0:(0:Int)≤xb:=by omega
 have xb1':(xb:Int)<nb:=by omega
 have xk0:(0:Int)≤xk:=by omega
 have xk1':(xk:Int)<n1:=by omega
 have hn0:(0:Int)<ln:=by omega
 have HE1:=h_ E13;clear hk hb hcm hL hl hf hft hnq hnb hln hks hx hx0 hT hcell hr1 hr2 hkf hkf1 hM xkn;go_enter Tryz.func191,Tryz.ntmps191
 go_upto_region 2 with(fail)
 rw[HT.out,HZ1.out,HZ2.out];clear hW1 hW2 hW3 s0 s1 s2 s3 s4;refine wp_region_by (Jd2 W3 (.slice QA nq qc) (.agg #[.int .i64 i1,.int .i64 x1,.int .i64 y1,.int .i64 z1,.int .u8 tn1,.int .u8 c1]) T (T+1+1) (some ⟨g1,off1,none⟩) nb cb ⟨g1,off1+xa*6,none⟩ xa xk n1 L1 fx fy fz fd fs) (by kernel_rfl) (by kernel_rfl) (by kernel_rfl) (fun us=>⟨(Ext.refl _).drew,(nofun),(nofun),(nofun),(nofun),(nofun),(nofun),(nofun),(nofun),(nofun),(nofun),(nofun),(nofun),(nofun),(nofun),(nofun),(nofun)⟩) ⟨?_,?_,?_,?_,?_,?_,?_,?_,?_,?_,?_,?_,?_,?_,trivial⟩ ?_
 any_goals (intro L us wx K a ha hp hd hun hI hK;replace hp:=h_ hp;replace hd:=h_ hd;simp only[putAll,Act.put,zs,Nat.reduceAdd] at ha;subst ha;simp only[Act.put,zs] at hK)
 ·go_simp;exact hK _ _ {hI with f0:=fun _=>rfl}
 ·go_simp;exact hK _ _ {hI with f1:=fun _=>rfl}
 ·have bb:=(B1'.ext hI.x).cell;rw[hI.f1 (h_p hp 1)] at hK ⊢;go_simp;exact hK _ _ {hI with f2:=fun _=>rfl}
 ·go_simp;exact hK _ _ {hI with f3:=fun _=>rfl}
 ·have bb:=(B3.ext hI.x).cell;rw[hI.f3 (h_p hp 3)] at hK ⊢;go_simp;exact hK _ _ {hI with f4:=fun _=>rfl}
 ·rw[hI.f2 (h_p hp 2),hI.f4 (h_p hp 4)] at hK ⊢;go_simp;exact hK _ _ {hI with f5:=fun _=>rfl}
 ·have EX:=HE1.out.trans hI.x;have d0:=Hc1.out _ EX 0 _ rfl;have d1:=Hc1.out _ EX 1 _ rfl;have d2:=Hc1.out _ EX 2 _ rfl;have d3:=Hc1.out _ EX 3 _ rfl;have d4:=Hc1.out _ EX 4 _ rfl;have d5:=Hc1.out _ EX 5 _ rfl;simp only[Nat.add_zero] at d0;clear EX;rw[hI.f5 (h_p hp 5)] at hK ⊢;go_simp;exact hK _ _ {hI with f6:=fun _=>rfl}
 ·have EX:=h_ (HE1.out.trans hI.x);have h10:L 10=false:=bfl (hd.out 10 7 · (by kernel_rfl)) hun;rw[hI.f0 (h_p hp 0),hI.f6 (h_p hp 6)] at hK ⊢;go_simp;go_at_call 101;refine(P1.out _ EX.out).mono ?_;rintro e wn ⟨vv,rfl,bb,hbb,own1,En⟩;go_simp;refine hK _ _ ?_
  first
  | (refine⟨hI.x.trans En,?_,?_,?_,hI.f0,hI.f1,hI.f2,hI.f3,hI.f4,hI.f5,hI.f6,hI.f8,hI.f9,hI.f10,hI.f11,hI.f12,?_⟩<;>(first|exact hI.g0.ext En|exact fun h=>(hI.g0 h).ext En|exact fun h h2=>(hI.g0 h h2).ext En|exact fun h=>own_ext (hI.g0 h) En|exact hI.g0|exact hI.g1.ext En|exact fun h=>(hI.g1 h).ext En|exact fun h h2=>(hI.g1 h h2).ext En|exact fun h=>own_ext (hI.g1 h) En|exact hI.g1|exact hI.g2.ext En|exact fun h=>(hI.g2 h).ext En|exact fun h h2=>(hI.g2 h h2).ext En|exact fun h=>own_ext (hI.g2 h) En|exact hI.g2|exact fun h=>(hI.f13 h).ext En|exact fun h=>own_ext (hI.f13 h) En|exact fun _=>rfl|skip))
  | (refine⟨hI.x.trans En,?_,?_,?_,?_,?_,?_,?_,?_,?_,?_,?_,?_,?_,?_,?_,?_⟩<;>(first|exact hI.g0.ext En|exact fun h=>(hI.g0 h).ext En|exact fun h h2=>(hI.g0 h h2).ext En|exact fun h=>own_ext (hI.g0 h) En|exact hI.g0|exact hI.g1.ext En|exact fun h=>(hI.g1 h).ext En|exact fun h h2=>(hI.g1 h h2).ext En|exact fun h=>own_ext (hI.g1 h) En|exact hI.g1|exact hI.g2.ext En|exact fun h=>(hI.g2 h).ext En|exact fun h h2=>(hI.g2 h h2).ext En|exact fun h=>own_ext (hI.g2 h) En|exact hI.g2|exact hI.f0|exact hI.f1|exact hI.f2|exact hI.f3|exact hI.f4|exact hI.f5|exact hI.f6|exact hI.f8|exact hI.f9|exact hI.f10|exact hI.f11|exact hI.f12|exact fun h=>(hI.f13 h).ext En|exact fun _=>rfl|skip))
  all_goals exact(by first|exact fun _ _=>KnbW.of own1 (by omega)|exact fun h=>absurd (show L 10=true from h) (by rw[h10];decide))
 ·go_simp;exact hK _ _ {hI with f8:=fun _=>rfl}
 ·have bb:=(B3.ext hI.x).cell;rw[hI.f8 (h_p hp 8)] at hK ⊢;go_simp;exact hK _ _ {hI with f9:=fun _=>rfl}
 ·have h13:L 13=false:=bfl (hd.out 13 10 · (by kernel_rfl)) hun;have u7:=hI.g2 (h_p hp 7) h13;obtain⟨g7,hg7⟩:=nm (bk (us 7));obtain⟨cp7,e7,-⟩:=u7.open_ Hl1.out hg7 hxk1;replace hg7:=h_ hg7;clear u7;rw[e7,hI.f9 (h_p hp 9)] at hK ⊢;go_simp;refine hK _ _ ?_;refine⟨hI.x,hI.g0,hI.g1,hI.g2,hI.f0,hI.f1,hI.f2,hI.f3,hI.f4,hI.f5,hI.f6,hI.f8,hI.f9,(fun _=>by rw[←hg7.out];rfl),hI.f11,hI.f12,hI.f13⟩
 ·have u10:=hI.f10 (h_p hp 10);have h13:L 13=false:=bfl (hd.out 13 11 · (by kernel_rfl)) hun;have u7:=hI.g2 (hd.out 10 7 (h_p hp 10) (by kernel_rfl)) h13;obtain⟨g7,hg7⟩:=nm (bk (us 7));obtain⟨cp7,e7,k0,k1,k2,k3,k4⟩:=u7.open_ Hl1.out hg7 hxk1;rw[hg7] at u10;rw[Hk1.out] at k0 k1 k2 k3 k4;simp only at k0 k1 k2 k3 k4;clear u7 e7 hg7;rw[u10] at hK ⊢;go_simp;refine hK _ _ ?_;refine⟨hI.x,hI.g0,hI.g1,hI.g2,hI.f0,hI.f1,hI.f2,hI.f3,hI.f4,hI.f5,hI.f6,hI.f8,hI.f9,hI.f10,(fun _=>rfl),hI.f12,hI.f13⟩
 ·have h13:L 13=false:=bfl (hd.out 13 12 · (by kernel_rfl)) hun;have En:=(Ext.refl wx).alloc (.cells #[.int .i64 0,.int .i64 0,.int .i64 0,.int .u8 0,.int .u8 0] 137);go_simp;refine hK _ _ ?_;refine⟨hI.x.trans En,(fun _=>hI.x.size),(fun _ _=>Blk.new _ _ _),(fun h h2=>(hI.g2 h h2).ext En),hI.f0,hI.f1,hI.f2,hI.f3,hI.f4,hI.f5,hI.f6,hI.f8,hI.f9,hI.f10,hI.f11,(fun _=>rfl),(fun h=>absurd (show L 13=true from h) (by rw[h13];decide))⟩
 ·have h12:=h_p hp 12;have u12:=hI.f12 h12;have hb:=hI.g1 h12 hun;have hg:=hI.g0 h12;obtain⟨gs,hgs⟩:=nm (bk (us 12));rw[hgs] at u12 hb hg;have cb:=hb.cell;have fb:=hb.frozen;obtain⟨V,hV,BV,EV,KV⟩:=five_put hb hI.x hg (.int .i64 fx) (.int .i64 fy) (.int .i64 fz) (.int .u8 fd) (.int .u8 fs);have BV':Blk V (bk (us 12)) 137 #[.int .i64 fx,.int .i64 fy,.int .i64 fz,.int .u8 fd,.int .u8 fs]:=by rw[hgs];exact BV
  replace hgs:=h_ hgs;rw[hI.f11 (h_p hp 11),u12] at hK ⊢;go_simp;refine hK undef _ ?_;refine⟨EV,hI.g0,(fun _ h=>nomatch (show true=false from h)),(fun _ h=>nomatch (show true=false from h)),hI.f0,hI.f1,hI.f2,hI.f3,hI.f4,hI.f5,hI.f6,hI.f8,hI.f9,hI.f10,hI.f11,hI.f12,(fun _=>BV')⟩
 intro L us wx hall hI;have e12:=hI.f12 (hall 12 (by simp));have BK:=hI.f13 (hall 13 (by simp));have hX8:=hI.g0 (hall 12 (by simp));have EX:=hI.x;obtain⟨X8,hX8e⟩:=nm (bk (us 12));rw[hX8e] at e12 BK hX8;simp only[putAll,Act.put,zs,Nat.reduceAdd,e12];clear hall hI e12 hX8e;obtain⟨fq,hfq⟩:=nm ((fd:Int).tdiv 2);have efq:=Int.tdiv_eq_ediv_of_nonneg (a:=(fd:Int)) (b:=2) (by omega);rw[hfq] at efq;have fq0:0≤fq:=by omega
 have fq2:fq≤2:=by omega
 have hM0:=midJ_zero (ks:=ks) (bs:=bs) ⟨xa,xb,xk,xo,xs⟩ l;have hfk:knobAt ks bs xa xk=⟨⟨fx,fy,fz⟩,fd,fs⟩:=by unfold knobAt;exact Hkf.out
 simp only[hfk] at hM0;rw[←efq] at hM0;have Hfk:=h_ hfk;have hax:=fun k=>midJ_axis (ks:=ks) (bs:=bs) ⟨xa,xb,xk,xo,xs⟩ l k;simp only[hfk] at hax;rw[←efq] at hax;have Hax:=h_ hax;obtain⟨W4,hW4,E4,B4,hz4⟩:=mk_ wx #[.int .i64 xa,.int .i64 xb,.int .i64 0,.int .u8 (fq+1),.bool true] 242;obtain⟨J,hJ⟩:=nm wx.heap.size;rw[hJ] at B4;have HJ:=h_ hJ;have b3:=(B3.ext EX).cell;have bk8:=BK.cell;clear hz4 hJ hfk hax efq;go_wp2_with fail;rw[HJ.out];have B4':Blk W4 J 242 #[.int .i64 (midJ ks bs ⟨xa,xb,xk,xo,xs⟩ l 0).a,.int .i64 (midJ ks bs ⟨xa,xb,xk,xo,xs⟩ l 0).b,.int .i64 (midJ ks bs ⟨xa,xb,xk,xo,xs⟩ l 0).strength,.int .u8 (midJ ks bs ⟨xa,xb,xk,xo,xs⟩ l 0).axis,.bool (midJ ks bs ⟨xa,xb,xk,xo,xs⟩ l 0).slides]:=by rw[hM0];exact B4
 have EXE:=HE1.out.trans EX;have hJW:wx.heap.size≤J:=Nat.le_of_eq HJ.out;have HJW:=h_ hJW;clear b3 bk8 B4 hW4 hM0 hJW;go_loopw [10] (fun ii wr=> ∃(k:Nat),k≤ln∧ii = .int .i64 k∧Ext wx wr∧Blk wr J 242 #[.int .i64 (midJ ks bs ⟨xa,xb,xk,xo,xs⟩ l k).a,.int .i64 (midJ ks bs ⟨xa,xb,xk,xo,xs⟩ l k).b,.int .i64 (midJ ks bs ⟨xa,xb,xk,xo,xs⟩ l k).strength,.int .u8 (midJ ks bs ⟨xa,xb,xk,xo,xs⟩ l k).axis,.bool (midJ ks bs ⟨xa,xb,xk,xo,xs⟩ l k).slides]) (fun ii _=>ln-(intOf ii).toNat)
 case atStart=>exact⟨0,by omega,rfl,E4,B4'⟩
 case round =>
  clear B4' E4;obtain⟨k,hk,rfl,Er,BJ⟩:=hrel;obtain⟨⟨ma,mb,st,ax,sl⟩,hmk⟩:=nm (midJ ks bs ⟨xa,xb,xk,xo,xs⟩ l k);have hma:ma=xa:=by have:=congrArg Jnt.a hmk;exact this.symm
  have hmb:mb=xb:=by have:=congrArg Jnt.b hmk;exact this.symm
  subst hma hmb;have hst:=midJ_strength (ks:=ks) (bs:=bs) ⟨ma,mb,xk,xo,xs⟩ l k;have hax:=Hax.out k;rw[hmk] at BJ hst hax;simp only at BJ hst hax;have Hmk:=h_ hmk;clear hmk;by_cases hkt:k<ln
  ·obtain⟨lk0,lk1,lk2,lk3,lk4⟩:=HLc.out wr (EXE.trans Er) k hkt;obtain⟨hy,hya,hyb⟩:=HOf.out k hkt;have Hy2:=h_ (midJ_succ (ks:=ks) (bs:=bs) (x:=⟨ma,mb,xk,xo,xs⟩) (lnkAt_get (l:=l) (k:=k) (by rw[Hln.out];exact hkt)));have hs3:=hy.sort3 HF.out;have hlo:=lineOk_iff HF.out HX.out hy hya hyb;obtain⟨⟨ya,yb,yk,yo,ys⟩,hye⟩:=nm (lnkAt l k);rw[hye] at lk0 lk1 lk2 lk3 lk4 hy hya hyb Hy2 hs3 hlo;simp only at lk0 lk1 lk2 lk3 lk4 hya hyb hs3;subst hya hyb;have hyk:=hy.k;have hyo:=hy.o;simp only at hyk hyo;have hka:=HF.out.meets (j:=ya) (q:=yk) (by rw[Hnb.out];omega) hyk;have hkb:=HF.out.meets (j:=yb) (q:=yo) (by rw[Hnb.out];omega) hyo;rw[Hbc1.out,Hl1.out] at hyk;rw[Hbc2.out,Hl2.out] at hyo;have hKa:knobAt ks bs ya yk=knbAt L1 yk:=by unfold knobAt;rw[Hbc1.out]
   have hKb:knobAt ks bs yb yo=knbAt L2 yo:=by unfold knobAt;rw[Hbc2.out]
   rw[Hbc1.out] at hka;rw[Hbc2.out] at hkb;obtain⟨ka,hkae⟩:=nm (knbAt L1 yk);obtain⟨kb,hkbe⟩:=nm (knbAt L2 yo);rw[hkae] at hka hKa;rw[hkbe] at hkb hKb;obtain⟨ax',ay',az',ad',as',rfl,hka⟩:=hka.nat;obtain⟨bx',by',bz',bd',bs',rfl,hkb⟩:=hkb.nat;have had6:ad'<6:=by have:=hka.d5;simp only at this;omega
   have hbd6:bd'<6:=by have:=hkb.d5;simp only at this;omega
   have Hka:=h_ hkae;have Hkb:=h_ hkbe;unfold lineOk at hlo;simp only[Hfk.out,hKa,hKb] at hlo;obtain⟨t,ht⟩:=nm (lineB ⟨⟨fx,fy,fz⟩,fd,fs⟩ ⟨⟨ax',ay',az'⟩,ad',as'⟩);have hok:lineOk ks bs ⟨ya,yb,xk,xo,xs⟩ ⟨ya,yb,yk,yo,ys⟩=t:=by
    unfold lineOk;simp only[Hfk.out,hKa,hKb];rw[hlo,ht]
   have LN1:=h_ (fun W=>rLine_c fx fy fz fd fs ax' ay' az' ad' as' W fd6 had6);have LN2:=h_ (fun W=>rLine_c fx fy fz fd fs bx' by' bz' bd' bs' W fd6 hbd6);rw[ht] at LN1 hlo;have Hlo2:=h_ (fun(h:t=true)=>show lineB ⟨⟨fx,fy,fz⟩,fd,fs⟩ ⟨⟨bx',by',bz'⟩,bd',bs'⟩=true by
    subst h
    simpa using hlo)
   have Hye:=h_ hye;rw[hok,Hmk.out] at Hy2;simp only at Hy2;have SG:=h_ (fun W=>rStrong_c ys hs3 W);have hstr:0≤strongS ys∧strongS ys≤5:=by
    unfold strongS
    repeat' split
    all_goals omega
   obtain⟨sg,hsg⟩:=nm (strongS ys);rw[hsg] at SG Hy2 hstr;have k0':(0:Int)≤k:=by omega
   have k1':(k:Int)<ln:=by omega
   have bj:=BJ.cell;have fj:=BJ.frozen;have yk0:(0:Int)≤yk:=by omega
   have yk1:(yk:Int)<n1:=by omega
   have yo0:(0:Int)≤yo:=by omega
   have yo1:(yo:Int)<n2:=by omega
   clear hy hs3 hlo hye hka hkb hKa hKb hkae hkbe ht hok hsg
   go_upto_region 7 with(fail)
   refine wp_region_tail 10 (by kernel_rfl) (by kernel_rfl) ?_;simp only[List.take_succ_cons,List.take_zero,List.drop_succ_cons,List.drop_zero]
   repeat (go_big_quiet_step ((go_at_call 205;exact quiet_ext (SG.out _))))
   refine wpQuiet_nil ?_;intro W7 hW7;have E7:Ext wr W7:=by
    obtain⟨x,rfl⟩:=hW7;exact(Ext.refl _).grow x
   clear hW7;obtain⟨hcW7,hfW7,hzW7⟩:=ext_facts E7;clear hcW7 hfW7 hzW7 bj fj;have BJ7:=BJ.ext E7;have bj:=BJ7.cell;have fj:=BJ7.frozen;obtain⟨V1,hV1⟩:=nm (W7.setCell ⟨J,2,none⟩ (.int .i64 (st+sg)));have BV1:Blk V1 J 242 #[.int .i64 ya,.int .i64 yb,.int .i64 (st+sg),.int .u8 ax,.bool sl]:=by rw[←hV1];exact BJ7.set_ 2 _
   have EV1:Ext wx V1:=by rw[←hV1];exact(Er.trans E7).setCell HJW.out _
   have bv1:=BV1.cell;have fv1:=BV1.frozen;have gs4:=(HLc.out V1 (EXE.trans EV1) k hkt).2.2.2.2;rw[Hye.out] at gs4;simp only at gs4;cases sl
   case' false =>
    simp only[Bool.false_and] at Hy2;obtain⟨V2,hV2⟩:=nm (V1.setCell ⟨J,4,none⟩ (.bool false));have BV2:Blk V2 J 242 #[.int .i64 ya,.int .i64 yb,.int .i64 (st+sg),.int .u8 ax,.bool false]:=by rw[←hV2];exact BV1.set_ 4 _
    have EV2:Ext wx V2:=by rw[←hV2];exact EV1.setCell HJW.out _
   case' true =>
    obtain⟨e,he⟩:=nm ((ys==3));rw[Bool.true_and,show decide (ys=3)=e from he] at Hy2;obtain⟨V2,hV2⟩:=nm (V1.setCell ⟨J,4,none⟩ (.bool e));have BV2:Blk V2 J 242 #[.int .i64 ya,.int .i64 yb,.int .i64 (st+sg),.int .u8 ax,.bool e]:=by rw[←hV2];exact BV1.set_ 4 _
    have EV2:Ext wx V2:=by rw[←hV2];exact EV1.setCell HJW.out _
   all_goals
    have HBm:=h_ ((B1'.ext EX).ext EV2);have HBl:=h_ ((B3.ext EX).ext EV2);have BKr:=BK.ext EV2;have HEx:=h_ (EXE.trans EV2);have Hcy:=h_ (show V2.cell? ⟨lg,loff+k*5+2,none⟩=some (.int .i64 yk)∧V2.cell? ⟨lg,loff+k*5+3,none⟩=some (.int .i64 yo) by
     have h:=HLc.out V2 HEx.out k hkt;rw[Hye.out] at h
     exact⟨h.2.2.1,h.2.2.2.1⟩)
    go_upto_region 9 with(fail)
    clear bv1 fv1 hV1 hV2 E7;cases t
    ·skip;refine wp_region_byF (Jd9b V2 (.slice QA nq qc) (.agg #[.int .i64 i1,.int .i64 x1,.int .i64 y1,.int .i64 z1,.int .u8 tn1,.int .u8 c1]) (.agg #[.int .i64 i2,.int .i64 x2,.int .i64 y2,.int .i64 z2,.int .u8 tn2,.int .u8 c2]) T (T+1+1) lg loff ln lc (some ⟨g1,off1,none⟩) nb cb ⟨g1,off1+ya*6,none⟩ ⟨g1,off1+yb*6,none⟩ ya yb k yk yo n1 n2 L1 L2 fx fy fz fd fs ax' ay' az' ad' as' bx' by' bz' bd' bs') (by intro us;simp only[putAll,Act.put,zs,Nat.reduceAdd];rfl) (by kernel_rfl) (by kernel_rfl) (by kernel_rfl) (⟨(Ext.refl _).drew,(nofun),(nofun),(nofun),(nofun),(nofun),(nofun),(nofun),(nofun),(nofun),(nofun),(nofun),(nofun),(nofun),(nofun),(nofun),(nofun),(nofun),(nofun),(nofun),(nofun)⟩) ⟨?_,?_,?_,?_,?_,?_,?_,?_,?_,?_,?_,?_,?_,?_,?_,?_,?_,?_,?_,?_,?_,?_,?_,?_,?_,?_,?_,?_,?_,?_,?_,?_,?_,?_,?_,?_,?_,?_,trivial⟩ ?_
     any_goals (intro L us wx K a ha hp hd hun hI hK;replace hp:=h_ hp;replace hd:=h_ hd;dsimp only at ha;subst ha;simp only[Act.put,zs] at hK)
     ·have bb:=(BKr.ext hI.x).cell;go_simp;exact hK _ _ {hI with f0:=fun _=>rfl}
     ·go_simp;exact hK _ _ {hI with f1:=fun _=>rfl}
     ·go_simp;exact hK _ _ {hI with f2:=fun _=>rfl}
     ·have bb:=(HBm.out.ext hI.x).cell;rw[hI.f2 (h_p hp 2)] at hK ⊢;go_simp;exact hK _ _ {hI with f3:=fun _=>rfl}
     ·go_simp;exact hK _ _ {hI with f4:=fun _=>rfl}
     ·have bb:=(HBl.out.ext hI.x).cell;rw[hI.f4 (h_p hp 4)] at hK ⊢;go_simp;exact hK _ _ {hI with f5:=fun _=>rfl}
     ·rw[hI.f3 (h_p hp 3),hI.f5 (h_p hp 5)] at hK ⊢;go_simp;exact hK _ _ {hI with f6:=fun _=>rfl}
     ·have EX:=HEx.out.trans hI.x;have d0:=Hc1.out _ EX 0 _ rfl;have d1:=Hc1.out _ EX 1 _ rfl;have d2:=Hc1.out _ EX 2 _ rfl;have d3:=Hc1.out _ EX 3 _ rfl;have d4:=Hc1.out _ EX 4 _ rfl;have d5:=Hc1.out _ EX 5 _ rfl;simp only[Nat.add_zero] at d0;clear EX;rw[hI.f6 (h_p hp 6)] at hK ⊢;go_simp;exact hK _ _ {hI with f7:=fun _=>rfl}
     ·have EX:=h_ (HEx.out.trans hI.x);have h14:L 14=false:=bfl (hd.out 14 8 · (by kernel_rfl)) hun;rw[hI.f1 (h_p hp 1),hI.f7 (h_p hp 7)] at hK ⊢;go_simp;go_at_call 101;refine(P1.out _ EX.out).mono ?_;rintro e wn ⟨vv,rfl,bb,hbb,own1,En⟩;go_simp;refine hK _ _ ?_
      first
      | (refine⟨hI.x.trans En,hI.f0,hI.f1,hI.f2,hI.f3,hI.f4,hI.f5,hI.f6,hI.f7,?_,hI.f9,hI.f10,hI.f11,hI.f12,hI.f13,hI.f14,hI.f15,hI.f16,hI.f17,hI.f18,hI.f37⟩<;>(first|exact fun h=>(hI.f8 h).ext En|exact fun h=>own_ext (hI.f8 h) En|exact fun _=>rfl|skip))
      | (refine⟨hI.x.trans En,?_,?_,?_,?_,?_,?_,?_,?_,?_,?_,?_,?_,?_,?_,?_,?_,?_,?_,?_,?_⟩<;>(first|exact hI.f0|exact hI.f1|exact hI.f2|exact hI.f3|exact hI.f4|exact hI.f5|exact hI.f6|exact hI.f7|exact fun h=>(hI.f8 h).ext En|exact hI.f9|exact hI.f10|exact hI.f11|exact hI.f12|exact hI.f13|exact hI.f14|exact hI.f15|exact hI.f16|exact hI.f17|exact hI.f18|exact hI.f37|exact fun _=>rfl|skip))
      all_goals exact(by first|exact fun _=>KnbW.of own1 (by omega)|exact fun h=>absurd (show L 14=true from h) (by rw[h14];decide))
     ·go_simp;exact hK _ _ {hI with f9:=fun _=>rfl}
     ·go_simp;exact hK _ _ {hI with f10:=fun _=>rfl}
     ·rw[hI.f9 (h_p hp 9),hI.f10 (h_p hp 10)] at hK ⊢;go_simp;exact hK _ _ {hI with f11:=fun _=>rfl}
     ·rw[hI.f11 (h_p hp 11)] at hK ⊢;go_simp;exact hK _ _ {hI with f12:=fun _=>rfl}
     ·have cc:=hI.x.cell Hcy.out.1;rw[hI.f12 (h_p hp 12)] at hK ⊢;go_simp;exact hK _ _ {hI with f13:=fun _=>rfl}
     ·have u7:=hI.f8 (h_p hp 8);skip;obtain⟨g7,hg7⟩:=nm (bk (us 8));obtain⟨cp7,e7,-⟩:=u7.open_ Hl1.out hg7 hyk;replace hg7:=h_ hg7;clear u7;rw[e7,hI.f13 (h_p hp 13)] at hK ⊢;go_simp;refine hK _ _ ?_;refine⟨hI.x,hI.f0,hI.f1,hI.f2,hI.f3,hI.f4,hI.f5,hI.f6,hI.f7,hI.f8,hI.f9,hI.f10,hI.f11,hI.f12,hI.f13,?_,hI.f15,hI.f16,hI.f17,hI.f18,hI.f37⟩;exact(fun _=>by rw[←hg7.out];rfl)
     ·have u10:=hI.f14 (h_p hp 14);have u7:=hI.f8 (hd.out 14 8 (h_p hp 14) (by kernel_rfl));skip;obtain⟨g7,hg7⟩:=nm (bk (us 8));obtain⟨cp7,e7,k0,k1,k2,k3,k4⟩:=u7.open_ Hl1.out hg7 hyk;rw[hg7] at u10;rw[Hka.out] at k0 k1 k2 k3 k4;simp only at k0 k1 k2 k3 k4;clear u7 e7 hg7;rw[u10] at hK ⊢;go_simp;refine hK _ _ ?_;refine⟨hI.x,hI.f0,hI.f1,hI.f2,hI.f3,hI.f4,hI.f5,hI.f6,hI.f7,hI.f8,hI.f9,hI.f10,hI.f11,hI.f12,hI.f13,hI.f14,?_,hI.f16,hI.f17,hI.f18,hI.f37⟩;exact(fun _=>rfl)
     ·rw[hI.f0 (h_p hp 0),hI.f15 (h_p hp 15)] at hK ⊢;go_simp;go_at_call 206;refine(LN1.out _).mono ?_;rintro e wn ⟨rfl,En⟩;go_simp;refine hK _ _ ?_;refine {hI with x:=hI.x.trans En,f8:= ?_,f16:= ?_}<;>(first|exact fun h=>(hI.f8 h).ext En|exact fun h=>own_ext (hI.f8 h) En|exact fun _=>rfl|skip)
     ·rw[hI.f16 (h_p hp 16)] at hK ⊢;go_simp;exact hK _ _ {hI with f17:=fun _=>rfl}
     ·rw[hI.f17 (h_p hp 17)] at hK ⊢;go_simp;exact hK _ _ {hI with f18:=fun _=>rfl}
     ·rw[hI.f18 (h_p hp 18)] at hK ⊢;go_simp;exact hK _ _ {hI with x:=hI.x}
     ·rw[hI.f18 (h_p hp 18)] at hK ⊢;go_simp;exact hK _ _ {hI with x:=hI.x}
     ·rw[hI.f18 (h_p hp 18)] at hK ⊢;go_simp;exact hK _ _ {hI with x:=hI.x}
     ·rw[hI.f18 (h_p hp 18)] at hK ⊢;go_simp;exact hK _ _ {hI with x:=hI.x}
     ·rw[hI.f18 (h_p hp 18)] at hK ⊢;go_simp;exact hK _ _ {hI with x:=hI.x}
     ·rw[hI.f18 (h_p hp 18)] at hK ⊢;go_simp;exact hK _ _ {hI with x:=hI.x}
     ·rw[hI.f18 (h_p hp 18)] at hK ⊢;go_simp;exact hK _ _ {hI with x:=hI.x}
     ·rw[hI.f18 (h_p hp 18)] at hK ⊢;go_simp;exact hK _ _ {hI with x:=hI.x}
     ·rw[hI.f18 (h_p hp 18)] at hK ⊢;go_simp;exact hK _ _ {hI with x:=hI.x}
     ·rw[hI.f18 (h_p hp 18)] at hK ⊢;go_simp;exact hK _ _ {hI with x:=hI.x}
     ·rw[hI.f18 (h_p hp 18)] at hK ⊢;go_simp;exact hK _ _ {hI with x:=hI.x}
     ·rw[hI.f18 (h_p hp 18)] at hK ⊢;go_simp;exact hK _ _ {hI with x:=hI.x}
     ·rw[hI.f18 (h_p hp 18)] at hK ⊢;go_simp;exact hK _ _ {hI with x:=hI.x}
     ·rw[hI.f18 (h_p hp 18)] at hK ⊢;go_simp;exact hK _ _ {hI with x:=hI.x}
     ·rw[hI.f18 (h_p hp 18)] at hK ⊢;go_simp;exact hK _ _ {hI with x:=hI.x}
     ·rw[hI.f18 (h_p hp 18)] at hK ⊢;go_simp;exact hK _ _ {hI with x:=hI.x}
     ·rw[hI.f18 (h_p hp 18)] at hK ⊢;go_simp;exact hK _ _ {hI with x:=hI.x}
     ·rw[hI.f18 (h_p hp 18)] at hK ⊢;go_simp;exact hK _ _ {hI with x:=hI.x}
     ·rw[hI.f18 (h_p hp 18)] at hK ⊢;go_simp;exact hK _ _ {hI with f37:=fun _=>rfl}
     intro L us wx2 hall hI;have e37:=hI.f37 (hall 37 (by simp));have EX2:=hI.x;simp only[e37];clear hall hI e37;have BX2:=BV2.ext EX2;have bx2:=BX2.cell;have fx2:=BX2.frozen;go_wp2_with fail;go_roundw
     case rel=>exact⟨k+1,by omega,by go_num,(EV2.trans EX2).setCell HJW.out _,by rw[Hy2.out];exact BX2.set_ 3 _⟩
     case measure=>simp only[intOf];omega
    ·have LN2':=LN2;rw[Hlo2.out rfl] at LN2';skip;refine wp_region_byF (Jd9a V2 (.slice QA nq qc) (.agg #[.int .i64 i1,.int .i64 x1,.int .i64 y1,.int .i64 z1,.int .u8 tn1,.int .u8 c1]) (.agg #[.int .i64 i2,.int .i64 x2,.int .i64 y2,.int .i64 z2,.int .u8 tn2,.int .u8 c2]) T (T+1+1) lg loff ln lc (some ⟨g1,off1,none⟩) nb cb ⟨g1,off1+ya*6,none⟩ ⟨g1,off1+yb*6,none⟩ ya yb k yk yo n1 n2 L1 L2 fx fy fz fd fs ax' ay' az' ad' as' bx' by' bz' bd' bs') (by intro us;simp only[putAll,Act.put,zs,Nat.reduceAdd];rfl) (by kernel_rfl) (by kernel_rfl) (by kernel_rfl) (⟨(Ext.refl _).drew,(nofun),(nofun),(nofun),(nofun),(nofun),(nofun),(nofun),(nofun),(nofun),(nofun),(nofun),(nofun),(nofun),(nofun),(nofun),(nofun),(nofun),(nofun),(nofun),(nofun),(nofun),(nofun),(nofun),(nofun),(nofun),(nofun),(nofun),(nofun),(nofun),(nofun),(nofun),(nofun),(nofun),(nofun),(nofun),(nofun),(nofun),(nofun)⟩) ⟨?_,?_,?_,?_,?_,?_,?_,?_,?_,?_,?_,?_,?_,?_,?_,?_,?_,?_,?_,?_,?_,?_,?_,?_,?_,?_,?_,?_,?_,?_,?_,?_,?_,?_,?_,?_,?_,?_,trivial⟩ ?_
     any_goals (intro L us wx K a ha hp hd hun hI hK;replace hp:=h_ hp;replace hd:=h_ hd;dsimp only at ha;subst ha;simp only[Act.put,zs] at hK)
     ·have bb:=(BKr.ext hI.x).cell;go_simp;exact hK _ _ {hI with f0:=fun _=>rfl}
     ·go_simp;exact hK _ _ {hI with f1:=fun _=>rfl}
     ·go_simp;exact hK _ _ {hI with f2:=fun _=>rfl}
     ·have bb:=(HBm.out.ext hI.x).cell;rw[hI.f2 (h_p hp 2)] at hK ⊢;go_simp;exact hK _ _ {hI with f3:=fun _=>rfl}
     ·go_simp;exact hK _ _ {hI with f4:=fun _=>rfl}
     ·have bb:=(HBl.out.ext hI.x).cell;rw[hI.f4 (h_p hp 4)] at hK ⊢;go_simp;exact hK _ _ {hI with f5:=fun _=>rfl}
     ·rw[hI.f3 (h_p hp 3),hI.f5 (h_p hp 5)] at hK ⊢;go_simp;exact hK _ _ {hI with f6:=fun _=>rfl}
     ·have EX:=HEx.out.trans hI.x;have d0:=Hc1.out _ EX 0 _ rfl;have d1:=Hc1.out _ EX 1 _ rfl;have d2:=Hc1.out _ EX 2 _ rfl;have d3:=Hc1.out _ EX 3 _ rfl;have d4:=Hc1.out _ EX 4 _ rfl;have d5:=Hc1.out _ EX 5 _ rfl;simp only[Nat.add_zero] at d0;clear EX;rw[hI.f6 (h_p hp 6)] at hK ⊢;go_simp;exact hK _ _ {hI with f7:=fun _=>rfl}
     ·have EX:=h_ (HEx.out.trans hI.x);have h14:L 14=false:=bfl (hd.out 14 8 · (by kernel_rfl)) hun;rw[hI.f1 (h_p hp 1),hI.f7 (h_p hp 7)] at hK ⊢;go_simp;go_at_call 101;refine(P1.out _ EX.out).mono ?_;rintro e wn ⟨vv,rfl,bb,hbb,own1,En⟩;go_simp;refine hK _ _ ?_
      first
      | (refine⟨hI.x.trans En,hI.f0,hI.f1,hI.f2,hI.f3,hI.f4,hI.f5,hI.f6,hI.f7,?_,hI.f9,hI.f10,hI.f11,hI.f12,hI.f13,hI.f14,hI.f15,hI.f16,hI.f17,hI.f18,hI.f19,hI.f20,hI.f21,hI.f22,hI.f23,hI.f24,hI.f25,hI.f26,?_,hI.f28,hI.f29,hI.f30,hI.f31,hI.f32,hI.f33,hI.f34,hI.f35,hI.f36,hI.f37⟩<;>(first|exact fun h=>(hI.f8 h).ext En|exact fun h=>own_ext (hI.f8 h) En|exact fun h=>(hI.f27 h).ext En|exact fun h=>own_ext (hI.f27 h) En|exact fun _=>rfl|skip))
      | (refine⟨hI.x.trans En,?_,?_,?_,?_,?_,?_,?_,?_,?_,?_,?_,?_,?_,?_,?_,?_,?_,?_,?_,?_,?_,?_,?_,?_,?_,?_,?_,?_,?_,?_,?_,?_,?_,?_,?_,?_,?_,?_⟩<;>(first|exact hI.f0|exact hI.f1|exact hI.f2|exact hI.f3|exact hI.f4|exact hI.f5|exact hI.f6|exact hI.f7|exact fun h=>(hI.f8 h).ext En|exact hI.f9|exact hI.f10|exact hI.f11|exact hI.f12|exact hI.f13|exact hI.f14|exact hI.f15|exact hI.f16|exact hI.f17|exact hI.f18|exact hI.f19|exact hI.f20|exact hI.f21|exact hI.f22|exact hI.f23|exact hI.f24|exact hI.f25|exact hI.f26|exact fun h=>(hI.f27 h).ext En|exact hI.f28|exact hI.f29|exact hI.f30|exact hI.f31|exact hI.f32|exact hI.f33|exact hI.f34|exact hI.f35|exact hI.f36|exact hI.f37|exact fun _=>rfl|skip))
      all_goals exact(by first|exact fun _=>KnbW.of own1 (by omega)|exact fun h=>absurd (show L 14=true from h) (by rw[h14];decide))
     ·go_simp;exact hK _ _ {hI with f9:=fun _=>rfl}
     ·go_simp;exact hK _ _ {hI with f10:=fun _=>rfl}
     ·rw[hI.f9 (h_p hp 9),hI.f10 (h_p hp 10)] at hK ⊢;go_simp;exact hK _ _ {hI with f11:=fun _=>rfl}
     ·rw[hI.f11 (h_p hp 11)] at hK ⊢;go_simp;exact hK _ _ {hI with f12:=fun _=>rfl}
     ·have cc:=hI.x.cell Hcy.out.1;rw[hI.f12 (h_p hp 12)] at hK ⊢;go_simp;exact hK _ _ {hI with f13:=fun _=>rfl}
     ·have u7:=hI.f8 (h_p hp 8);skip;obtain⟨g7,hg7⟩:=nm (bk (us 8));obtain⟨cp7,e7,-⟩:=u7.open_ Hl1.out hg7 hyk;replace hg7:=h_ hg7;clear u7;rw[e7,hI.f13 (h_p hp 13)] at hK ⊢;go_simp;refine hK _ _ ?_;refine⟨hI.x,hI.f0,hI.f1,hI.f2,hI.f3,hI.f4,hI.f5,hI.f6,hI.f7,hI.f8,hI.f9,hI.f10,hI.f11,hI.f12,hI.f13,?_,hI.f15,hI.f16,hI.f17,hI.f18,hI.f19,hI.f20,hI.f21,hI.f22,hI.f23,hI.f24,hI.f25,hI.f26,hI.f27,hI.f28,hI.f29,hI.f30,hI.f31,hI.f32,hI.f33,hI.f34,hI.f35,hI.f36,hI.f37⟩;exact(fun _=>by rw[←hg7.out];rfl)
     ·have u10:=hI.f14 (h_p hp 14);have u7:=hI.f8 (hd.out 14 8 (h_p hp 14) (by kernel_rfl));skip;obtain⟨g7,hg7⟩:=nm (bk (us 8));obtain⟨cp7,e7,k0,k1,k2,k3,k4⟩:=u7.open_ Hl1.out hg7 hyk;rw[hg7] at u10;rw[Hka.out] at k0 k1 k2 k3 k4;simp only at k0 k1 k2 k3 k4;clear u7 e7 hg7;rw[u10] at hK ⊢;go_simp;refine hK _ _ ?_;refine⟨hI.x,hI.f0,hI.f1,hI.f2,hI.f3,hI.f4,hI.f5,hI.f6,hI.f7,hI.f8,hI.f9,hI.f10,hI.f11,hI.f12,hI.f13,hI.f14,?_,hI.f16,hI.f17,hI.f18,hI.f19,hI.f20,hI.f21,hI.f22,hI.f23,hI.f24,hI.f25,hI.f26,hI.f27,hI.f28,hI.f29,hI.f30,hI.f31,hI.f32,hI.f33,hI.f34,hI.f35,hI.f36,hI.f37⟩;exact(fun _=>rfl)
     ·rw[hI.f0 (h_p hp 0),hI.f15 (h_p hp 15)] at hK ⊢;go_simp;go_at_call 206;refine(LN1.out _).mono ?_;rintro e wn ⟨rfl,En⟩;go_simp;refine hK _ _ ?_;refine {hI with x:=hI.x.trans En,f8:= ?_,f16:= ?_,f27:= ?_}<;>(first|exact fun h=>(hI.f8 h).ext En|exact fun h=>own_ext (hI.f8 h) En|exact fun h=>(hI.f27 h).ext En|exact fun h=>own_ext (hI.f27 h) En|exact fun _=>rfl|skip)
     ·rw[hI.f16 (h_p hp 16)] at hK ⊢;go_simp;exact hK _ _ {hI with f17:=fun _=>rfl}
     ·rw[hI.f17 (h_p hp 17)] at hK ⊢;go_simp;exact hK _ _ {hI with f18:=fun _=>rfl}
     ·have bb:=(BKr.ext hI.x).cell;rw[hI.f18 (h_p hp 18)] at hK ⊢;go_simp;exact hK _ _ {hI with f19:=fun _=>rfl}
     ·rw[hI.f18 (h_p hp 18)] at hK ⊢;go_simp;exact hK _ _ {hI with f20:=fun _=>rfl}
     ·rw[hI.f18 (h_p hp 18)] at hK ⊢;go_simp;exact hK _ _ {hI with f21:=fun _=>rfl}
     ·have bb:=(HBm.out.ext hI.x).cell;rw[hI.f21 (h_p hp 21),hI.f18 (h_p hp 18)] at hK ⊢;go_simp;exact hK _ _ {hI with f22:=fun _=>rfl}
     ·rw[hI.f18 (h_p hp 18)] at hK ⊢;go_simp;exact hK _ _ {hI with f23:=fun _=>rfl}
     ·have bb:=(HBl.out.ext hI.x).cell;rw[hI.f23 (h_p hp 23),hI.f18 (h_p hp 18)] at hK ⊢;go_simp;exact hK _ _ {hI with f24:=fun _=>rfl}
     ·rw[hI.f22 (h_p hp 22),hI.f24 (h_p hp 24),hI.f18 (h_p hp 18)] at hK ⊢;go_simp;exact hK _ _ {hI with f25:=fun _=>rfl}
     ·have EX:=HEx.out.trans hI.x;have d0:=Hc2.out _ EX 0 _ rfl;have d1:=Hc2.out _ EX 1 _ rfl;have d2:=Hc2.out _ EX 2 _ rfl;have d3:=Hc2.out _ EX 3 _ rfl;have d4:=Hc2.out _ EX 4 _ rfl;have d5:=Hc2.out _ EX 5 _ rfl;simp only[Nat.add_zero] at d0;clear EX;rw[hI.f25 (h_p hp 25),hI.f18 (h_p hp 18)] at hK ⊢;go_simp;exact hK _ _ {hI with f26:=fun _=>rfl}
     ·have EX:=h_ (HEx.out.trans hI.x);have h33:L 33=false:=bfl (hd.out 33 27 · (by kernel_rfl)) hun;rw[hI.f20 (h_p hp 20),hI.f26 (h_p hp 26),hI.f18 (h_p hp 18)] at hK ⊢;go_simp;go_at_call 101;refine(P2.out _ EX.out).mono ?_;rintro e wn ⟨vv,rfl,bb,hbb,own1,En⟩;go_simp;refine hK _ _ ?_
      first
      | (refine⟨hI.x.trans En,hI.f0,hI.f1,hI.f2,hI.f3,hI.f4,hI.f5,hI.f6,hI.f7,?_,hI.f9,hI.f10,hI.f11,hI.f12,hI.f13,hI.f14,hI.f15,hI.f16,hI.f17,hI.f18,hI.f19,hI.f20,hI.f21,hI.f22,hI.f23,hI.f24,hI.f25,hI.f26,?_,hI.f28,hI.f29,hI.f30,hI.f31,hI.f32,hI.f33,hI.f34,hI.f35,hI.f36,hI.f37⟩<;>(first|exact fun h=>(hI.f8 h).ext En|exact fun h=>own_ext (hI.f8 h) En|exact fun h=>(hI.f27 h).ext En|exact fun h=>own_ext (hI.f27 h) En|exact fun _=>rfl|skip))
      | (refine⟨hI.x.trans En,?_,?_,?_,?_,?_,?_,?_,?_,?_,?_,?_,?_,?_,?_,?_,?_,?_,?_,?_,?_,?_,?_,?_,?_,?_,?_,?_,?_,?_,?_,?_,?_,?_,?_,?_,?_,?_,?_⟩<;>(first|exact hI.f0|exact hI.f1|exact hI.f2|exact hI.f3|exact hI.f4|exact hI.f5|exact hI.f6|exact hI.f7|exact fun h=>(hI.f8 h).ext En|exact hI.f9|exact hI.f10|exact hI.f11|exact hI.f12|exact hI.f13|exact hI.f14|exact hI.f15|exact hI.f16|exact hI.f17|exact hI.f18|exact hI.f19|exact hI.f20|exact hI.f21|exact hI.f22|exact hI.f23|exact hI.f24|exact hI.f25|exact hI.f26|exact fun h=>(hI.f27 h).ext En|exact hI.f28|exact hI.f29|exact hI.f30|exact hI.f31|exact hI.f32|exact hI.f33|exact hI.f34|exact hI.f35|exact hI.f36|exact hI.f37|exact fun _=>rfl|skip))
      all_goals exact(by first|exact fun _=>KnbW.of own1 (by omega)|exact fun h=>absurd (show L 33=true from h) (by rw[h33];decide))
     ·rw[hI.f18 (h_p hp 18)] at hK ⊢;go_simp;exact hK _ _ {hI with f28:=fun _=>rfl}
     ·rw[hI.f18 (h_p hp 18)] at hK ⊢;go_simp;exact hK _ _ {hI with f29:=fun _=>rfl}
     ·rw[hI.f28 (h_p hp 28),hI.f29 (h_p hp 29),hI.f18 (h_p hp 18)] at hK ⊢;go_simp;exact hK _ _ {hI with f30:=fun _=>rfl}
     ·rw[hI.f30 (h_p hp 30),hI.f18 (h_p hp 18)] at hK ⊢;go_simp;exact hK _ _ {hI with f31:=fun _=>rfl}
     ·have cc:=hI.x.cell Hcy.out.2;rw[hI.f31 (h_p hp 31),hI.f18 (h_p hp 18)] at hK ⊢;go_simp;exact hK _ _ {hI with f32:=fun _=>rfl}
     ·have u7:=hI.f27 (h_p hp 27);obtain⟨g7,hg7⟩:=nm (bk (us 27));obtain⟨cp7,e7,-⟩:=u7.open_ Hl2.out hg7 hyo;replace hg7:=h_ hg7;clear u7;rw[e7,hI.f32 (h_p hp 32),hI.f18 (h_p hp 18)] at hK ⊢;go_simp;refine hK _ _ ?_;refine⟨hI.x,hI.f0,hI.f1,hI.f2,hI.f3,hI.f4,hI.f5,hI.f6,hI.f7,hI.f8,hI.f9,hI.f10,hI.f11,hI.f12,hI.f13,hI.f14,hI.f15,hI.f16,hI.f17,hI.f18,hI.f19,hI.f20,hI.f21,hI.f22,hI.f23,hI.f24,hI.f25,hI.f26,hI.f27,hI.f28,hI.f29,hI.f30,hI.f31,hI.f32,?_,hI.f34,hI.f35,hI.f36,hI.f37⟩;exact(fun _=>by rw[←hg7.out];rfl)
     ·have u10:=hI.f33 (h_p hp 33);have u7:=hI.f27 (hd.out 33 27 (h_p hp 33) (by kernel_rfl));obtain⟨g7,hg7⟩:=nm (bk (us 27));obtain⟨cp7,e7,k0,k1,k2,k3,k4⟩:=u7.open_ Hl2.out hg7 hyo;rw[hg7] at u10;rw[Hkb.out] at k0 k1 k2 k3 k4;simp only at k0 k1 k2 k3 k4;clear u7 e7 hg7;rw[u10,hI.f18 (h_p hp 18)] at hK ⊢;go_simp;refine hK _ _ ?_;refine⟨hI.x,hI.f0,hI.f1,hI.f2,hI.f3,hI.f4,hI.f5,hI.f6,hI.f7,hI.f8,hI.f9,hI.f10,hI.f11,hI.f12,hI.f13,hI.f14,hI.f15,hI.f16,hI.f17,hI.f18,hI.f19,hI.f20,hI.f21,hI.f22,hI.f23,hI.f24,hI.f25,hI.f26,hI.f27,hI.f28,hI.f29,hI.f30,hI.f31,hI.f32,hI.f33,?_,hI.f35,hI.f36,hI.f37⟩;exact(fun _=>rfl)
     ·rw[hI.f19 (h_p hp 19),hI.f34 (h_p hp 34),hI.f18 (h_p hp 18)] at hK ⊢;go_simp;go_at_call 206;refine(LN2'.out _).mono ?_;rintro e wn ⟨rfl,En⟩;go_simp;refine hK _ _ ?_;refine {hI with x:=hI.x.trans En,f8:= ?_,f27:= ?_,f35:= ?_}<;>(first|exact fun h=>(hI.f8 h).ext En|exact fun h=>own_ext (hI.f8 h) En|exact fun h=>(hI.f27 h).ext En|exact fun h=>own_ext (hI.f27 h) En|exact fun _=>rfl|skip)
     ·rw[hI.f35 (h_p hp 35),hI.f18 (h_p hp 18)] at hK ⊢;go_simp;exact hK _ _ {hI with f36:=fun _=>rfl}
     ·rw[hI.f18 (h_p hp 18),hI.f36 (h_p hp 36)] at hK ⊢;go_simp;exact hK _ _ {hI with f37:=fun _=>rfl}
     intro L us wx2 hall hI;have e37:=hI.f37 (hall 37 (by simp));have EX2:=hI.x;simp only[e37];clear hall hI e37;have BX2:=BV2.ext EX2;have bx2:=BX2.cell;have fx2:=BX2.frozen;go_wp2_with fail;go_roundw
     case rel=>exact⟨k+1,by omega,by go_num,EV2.trans EX2,by rw[Hy2.out];exact BX2⟩
     case measure=>simp only[intOf];omega
  ·obtain rfl:k=ln:=by omega
   have Hj:=h_ (show joinJ ks bs l=⟨ma,mb,st,ax,sl&&decide (ax≠0)⟩ by
    unfold joinJ endJ
    rw[HX0.out,Hln.out,Hmk.out])
   have BR:=(B2'.ext EX).ext Er;have hTJ:T+1≠J:=by have:=(B2'.ext EX).lt;have:=HJ.out;omega
   have HTJ:=h_ hTJ;have bj:=BJ.cell;have fj:=BJ.frozen;have hTw:w.heap.size≤T+1:=by have:=HT.out;omega
   have HTw:=h_ hTw;clear hTJ hTw;cases sl
   ·obtain⟨V1,hV1⟩:=nm (wr.setCell ⟨J,4,none⟩ (.bool false));have BV1:=BJ.set_ 4 (.bool false);rw[hV1] at BV1;have BR1:Blk V1 (T+1) 242 #[.int .i64 0,.int .i64 0,.int .i64 0,.int .u8 0,.bool false]:=by rw[←hV1];exact BR.far HTJ.out _
    have EV1:Ext w V1:=by rw[←hV1];exact(EXE.trans Er).setCell (Nat.le_trans EXE.size HJW.out) _
    have bv1:=BV1.cell;have cr:=BR1.cell;have fr:=BR1.frozen;obtain⟨V2,hV2,BV2,EV2,-⟩:=five_put BR1 EV1 HTw.out (.int .i64 ma) (.int .i64 mb) (.int .i64 st) (.int .u8 ax) (.bool false);have bv2:=BV2.cell;go_wp2_with fail;refine bodyPost_ret (v:= .agg #[.int .i64 ma,.int .i64 mb,.int .i64 st,.int .u8 ax,.bool false]) (by simp[results,Tryz.results191,go_sem,bv2]) rfl ⟨by rw[Hj.out];rfl,EV2⟩
   ·by_cases h0:ax=0
    ·have g0:(ax != 0)=false:=by simpa using h0
     have H0:=h_ (decide_eq_false (p:=ax≠0) (by simpa using h0));clear h0;obtain⟨V1,hV1⟩:=nm (wr.setCell ⟨J,4,none⟩ (.bool false));have BV1:=BJ.set_ 4 (.bool false);rw[hV1] at BV1;have BR1:Blk V1 (T+1) 242 #[.int .i64 0,.int .i64 0,.int .i64 0,.int .u8 0,.bool false]:=by rw[←hV1];exact BR.far HTJ.out _
     have EV1:Ext w V1:=by rw[←hV1];exact(EXE.trans Er).setCell (Nat.le_trans EXE.size HJW.out) _
     have bv1:=BV1.cell;have cr:=BR1.cell;have fr:=BR1.frozen;obtain⟨V2,hV2,BV2,EV2,-⟩:=five_put BR1 EV1 HTw.out (.int .i64 ma) (.int .i64 mb) (.int .i64 st) (.int .u8 ax) (.bool false);have bv2:=BV2.cell;go_wp2_with fail;refine bodyPost_ret (v:= .agg #[.int .i64 ma,.int .i64 mb,.int .i64 st,.int .u8 ax,.bool false]) (by simp[results,Tryz.results191,go_sem,bv2]) rfl ⟨by rw[Hj.out];rw[H0.out];rfl,EV2⟩
    ·have g0:(ax != 0)=true:=by simpa using h0
     have H0:=h_ (decide_eq_true (p:=ax≠0) h0);clear h0;obtain⟨V1,hV1⟩:=nm (wr.setCell ⟨J,4,none⟩ (.bool true));have BV1:=BJ.set_ 4 (.bool true);rw[hV1] at BV1;have BR1:Blk V1 (T+1) 242 #[.int .i64 0,.int .i64 0,.int .i64 0,.int .u8 0,.bool false]:=by rw[←hV1];exact BR.far HTJ.out _
     have EV1:Ext w V1:=by rw[←hV1];exact(EXE.trans Er).setCell (Nat.le_trans EXE.size HJW.out) _
     have bv1:=BV1.cell;have cr:=BR1.cell;have fr:=BR1.frozen;obtain⟨V2,hV2,BV2,EV2,-⟩:=five_put BR1 EV1 HTw.out (.int .i64 ma) (.int .i64 mb) (.int .i64 st) (.int .u8 ax) (.bool true);have bv2:=BV2.cell;go_wp2_with fail;refine bodyPost_ret (v:= .agg #[.int .i64 ma,.int .i64 mb,.int .i64 st,.int .u8 ax,.bool true]) (by simp[results,Tryz.results191,go_sem,bv2]) rfl ⟨by rw[Hj.out];rw[H0.out];rfl,EV2⟩
end Go.Proofs.YtojolpbpjimfgaaGreatDoor
