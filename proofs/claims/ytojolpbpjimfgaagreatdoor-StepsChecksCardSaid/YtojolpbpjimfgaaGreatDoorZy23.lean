/- Texts of the proof: Joints. -/
import Derived.Test.YtojolpbpjimfgaaGreatDoorZy15
import Derived.Test.YtojolpbpjimfgaaGreatDoorZy20
import Derived.Test.YtojolpbpjimfgaaGreatDoorZy21
import Derived.Test.YtojolpbpjimfgaaGreatDoorZy22
set_option maxHeartbeats 16000000
set_option maxRecDepth 100000
namespace Go.Proofs.YtojolpbpjimfgaaGreatDoor
open Go.RowKit
def JntRes(l:List Jnt)(r:Int)(w:World)(e:Ending)(w':World):Prop:= ∃A cap,e = .returned (.tuple #[.slice A l.length cap,.int .i64 r])∧Jnts w' A cap l∧Ext w w'
theorem midJ_take{ks:List Knd}{bs:List Brk}(x:Lnk)(l:List Lnk)(m:Nat):midJ ks bs x (l.take m) m=midJ ks bs x l m:=by
 unfold midJ;rw[List.take_take,Nat.min_self]
theorem lnkAt_drop(L:List Lnk)(p t:Nat):lnkAt (L.drop p) t=lnkAt L (p+t):=by
 unfold lnkAt;rw[List.getD_eq_getElem?_getD,List.getD_eq_getElem?_getD,List.getElem?_drop]
theorem joinJ_group{ks:List Knd}{bs:List Brk}{L:List Lnk}{p m:Nat}(hm:0<m)(h:p+m≤L.length):joinJ ks bs ((L.drop p).take m)=endJ (midJ ks bs (lnkAt L p) (L.drop p) m):=by
 unfold joinJ;have e1:((L.drop p).take m).length=m:=by rw[List.length_take,List.length_drop];omega
 have e2:lnkAt ((L.drop p).take m) 0=lnkAt L p:=by
  unfold lnkAt;rw[List.getD_eq_getElem?_getD,List.getD_eq_getElem?_getD,List.getElem?_take_of_lt hm,List.getElem?_drop,Nat.add_zero]
 rw[e1,e2,midJ_take]
structure Js7(W0:World)(vA:Value)(lg lo xa xb:Nat)(L:Nat→Bool)(us:Nat→Value)(w:World):Prop where
 x:Ext W0 w
 g0:L 9=true→W0.heap.size≤bk (us 9)
 g1:L 9=true→L 10=false→Blk w (bk (us 9)) 242 #[.int .i64 0,.int .i64 0,.int .i64 0,.int .u8 0,.bool false]
 f0:L 0=true→us 0=vA
 f1:L 1=true→us 1 = .pointer (some ⟨lg,lo,none⟩)
 f2:L 2=true→us 2 = .pointer (some ⟨lg,lo,none⟩)
 f3:L 3=true→us 3 = .int .i64 xa
 f4:L 4=true→us 4=vA
 f5:L 5=true→us 5 = .pointer (some ⟨lg,lo,none⟩)
 f6:L 6=true→us 6 = .pointer (some ⟨lg,lo+1,none⟩)
 f7:L 7=true→us 7 = .int .i64 xb
 f8:L 8=true→us 8 = .agg #[.int .i64 xa,.int .i64 xb,.int .i64 0,.int .u8 0,.bool true]
 f9:L 9=true→us 9 = .pointer (some ⟨bk (us 9),0,none⟩)
 f10:L 10=true→Blk w (bk (us 9)) 242 #[.int .i64 xa,.int .i64 xb,.int .i64 0,.int .u8 0,.bool true]
structure Js8(W0:World)(vA:Value)(lg lo J PG nb pc ga na xa xk:Nat)(kx ky kz:Int)(kd:Nat)(ks_ ax lx ly lz:Int)(L:Nat→Bool)(us:Nat→Value)(w:World):Prop where
 x:Ext W0 w
 g0:L 15=true→W0.heap.size≤bk (us 15)
 g1:L 15=true→L 17=false→Blk w (bk (us 15)) 124 #[.int .i64 0,.int .i64 0,.int .i64 0]
 f0:L 0=true→us 0 = .slice (some ⟨PG,0,none⟩) nb pc
 f1:L 1=true→us 1 = .pointer (some ⟨J,0,none⟩)
 f2:L 2=true→us 2 = .int .i64 xa
 f3:L 3=true→us 3 = .pointer (some ⟨PG,xa,none⟩)
 f4:L 4=true→us 4 = .slice (some ⟨ga,0,none⟩) na na
 f5:L 5=true→us 5=vA
 f6:L 6=true→us 6 = .pointer (some ⟨lg,lo,none⟩)
 f7:L 7=true→us 7 = .pointer (some ⟨lg,lo+2,none⟩)
 f8:L 8=true→us 8 = .int .i64 xk
 f9:L 9=true→us 9 = .pointer (some ⟨ga,xk*5,none⟩)
 f10:L 10=true→us 10 = .agg #[.int .i64 kx,.int .i64 ky,.int .i64 kz,.int .u8 kd,.int .u8 ks_]
 f11:L 11=true→us 11 = .tuple #[.int .u8 ax,.agg #[.int .i64 lx,.int .i64 ly,.int .i64 lz]]
 f12:L 12=true→us 12 = .tuple #[.int .u8 ax,.agg #[.int .i64 lx,.int .i64 ly,.int .i64 lz]]
 f13:L 13=true→us 13 = .int .u8 ax
 f14:L 14=true→us 14 = .agg #[.int .i64 lx,.int .i64 ly,.int .i64 lz]
 f15:L 15=true→us 15 = .pointer (some ⟨bk (us 15),0,none⟩)
 f16:L 16=true→us 16 = .int .u8 ax
 f17:L 17=true→Blk w (bk (us 15)) 124 #[.int .i64 lx,.int .i64 ly,.int .i64 lz]
structure Js15(W0:World)(J X PG nb pc ga na xa yk:Nat)(kx ky kz:Int)(kd:Nat)(ks_ ax lx ly lz:Int)(L:Nat→Bool)(us:Nat→Value)(w:World):Prop where
 x:Ext W0 w
 g0:L 13=true→W0.heap.size≤bk (us 13)
 g1:L 13=true→L 15=false→Blk w (bk (us 13)) 124 #[.int .i64 0,.int .i64 0,.int .i64 0]
 f0:L 0=true→us 0 = .slice (some ⟨PG,0,none⟩) nb pc
 f1:L 1=true→us 1 = .pointer (some ⟨J,0,none⟩)
 f2:L 2=true→us 2 = .int .i64 xa
 f3:L 3=true→us 3 = .pointer (some ⟨PG,xa,none⟩)
 f4:L 4=true→us 4 = .slice (some ⟨ga,0,none⟩) na na
 f5:L 5=true→us 5 = .pointer (some ⟨X,2,none⟩)
 f6:L 6=true→us 6 = .int .i64 yk
 f7:L 7=true→us 7 = .pointer (some ⟨ga,yk*5,none⟩)
 f8:L 8=true→us 8 = .agg #[.int .i64 kx,.int .i64 ky,.int .i64 kz,.int .u8 kd,.int .u8 ks_]
 f9:L 9=true→us 9 = .tuple #[.int .u8 ax,.agg #[.int .i64 lx,.int .i64 ly,.int .i64 lz]]
 f10:L 10=true→us 10 = .tuple #[.int .u8 ax,.agg #[.int .i64 lx,.int .i64 ly,.int .i64 lz]]
 f11:L 11=true→us 11 = .int .u8 ax
 f12:L 12=true→us 12 = .agg #[.int .i64 lx,.int .i64 ly,.int .i64 lz]
 f13:L 13=true→us 13 = .pointer (some ⟨bk (us 13),0,none⟩)
 f14:L 14=true→us 14 = .int .u8 ax
 f15:L 15=true→Blk w (bk (us 13)) 124 #[.int .i64 lx,.int .i64 ly,.int .i64 lz]
theorem JntRes_nil{r:Int}{w w':World}(E:Ext w w'):JntRes [] r w (.returned (.tuple #[.slice none 0 0,.int .i64 r])) w':=⟨none,0,rfl,jnts_nil _,E⟩
def JntOwn(l:List Jnt)(r:Int)(w:World)(e:Ending)(w':World):Prop:= ∃A cap,e = .returned (.tuple #[.slice A l.length cap,.int .i64 r])∧w'.ownsRow w.heap.size 242 5 (.slice A l.length cap) l.length (l.map Jnt.cs).flatten∧Jnts w' A cap l∧Ext w w'
theorem JntOwn_nil{r:Int}{w w':World}(E:Ext w w'):JntOwn [] r w (.returned (.tuple #[.slice none 0 0,.int .i64 r])) w':=⟨none,0,rfl,World.ownsRow_nil _ _ _ _,jnts_nil _,E⟩
theorem JntOwn.res{l:List Jnt}{r:Int}{w:World}{e:Ending}{w':World}:JntOwn l r w e w'→JntRes l r w e w':=fun⟨A,cap,h1,_,h3,h4⟩=>⟨A,cap,h1,h3,h4⟩
theorem strong_index{s:Int}(h:s=1∨s=3∨s=5)(w:World):(Instr.index 245 (.agg #[.int .i64 0,.int .i64 2,.int .i64 0,.int .i64 3,.int .i64 0,.int .i64 5]) (.int .u8 s)).run Tryz.prog w = .ok (.int .i64 (strongS s)) w:=by
 rcases h with rfl|rfl|rfl <;> kernel_rfl
theorem jointsO_c(qs:List (Knd×KAt))(QA:Option Addr)(qc:Nat)(bs:List Brk)(B:Option Addr)(cb:Nat)(w:World)(hk:Kinds w QA qc qs)(hb:Bricks w B cb bs)(hcm:checkErr (qs.map (·.1)) bs=0)(hlen:(linkL (qs.map (·.1)) bs).length≤100000) :
  Calls Tryz.prog 115 #[.slice QA qs.length qc,.agg #[.slice B bs.length cb]] w (JntOwn (jointL (qs.map (·.1)) bs) 0 w):=by
 have hft:=fit_of hk hb.2 hcm;obtain⟨W1,hW1,E1,B1,hz1⟩:=mk_ w #[.slice B bs.length cb] 25;have b1:=B1.cell;have CK:=checkM_c qs QA qc bs B cb W1 (hk.ext E1) (hb.ext E1);rw[hcm] at CK;have LK:=h_ (fun W (E:Ext w W)=>links_c qs QA qc bs B cb W (hk.ext E) (hb.ext E) hcm);unfold jointL;have hasc:=linkL_asc hft;obtain⟨ks,hks⟩:=nm (qs.map (·.1));rw[hks] at LK hft hasc hlen ⊢;have hmem:=fun(k:Nat) (hk:k<(linkL ks bs).length)=>mem_linkL.1 (lnkAt_mem (l:=linkL ks bs) hk);obtain⟨L,hL⟩:=nm (linkL ks bs);rw[hL] at LK hasc hmem hlen ⊢;have HF:=h_ hft;have HA:=h_ hasc;obtain⟨nq,hnq⟩:=nm qs.length;obtain⟨nb,hnb⟩:=nm bs.length;obtain⟨n,hn⟩:=nm L.length;have hbn:=hft.n;rw[hnq] at CK LK ⊢;rw[hnb] at CK LK B1 b1 hW1 hbn ⊢;rw[hn] at hlen hmem ⊢;have Hn:=h_ hn;have Hnb:=h_ hnb;have Hmem:=h_ hmem;have HE:=h_ E1;clear hks hL hnq hnb hn hk hb hcm hz1 hft hasc hmem;go_enter Tryz.func115,Tryz.ntmps115;go_wp2_with fail;clear hW1 b1;refine CK.mono ?_;rintro e W2 ⟨rfl,E2⟩;have b2:=(B1.ext E2).cell;go_wp2_with fail;refine(LK.out _ (HE.out.trans E2)).mono ?_;rintro e W3 ⟨LA,lc,PA,pc,gs,rfl,hLL,ownP,hPB,E3⟩;rw[Hn.out];have E03:=(HE.out.trans E2).trans E3;clear b2;obtain⟨i0,hi0,hz0,hz1,hz2⟩:=info_parts infoJnt;by_cases hn0:n=0
 ·subst hn0;have HLL:=h_ hLL;clear hLL ownP hPB;go_wp2_with fail;go_loopw [7,9] (fun v u wr=>v = .slice LA 0 lc∧u = .slice none 0 0∧wr=W3) (fun _ _ _=>0)
  case atStart=>exact⟨rfl,rfl,rfl⟩
  case round =>
   obtain⟨rfl,rfl,rfl⟩:=hrel;go_wp2_with fail;go_ret2;have e0:L = []:=List.eq_nil_of_length_eq_zero Hn.out;subst e0;exact JntOwn_nil E03
 obtain⟨lg,loff,hLA⟩: ∃g off,LA=some ⟨g,off,none⟩:=by
  obtain⟨g,off,hA,-,-⟩:=SliceIs.cells hLL (by rw[Hn.out];omega);exact⟨g,off,hA⟩
 subst hLA;have HLc:=h_ (fun W (E:Ext W3 W) k (hk:k<n)=>links_cell (hLL.ext E) (k:=k) (by rw[Hn.out];exact hk) rfl);have hlc:n≤lc:=by have:=hLL.le;rw[Hn.out] at this;exact this
 obtain⟨PG,hPG⟩: ∃PG,PA=some ⟨PG,0,none⟩:=by
  have hb0:0<nb:=by
   have h:=Hmem.out 0 (by omega);have:=h.ab;have:=h.b;have:=Hnb.out;omega
  obtain⟨g,cap',he⟩:=own_form ownP hb0;cases he;exact⟨g,rfl⟩
 subst hPG;have HPc:=h_ (fun W (E:Ext W3 W) i (hi:i<nb)=>show W.cell? ⟨PG,i,none⟩=some (.slice (some ⟨gs i,0,none⟩) (klen ks bs i) (klen ks bs i)) by
  obtain⟨g,hg,hc,-⟩:=ownAt (own_ext ownP E) hi (plC_at hi);cases hg
  exact hc)
 have HPk:=h_ (fun W (E:Ext W3 W) i q (hi:i<nb) (hq:q<klen ks bs i)=>(hPB.ext E).at_ hi hq);clear hLL ownP hPB;go_wp2_with fail;go_loopw [7,9] (fun vl v wr=> ∃(p r cr ad:Nat) (u:Value),p+r=n∧p+cr=lc∧vl = .slice (some ⟨lg,ad,none⟩) r cr∧(0<r→ad=loff+p*5)∧u=v∧Ext W3 wr∧wr.ownsRow W3.heap.size 242 5 u (pj ks bs L p).length ((pj ks bs L p).map Jnt.cs).flatten∧(p<n→p=0∨sameP (lnkAt L (p-1)) (lnkAt L p)=false)) (fun vl _ _=>match vl with | .slice _ r _=>r|_=>0)
 case atStart=>exact⟨0,n,lc,loff,_,by omega,by omega,rfl,(fun _=>by omega),rfl,Ext.refl W3,World.ownsRow_nil _ _ _ _,fun _=>Or.inl rfl⟩
 case round =>
  obtain⟨p,r,cr,ad,v,hpr,hpc,rfl,hadr,rfl,Er,own,hbd⟩:=hrel;by_cases hr0:0<r
  ·obtain rfl:=hadr hr0;obtain⟨c0,c1,c2,c3,c4⟩:=HLc.out wr Er p (by omega);have hx:=Hmem.out p (by omega);have Hbd:=h_ (hbd (by omega));have hpl:=pj_len (ks:=ks) (bs:=bs) L p;obtain⟨⟨xa,xb,xk,xo,xs⟩,hxe⟩:=nm (lnkAt L p);rw[hxe] at c0 c1 c2 c3 c4 hx;simp only at c0 c1 c2 c3 c4;have Hxe:=h_ hxe;have hxab:xa<xb:=hx.ab;have hxb:xb<nb:=by have:=hx.b;rw[Hnb.out] at this;exact this
   have hxk:xk<klen ks bs xa:=hx.k;have hM:=HF.out.meets (j:=xa) (q:=xk) (by rw[Hnb.out];omega) hxk;have Hx:=h_ hx;obtain⟨kf,hkf⟩:=nm (knbAt (bknobs ks (brkAt bs xa)) xk);have Hkf:=h_ hkf;rw[hkf] at hM;obtain⟨fx,fy,fz,fd,fs,rfl,hM⟩:=hM.nat;have fd6:fd<6:=by have:=hM.d5;simp only at this;omega
   have LN:=h_ (fun W=>line_c fx fy fz fd fs fd6 W);obtain⟨fq,hfq⟩:=nm ((fd:Int) / 2+1);obtain⟨⟨lx,ly,lz⟩,hlk⟩:=nm (lineK ⟨⟨fx,fy,fz⟩,fd,fs⟩);rw[hfq,hlk] at LN;simp only at LN;have Hlk:=h_ hlk;have Hfq:=h_ hfq;have hM0:=midJ_zero (ks:=ks) (bs:=bs) ⟨xa,xb,xk,xo,xs⟩ (L.drop p);have hfk:knobAt ks bs xa xk=⟨⟨fx,fy,fz⟩,fd,fs⟩:=by unfold knobAt;exact Hkf.out
   simp only[hfk,hfq] at hM0;have HM0:=h_ hM0;have Hfk:=h_ hfk;have hax:=fun k=>midJ_axis (ks:=ks) (bs:=bs) ⟨xa,xb,xk,xo,xs⟩ (L.drop p) k;simp only[hfk,hfq] at hax;have Hax:=h_ hax;obtain⟨ga,hga⟩:=nm (gs xa);obtain⟨na,hna⟩:=nm (klen ks bs xa);have HPc1:=h_ (fun W (E:Ext W3 W)=>HPc.out W E xa (by omega));have HPk1:=h_ (fun W (E:Ext W3 W) q (hq:q<na)=>HPk.out W E xa q (by omega) (by rw[hna];exact hq));rw[hga,hna] at HPc1;rw[hga] at HPk1;rw[hna] at hxk;obtain⟨lo,hlo⟩:=nm (loff+p*5);have HLc1:=h_ (fun W (E:Ext W3 W) t (ht:t<r)=>show W.cell? ⟨lg,lo+t*5,none⟩=some (.int .i64 (lnkAt L (p+t)).a)∧W.cell? ⟨lg,lo+t*5+1,none⟩=some (.int .i64 (lnkAt L (p+t)).b)∧W.cell? ⟨lg,lo+t*5+2,none⟩=some (.int .i64 (lnkAt L (p+t)).knob)∧W.cell? ⟨lg,lo+t*5+3,none⟩=some (.int .i64 (lnkAt L (p+t)).other)∧W.cell? ⟨lg,lo+t*5+4,none⟩=some (.int .u8 (lnkAt L (p+t)).sort) by
    have h:=HLc.out W E (p+t) (by omega);rw[show loff+(p+t)*5=lo+t*5 by omega] at h
    exact h)
   have Hck:=h_ (fun W (E:Ext W3 W)=>show W.cell? ⟨lg,lo+2,none⟩=some (.int .i64 xk) by
    have h:=(HLc.out W E p (by omega)).2.2.1;rw[hlo,hxe] at h
    exact h)
   rw[hlo] at c0 c1 c2 c3 c4 ⊢;have xa0:(0:Int)≤xa:=by omega
   have xa1:(xa:Int)<nb:=by omega
   have xk0:(0:Int)≤xk:=by omega
   have xk1:(xk:Int)<na:=by omega
   have r0:(0:Int)<r:=by omega
   have Hk1:=h_ hkf;have Hlo:=h_ hlo;have Hna:=h_ hna;have Hown:=h_ own;clear hx hM hkf hfq hlk hM0 hfk hax hxe hga hna hlo own hbd
   go_upto_region 7 with(fail)
   refine wp_region_byF (Js7 wr (.slice (some ⟨lg,lo,none⟩) r cr) lg lo xa xb) (by intro us;simp only[putAll,Act.put,zs,Nat.reduceAdd];rfl) (by kernel_rfl) (by kernel_rfl) (by kernel_rfl) ⟨(Ext.refl _).drew,(nofun),(nofun),(nofun),(nofun),(nofun),(nofun),(nofun),(nofun),(nofun),(nofun),(nofun),(nofun),(nofun)⟩ ⟨?_,?_,?_,?_,?_,?_,?_,?_,?_,?_,?_,trivial⟩ ?_
   any_goals (intro L' us wx K a ha hp hd hun hI hK;replace hp:=h_ hp;replace hd:=h_ hd;dsimp only at ha;subst ha;simp only[Act.put,zs] at hK)
   ·go_simp;exact hK _ _ {hI with f0:=fun _=>rfl}
   ·rw[hI.f0 (h_p hp 0)] at hK ⊢;go_simp;exact hK _ _ {hI with f1:=fun _=>rfl}
   ·rw[hI.f1 (h_p hp 1)] at hK ⊢;go_simp;exact hK _ _ {hI with f2:=fun _=>rfl}
   ·have cc:=hI.x.cell c0;rw[hI.f2 (h_p hp 2)] at hK ⊢;go_simp;exact hK _ _ {hI with f3:=fun _=>rfl}
   ·go_simp;exact hK _ _ {hI with f4:=fun _=>rfl}
   ·rw[hI.f4 (h_p hp 4)] at hK ⊢;go_simp;exact hK _ _ {hI with f5:=fun _=>rfl}
   ·rw[hI.f5 (h_p hp 5)] at hK ⊢;go_simp;exact hK _ _ {hI with f6:=fun _=>rfl}
   ·have cc:=hI.x.cell c1;rw[hI.f6 (h_p hp 6)] at hK ⊢;go_simp;exact hK _ _ {hI with f7:=fun _=>rfl}
   ·rw[hI.f3 (h_p hp 3),hI.f7 (h_p hp 7)] at hK ⊢;go_simp;exact hK _ _ {hI with f8:=fun _=>rfl}
   ·have h10:L' 10=false:=bfl (hd.out 10 9 · (by kernel_rfl)) hun;go_simp;refine hK _ _ ?_;refine⟨hI.x.alloc _,(fun _=>hI.x.size),(fun _ _=>Blk.new _ _ _),hI.f0,hI.f1,hI.f2,hI.f3,hI.f4,hI.f5,hI.f6,hI.f7,hI.f8,(fun _=>rfl),(fun h=>absurd (show L' 10=true from h) (by rw[h10];decide))⟩
   ·have h9:=h_p hp 9;have u9:=hI.f9 h9;have hb:=hI.g1 h9 hun;have hg:=hI.g0 h9;obtain⟨gn,hgn⟩:=nm (bk (us 9));rw[hgn] at u9 hb hg;have cb:=hb.cell;have fb:=hb.frozen;obtain⟨V,hV,BV,EV,-⟩:=five_put hb hI.x hg (.int .i64 xa) (.int .i64 xb) (.int .i64 0) (.int .u8 0) (.bool true);have BV':Blk V (bk (us 9)) 242 #[.int .i64 xa,.int .i64 xb,.int .i64 0,.int .u8 0,.bool true]:=by rw[hgn];exact BV
    replace hgn:=h_ hgn;rw[hI.f8 (h_p hp 8),u9] at hK ⊢;go_simp;refine hK undef _ ?_;refine⟨EV,hI.g0,(fun _ h=>nomatch (show true=false from h)),hI.f0,hI.f1,hI.f2,hI.f3,hI.f4,hI.f5,hI.f6,hI.f7,hI.f8,hI.f9,(fun _=>BV')⟩
   intro L' us wx hall hI;have e9:=hI.f9 (hall 9 (by simp));have BJ:=hI.f10 (hall 10 (by simp));have hJr:=hI.g0 (hall 9 (by simp));have EX:=hI.x;obtain⟨J,hJe⟩:=nm (bk (us 9));rw[hJe] at e9 BJ hJr;simp only[e9];have HBJ:=h_ BJ;have HJr:=h_ hJr;have HErX:=h_ (Er.trans EX);clear hall hI e9 hJe c0 c1 c2 c3 c4 hJr BJ
   go_upto_region 8 with(fail)
   refine wp_region_byF (Js8 wx (.slice (some ⟨lg,lo,none⟩) r cr) lg lo J PG nb pc ga na xa xk fx fy fz fd fs fq lx ly lz) (by intro us;simp only[putAll,Act.put,zs,Nat.reduceAdd];rfl) (by kernel_rfl) (by kernel_rfl) (by kernel_rfl) ⟨(Ext.refl _).drew,(nofun),(nofun),(nofun),(nofun),(nofun),(nofun),(nofun),(nofun),(nofun),(nofun),(nofun),(nofun),(nofun),(nofun),(nofun),(nofun),(nofun),(nofun),(nofun),(nofun)⟩ ⟨?_,?_,?_,?_,?_,?_,?_,?_,?_,?_,?_,?_,?_,?_,?_,?_,?_,?_,trivial⟩ ?_
   any_goals (intro L' us wx2 K a ha hp hd hun hI hK;replace hp:=h_ hp;replace hd:=h_ hd;dsimp only at ha;subst ha;simp only[Act.put,zs] at hK)
   ·go_simp;exact hK _ _ {hI with f0:=fun _=>rfl}
   ·go_simp;exact hK _ _ {hI with f1:=fun _=>rfl}
   ·have bb:=(HBJ.out.ext hI.x).cell;rw[hI.f1 (h_p hp 1)] at hK ⊢;go_simp;exact hK _ _ {hI with f2:=fun _=>rfl}
   ·rw[hI.f0 (h_p hp 0),hI.f2 (h_p hp 2)] at hK ⊢;go_simp;exact hK _ _ {hI with f3:=fun _=>rfl}
   ·have cc:=HPc1.out _ (HErX.out.trans hI.x);rw[hI.f3 (h_p hp 3)] at hK ⊢;go_simp;exact hK _ _ {hI with f4:=fun _=>rfl}
   ·go_simp;exact hK _ _ {hI with f5:=fun _=>rfl}
   ·rw[hI.f5 (h_p hp 5)] at hK ⊢;go_simp;exact hK _ _ {hI with f6:=fun _=>rfl}
   ·rw[hI.f6 (h_p hp 6)] at hK ⊢;go_simp;exact hK _ _ {hI with f7:=fun _=>rfl}
   ·have cc:=Hck.out _ (HErX.out.trans hI.x);rw[hI.f7 (h_p hp 7)] at hK ⊢;go_simp;exact hK _ _ {hI with f8:=fun _=>rfl}
   ·rw[hI.f4 (h_p hp 4),hI.f8 (h_p hp 8)] at hK ⊢;go_simp;exact hK _ _ {hI with f9:=fun _=>rfl}
   ·have cc:=HPk1.out _ (HErX.out.trans hI.x) xk hxk;rw[Hk1.out] at cc;simp only at cc;obtain⟨k0,k1,k2,k3,k4⟩:=cc;rw[hI.f9 (h_p hp 9)] at hK ⊢;go_simp;exact hK _ _ {hI with f10:=fun _=>rfl}
   ·rw[hI.f10 (h_p hp 10)] at hK ⊢;go_simp;go_at_call 146;refine(LN.out _).mono ?_;rintro e wn ⟨rfl,En⟩;go_simp;refine hK _ _ ?_;refine {hI with x:=hI.x.trans En,g0:= ?_,g1:= ?_,f11:= ?_,f17:= ?_}<;>(first|exact hI.g0.ext En|exact fun h=>(hI.g0 h).ext En|exact fun h h2=>(hI.g0 h h2).ext En|exact fun h=>own_ext (hI.g0 h) En|exact hI.g0|exact hI.g1.ext En|exact fun h=>(hI.g1 h).ext En|exact fun h h2=>(hI.g1 h h2).ext En|exact fun h=>own_ext (hI.g1 h) En|exact hI.g1|exact fun h=>(hI.f17 h).ext En|exact fun h=>own_ext (hI.f17 h) En|exact fun _=>rfl|skip)
   ·rw[hI.f11 (h_p hp 11)] at hK ⊢;go_simp;exact hK _ _ {hI with f12:=fun _=>rfl}
   ·rw[hI.f12 (h_p hp 12)] at hK ⊢;go_simp;exact hK _ _ {hI with f13:=fun _=>rfl}
   ·rw[hI.f12 (h_p hp 12)] at hK ⊢;go_simp;exact hK _ _ {hI with f14:=fun _=>rfl}
   ·have h17:L' 17=false:=bfl (hd.out 17 15 · (by kernel_rfl)) hun;go_simp;refine hK _ _ ?_;refine⟨hI.x.alloc _,(fun _=>hI.x.size),(fun _ _=>Blk.new _ _ _),hI.f0,hI.f1,hI.f2,hI.f3,hI.f4,hI.f5,hI.f6,hI.f7,hI.f8,hI.f9,hI.f10,hI.f11,hI.f12,hI.f13,hI.f14,(fun _=>rfl),hI.f16,(fun h=>absurd (show L' 17=true from h) (by rw[h17];decide))⟩
   ·rw[hI.f13 (h_p hp 13)] at hK ⊢;go_simp;refine hK _ _ ?_
    first
    | (refine {hI with f15:= ?_}<;>(first|exact fun _=>rfl|skip))
    | (refine⟨?_,?_,?_,?_,?_,?_,?_,?_,?_,?_,?_,?_,?_,?_,?_,?_,?_,?_,?_,?_,?_⟩<;>(first|exact hI.x|exact hI.g0|exact hI.g1|exact hI.f0|exact hI.f1|exact hI.f2|exact hI.f3|exact hI.f4|exact hI.f5|exact hI.f6|exact hI.f7|exact hI.f8|exact hI.f9|exact hI.f10|exact hI.f11|exact hI.f12|exact hI.f13|exact hI.f14|exact hI.f15|exact hI.f16|exact hI.f17|exact fun _=>rfl|skip))
   ·have h15:=h_p hp 15;have u15:=hI.f15 h15;have hb:=hI.g1 h15 hun;have hg:=hI.g0 h15;obtain⟨gn,hgn⟩:=nm (bk (us 15));rw[hgn] at u15 hb hg;have cb:=hb.cell;have fb:=hb.frozen;obtain⟨V,hV,BV,EV⟩:=three_put hb hI.x hg (.int .i64 lx) (.int .i64 ly) (.int .i64 lz);have BV':Blk V (bk (us 15)) 124 #[.int .i64 lx,.int .i64 ly,.int .i64 lz]:=by rw[hgn];exact BV
    replace hgn:=h_ hgn;rw[hI.f14 (h_p hp 14),u15] at hK ⊢;go_simp;refine hK undef _ ?_;refine⟨EV,hI.g0,(fun _ h=>nomatch (show true=false from h)),hI.f0,hI.f1,hI.f2,hI.f3,hI.f4,hI.f5,hI.f6,hI.f7,hI.f8,hI.f9,hI.f10,hI.f11,hI.f12,hI.f13,hI.f14,hI.f15,hI.f16,(fun _=>BV')⟩
   intro L' us wy hall hI;have e15:=hI.f15 (hall 15 (by simp));have e16:=hI.f16 (hall 16 (by simp));have BC:=hI.f17 (hall 17 (by simp));have hCr:=hI.g0 (hall 15 (by simp));have EY:=hI.x;obtain⟨C,hCe⟩:=nm (bk (us 15));rw[hCe] at e15 BC hCr;simp only[e15,e16];clear hall hI e15 e16 hCe;have BJy:=HBJ.out.ext EY;have hJC:J≠C:=by have:=HBJ.out.lt;omega
   have bj:=BJy.cell;have fj:=BJy.frozen;obtain⟨V0,hV0⟩:=nm (wy.setCell ⟨J,3,none⟩ (.int .u8 fq));have BJ0:Blk V0 J 242 #[.int .i64 xa,.int .i64 xb,.int .i64 0,.int .u8 fq,.bool true]:=by rw[←hV0];exact BJy.set_ 3 _
   have BC0:Blk V0 C 124 #[.int .i64 lx,.int .i64 ly,.int .i64 lz]:=by rw[←hV0];exact BC.far (Ne.symm hJC) _
   have EV0:Ext wr V0:=by rw[←hV0];exact(EX.trans EY).setCell HJr.out _
   have HJC:=h_ hJC;clear hJC;go_wp2_with fail;clear bj fj hV0;have BJ0':Blk V0 J 242 #[.int .i64 (midJ ks bs ⟨xa,xb,xk,xo,xs⟩ (L.drop p) 0).a,.int .i64 (midJ ks bs ⟨xa,xb,xk,xo,xs⟩ (L.drop p) 0).b,.int .i64 (midJ ks bs ⟨xa,xb,xk,xo,xs⟩ (L.drop p) 0).strength,.int .u8 (midJ ks bs ⟨xa,xb,xk,xo,xs⟩ (L.drop p) 0).axis,.bool (midJ ks bs ⟨xa,xb,xk,xo,xs⟩ (L.drop p) 0).slides]:=by rw[HM0.out];exact BJ0
   clear BJ0;go_loopw [13] (fun ii wr'=> ∃(t:Nat),t≤r∧ii = .int .i64 t∧Ext wr wr'∧Blk wr' J 242 #[.int .i64 (midJ ks bs ⟨xa,xb,xk,xo,xs⟩ (L.drop p) t).a,.int .i64 (midJ ks bs ⟨xa,xb,xk,xo,xs⟩ (L.drop p) t).b,.int .i64 (midJ ks bs ⟨xa,xb,xk,xo,xs⟩ (L.drop p) t).strength,.int .u8 (midJ ks bs ⟨xa,xb,xk,xo,xs⟩ (L.drop p) t).axis,.bool (midJ ks bs ⟨xa,xb,xk,xo,xs⟩ (L.drop p) t).slides]∧Blk wr' C 124 #[.int .i64 lx,.int .i64 ly,.int .i64 lz]∧Hid (∀s,s<t→sameP ⟨xa,xb,xk,xo,xs⟩ (lnkAt L (p+s))=true)) (fun ii _=>r-(intOf ii).toNat)
   case atStart=>exact⟨0,by omega,rfl,EV0,BJ0',BC0,h_ (fun s hs=>by omega)⟩
   case round =>
    clear EV0 BJ0' BC0;obtain⟨t,ht,rfl,Ew,BJ,BC,Hs⟩:=hrel;obtain⟨⟨ma,mb,st,ax,sl⟩,hmk⟩:=nm (midJ ks bs ⟨xa,xb,xk,xo,xs⟩ (L.drop p) t);have hma:ma=xa:=by have:=congrArg Jnt.a hmk;exact this.symm
    have hmb:mb=xb:=by have:=congrArg Jnt.b hmk;exact this.symm
    subst hma hmb;have hst:=midJ_strength (ks:=ks) (bs:=bs) ⟨ma,mb,xk,xo,xs⟩ (L.drop p) t;have hax:=Hax.out t;rw[hmk] at BJ hst hax;simp only at BJ hst hax;have Hmk:=h_ hmk;have ErW:=Er.trans Ew;have bj:=BJ.cell;have fj:=BJ.frozen;clear hmk;by_cases htr:t<r;rotate_left
    ·have Hex:=h_ (show p+t=n∨sameP ⟨ma,mb,xk,xo,xs⟩ (lnkAt L (p+t))=false from Or.inl (by omega));have g1:decide ((t:Int)<r)=false:=by simp;omega
     have g1': ¬(t:Int)<r:=by omega
     have ht0:0<t:=by
      rcases Nat.eq_zero_or_pos t with h|h
      ·exfalso;subst h;rcases Hex.out with h2|h2
       ·omega
       ·rw[←Bool.not_eq_true,sameP_iff,Nat.add_zero,Hxe.out] at h2;exact h2 ⟨rfl,rfl⟩
      ·exact h
     have Hpj:=h_ (show pj ks bs L (p+t)=pj ks bs L p ++ [⟨ma,mb,st,ax,sl&&decide (ax≠0)⟩] by
      rw[pj_group HA.out (by rw[Hn.out];omega) ht0 (Hbd.out) (fun s hs=>by rw[Hxe.out];exact Hs.out s hs) (by rw[Hn.out,Hxe.out];exact Hex.out),joinJ_group ht0 (by rw[Hn.out];omega),Hxe.out,Hmk.out]
      rfl)
     go_upto_region 11 with(fail)
     refine w_g ?_
     repeat (go_big_quiet_step (fail))
     refine wpQuiet_nil ?_;intro W5 hW5;have E5:Ext wr W5:=by
      obtain⟨x,rfl⟩:=hW5;exact(Ext.refl _).grow x
     clear hW5;obtain⟨hcW5,hfW5,hzW5⟩:=ext_facts E5;clear hcW5 hfW5 hzW5 bj fj;have BJ5:=BJ.ext E5;have bj:=BJ5.cell;have fj:=BJ5.frozen;have hq1:1≤fq:=by have:=Hfq.out;omega
     cases sl
     ·obtain⟨V1,hV1⟩:=nm (W5.setCell ⟨J,4,none⟩ (.bool false));have BV1:=BJ5.set_ 4 (.bool false);rw[hV1] at BV1;have EW1:=(Ew.trans E5).setCell (p:=⟨J,4,none⟩) HJr.out (.bool false);rw[hV1] at EW1;have bv1:=BV1.cell;have own1:=own_ext Hown.out EW1;have Er1:=Er.trans EW1;obtain⟨P,hP⟩:=nm (pj ks bs L p);rw[hP] at own1 hpl Hpj;have hlX:P.length+1≤maxLen:=by unfold maxLen;omega
      have hby:(P.length+1)*32≤140737488355328:=by omega
      have hTx:W3.heap.size≤V1.heap.size:=Er1.size;have t0:(0:Int)≤t:=by omega
      have t1:(t:Int)≤r:=by omega
      have t2:(t:Int)≤cr:=by omega
      have t3:t≤r:=by omega
      have t4:r≤cr:=by omega
      clear hP;go_wp2_with (at_builtin;refine wpList_append_one #[.int .i64 ma,.int .i64 mb,.int .i64 st,.int .u8 ax,.bool false] rfl (.tmp 134) (.tmp 136) 170 rfl W3.heap.size 242 242 i0 _ 5 32 Tryz.underlying170 hi0 hz0 hz1 hz2 rfl (by decide) _ _ _ _ rfl own1 rfl rfl (by simp[Value.oneCell']) hlX hby hTx ?_;intro g7 cap7 w7 own7 hg7);go_roundw
      case rel =>
       have ownA:=own_ext own1 ((Ext.refl V1).alloc (.cells #[.int .i64 ma,.int .i64 mb,.int .i64 st,.int .u8 ax,.bool false] 242));refine⟨p+t,r-t,cr-t,if cr=t then lo else lo+t*5,_,by omega,by omega,by first|rfl|(split <;> first|rfl|(exfalso;omega)),(fun hrt=> ?_),rfl,(Er1.alloc _).grown hg7 (fun k hk=>(ownA.lt k hk).1),?_,fun hpn=>Or.inr ?_⟩
       ·rw[if_neg (by omega)];have:=Hlo.out;omega
       ·rw[Hpj.out,List.length_append,List.map_append,List.flatten_append];exact own7
       ·have h1:=sameP_iff.1 (Hs.out (t-1) (by omega));rw[show p+(t-1)=p+t-1 by omega] at h1;rcases Hex.out with h2|h2
        ·omega
        ·rw[←Bool.not_eq_true,sameP_iff] at h2 ⊢;omega
      case measure=>simp only;omega
     ·by_cases hz:ax=0
      ·have z1:decide ((0:Int)<ax)=false:=by simp;omega
       have z2: ¬(0:Int)<ax:=by omega
       have Hz:=h_ (show(true&&decide (ax≠0))=false by rw[decide_eq_false (by simpa using hz)];rfl);clear hz;obtain⟨V1,hV1⟩:=nm (W5.setCell ⟨J,4,none⟩ (.bool false));have BV1:=BJ5.set_ 4 (.bool false);rw[hV1] at BV1;have EW1:=(Ew.trans E5).setCell (p:=⟨J,4,none⟩) HJr.out (.bool false);rw[hV1] at EW1;have bv1:=BV1.cell;have own1:=own_ext Hown.out EW1;have Er1:=Er.trans EW1;obtain⟨P,hP⟩:=nm (pj ks bs L p);rw[hP] at own1 hpl Hpj;have hlX:P.length+1≤maxLen:=by unfold maxLen;omega
       have hby:(P.length+1)*32≤140737488355328:=by omega
       have hTx:W3.heap.size≤V1.heap.size:=Er1.size;have t0:(0:Int)≤t:=by omega
       have t1:(t:Int)≤r:=by omega
       have t2:(t:Int)≤cr:=by omega
       have t3:t≤r:=by omega
       have t4:r≤cr:=by omega
       clear hP;go_wp2_with (at_builtin;refine wpList_append_one #[.int .i64 ma,.int .i64 mb,.int .i64 st,.int .u8 ax,.bool false] rfl (.tmp 134) (.tmp 136) 170 rfl W3.heap.size 242 242 i0 _ 5 32 Tryz.underlying170 hi0 hz0 hz1 hz2 rfl (by decide) _ _ _ _ rfl own1 rfl rfl (by simp[Value.oneCell']) hlX hby hTx ?_;intro g7 cap7 w7 own7 hg7);go_roundw
       case rel =>
        have ownA:=own_ext own1 ((Ext.refl V1).alloc (.cells #[.int .i64 ma,.int .i64 mb,.int .i64 st,.int .u8 ax,.bool false] 242));refine⟨p+t,r-t,cr-t,if cr=t then lo else lo+t*5,_,by omega,by omega,by first|rfl|(split <;> first|rfl|(exfalso;omega)),(fun hrt=> ?_),rfl,(Er1.alloc _).grown hg7 (fun k hk=>(ownA.lt k hk).1),?_,fun hpn=>Or.inr ?_⟩
        ·rw[if_neg (by omega)];have:=Hlo.out;omega
        ·rw[Hpj.out,Hz.out,List.length_append,List.map_append,List.flatten_append];exact own7
        ·have h1:=sameP_iff.1 (Hs.out (t-1) (by omega));rw[show p+(t-1)=p+t-1 by omega] at h1;rcases Hex.out with h2|h2
         ·omega
         ·rw[←Bool.not_eq_true,sameP_iff] at h2 ⊢;omega
       case measure=>simp only;omega
      ·have z1:decide ((0:Int)<ax)=true:=by simp;omega
       have z2:(0:Int)<ax:=by omega
       have Hz:=h_ (show(true&&decide (ax≠0))=true by rw[decide_eq_true hz];rfl);clear hz;obtain⟨V1,hV1⟩:=nm (W5.setCell ⟨J,4,none⟩ (.bool true));have BV1:=BJ5.set_ 4 (.bool true);rw[hV1] at BV1;have EW1:=(Ew.trans E5).setCell (p:=⟨J,4,none⟩) HJr.out (.bool true);rw[hV1] at EW1;have bv1:=BV1.cell;have own1:=own_ext Hown.out EW1;have Er1:=Er.trans EW1;obtain⟨P,hP⟩:=nm (pj ks bs L p);rw[hP] at own1 hpl Hpj;have hlX:P.length+1≤maxLen:=by unfold maxLen;omega
       have hby:(P.length+1)*32≤140737488355328:=by omega
       have hTx:W3.heap.size≤V1.heap.size:=Er1.size;have t0:(0:Int)≤t:=by omega
       have t1:(t:Int)≤r:=by omega
       have t2:(t:Int)≤cr:=by omega
       have t3:t≤r:=by omega
       have t4:r≤cr:=by omega
       clear hP;go_wp2_with (at_builtin;refine wpList_append_one #[.int .i64 ma,.int .i64 mb,.int .i64 st,.int .u8 ax,.bool true] rfl (.tmp 134) (.tmp 136) 170 rfl W3.heap.size 242 242 i0 _ 5 32 Tryz.underlying170 hi0 hz0 hz1 hz2 rfl (by decide) _ _ _ _ rfl own1 rfl rfl (by simp[Value.oneCell']) hlX hby hTx ?_;intro g7 cap7 w7 own7 hg7);go_roundw
       case rel =>
        have ownA:=own_ext own1 ((Ext.refl V1).alloc (.cells #[.int .i64 ma,.int .i64 mb,.int .i64 st,.int .u8 ax,.bool true] 242));refine⟨p+t,r-t,cr-t,if cr=t then lo else lo+t*5,_,by omega,by omega,by first|rfl|(split <;> first|rfl|(exfalso;omega)),(fun hrt=> ?_),rfl,(Er1.alloc _).grown hg7 (fun k hk=>(ownA.lt k hk).1),?_,fun hpn=>Or.inr ?_⟩
        ·rw[if_neg (by omega)];have:=Hlo.out;omega
        ·rw[Hpj.out,Hz.out,List.length_append,List.map_append,List.flatten_append];exact own7
        ·have h1:=sameP_iff.1 (Hs.out (t-1) (by omega));rw[show p+(t-1)=p+t-1 by omega] at h1;rcases Hex.out with h2|h2
         ·omega
         ·rw[←Bool.not_eq_true,sameP_iff] at h2 ⊢;omega
       case measure=>simp only;omega
    ·obtain⟨c0,c1,c2,c3,c4⟩:=HLc1.out _ ErW t htr;have g1:decide ((t:Int)<r)=true:=by simp;omega
     have g1':(t:Int)<r:=by omega
     have t0':(0:Int)≤t:=by omega
     have hyl:=Hmem.out (p+t) (by omega);have hget:=lnkAt_get (l:=L.drop p) (k:=t) (by rw[List.length_drop,Hn.out];omega);rw[lnkAt_drop] at hget;have Hms:=h_ (midJ_succ (ks:=ks) (bs:=bs) (x:=⟨ma,mb,xk,xo,xs⟩) hget);obtain⟨⟨ya,yb,yk,yo,ys⟩,hye⟩:=nm (lnkAt L (p+t));rw[hye] at c0 c1 c2 c3 c4 hyl Hms;simp only at c0 c1 c2 c3 c4;have Hye:=h_ hye;clear hye hget;by_cases ha:ya=ma;rotate_left
     ·have g2:decide ((ya:Int)=ma)=false:=by simp;omega
      have g3:((ya:Int)==ma)=false:=by simp;omega
      have Hex:=h_ (show p+t=n∨sameP ⟨ma,mb,xk,xo,xs⟩ (lnkAt L (p+t))=false from Or.inr (by rw[Hye.out,←Bool.not_eq_true,sameP_iff];simp only;omega));clear ha;have ht0:0<t:=by
       rcases Nat.eq_zero_or_pos t with h|h
       ·exfalso;subst h;rcases Hex.out with h2|h2
        ·omega
        ·rw[←Bool.not_eq_true,sameP_iff,Nat.add_zero,Hxe.out] at h2;exact h2 ⟨rfl,rfl⟩
       ·exact h
      have Hpj:=h_ (show pj ks bs L (p+t)=pj ks bs L p ++ [⟨ma,mb,st,ax,sl&&decide (ax≠0)⟩] by
       rw[pj_group HA.out (by rw[Hn.out];omega) ht0 (Hbd.out) (fun s hs=>by rw[Hxe.out];exact Hs.out s hs) (by rw[Hn.out,Hxe.out];exact Hex.out),joinJ_group ht0 (by rw[Hn.out];omega),Hxe.out,Hmk.out]
       rfl)
      go_upto_region 11 with(fail)
      refine w_g ?_
      repeat (go_big_quiet_step (fail))
      refine wpQuiet_nil ?_;intro W5 hW5;have E5:Ext wr W5:=by
       obtain⟨x,rfl⟩:=hW5;exact(Ext.refl _).grow x
      clear hW5;obtain⟨hcW5,hfW5,hzW5⟩:=ext_facts E5;clear hcW5 hfW5 hzW5 bj fj;have BJ5:=BJ.ext E5;have bj:=BJ5.cell;have fj:=BJ5.frozen;have hq1:1≤fq:=by have:=Hfq.out;omega
      cases sl
      ·obtain⟨V1,hV1⟩:=nm (W5.setCell ⟨J,4,none⟩ (.bool false));have BV1:=BJ5.set_ 4 (.bool false);rw[hV1] at BV1;have EW1:=(Ew.trans E5).setCell (p:=⟨J,4,none⟩) HJr.out (.bool false);rw[hV1] at EW1;have bv1:=BV1.cell;have own1:=own_ext Hown.out EW1;have Er1:=Er.trans EW1;obtain⟨P,hP⟩:=nm (pj ks bs L p);rw[hP] at own1 hpl Hpj;have hlX:P.length+1≤maxLen:=by unfold maxLen;omega
       have hby:(P.length+1)*32≤140737488355328:=by omega
       have hTx:W3.heap.size≤V1.heap.size:=Er1.size;have t0:(0:Int)≤t:=by omega
       have t1:(t:Int)≤r:=by omega
       have t2:(t:Int)≤cr:=by omega
       have t3:t≤r:=by omega
       have t4:r≤cr:=by omega
       clear hP;go_wp2_with (at_builtin;refine wpList_append_one #[.int .i64 ma,.int .i64 mb,.int .i64 st,.int .u8 ax,.bool false] rfl (.tmp 134) (.tmp 136) 170 rfl W3.heap.size 242 242 i0 _ 5 32 Tryz.underlying170 hi0 hz0 hz1 hz2 rfl (by decide) _ _ _ _ rfl own1 rfl rfl (by simp[Value.oneCell']) hlX hby hTx ?_;intro g7 cap7 w7 own7 hg7);go_roundw
       case rel =>
        have ownA:=own_ext own1 ((Ext.refl V1).alloc (.cells #[.int .i64 ma,.int .i64 mb,.int .i64 st,.int .u8 ax,.bool false] 242));refine⟨p+t,r-t,cr-t,if cr=t then lo else lo+t*5,_,by omega,by omega,by first|rfl|(split <;> first|rfl|(exfalso;omega)),(fun hrt=> ?_),rfl,(Er1.alloc _).grown hg7 (fun k hk=>(ownA.lt k hk).1),?_,fun hpn=>Or.inr ?_⟩
        ·rw[if_neg (by omega)];have:=Hlo.out;omega
        ·rw[Hpj.out,List.length_append,List.map_append,List.flatten_append];exact own7
        ·have h1:=sameP_iff.1 (Hs.out (t-1) (by omega));rw[show p+(t-1)=p+t-1 by omega] at h1;rcases Hex.out with h2|h2
         ·omega
         ·rw[←Bool.not_eq_true,sameP_iff] at h2 ⊢;omega
       case measure=>simp only;omega
      ·by_cases hz:ax=0
       ·have z1:decide ((0:Int)<ax)=false:=by simp;omega
        have z2: ¬(0:Int)<ax:=by omega
        have Hz:=h_ (show(true&&decide (ax≠0))=false by rw[decide_eq_false (by simpa using hz)];rfl);clear hz;obtain⟨V1,hV1⟩:=nm (W5.setCell ⟨J,4,none⟩ (.bool false));have BV1:=BJ5.set_ 4 (.bool false);rw[hV1] at BV1;have EW1:=(Ew.trans E5).setCell (p:=⟨J,4,none⟩) HJr.out (.bool false);rw[hV1] at EW1;have bv1:=BV1.cell;have own1:=own_ext Hown.out EW1;have Er1:=Er.trans EW1;obtain⟨P,hP⟩:=nm (pj ks bs L p);rw[hP] at own1 hpl Hpj;have hlX:P.length+1≤maxLen:=by unfold maxLen;omega
        have hby:(P.length+1)*32≤140737488355328:=by omega
        have hTx:W3.heap.size≤V1.heap.size:=Er1.size;have t0:(0:Int)≤t:=by omega
        have t1:(t:Int)≤r:=by omega
        have t2:(t:Int)≤cr:=by omega
        have t3:t≤r:=by omega
        have t4:r≤cr:=by omega
        clear hP;go_wp2_with (at_builtin;refine wpList_append_one #[.int .i64 ma,.int .i64 mb,.int .i64 st,.int .u8 ax,.bool false] rfl (.tmp 134) (.tmp 136) 170 rfl W3.heap.size 242 242 i0 _ 5 32 Tryz.underlying170 hi0 hz0 hz1 hz2 rfl (by decide) _ _ _ _ rfl own1 rfl rfl (by simp[Value.oneCell']) hlX hby hTx ?_;intro g7 cap7 w7 own7 hg7);go_roundw
        case rel =>
         have ownA:=own_ext own1 ((Ext.refl V1).alloc (.cells #[.int .i64 ma,.int .i64 mb,.int .i64 st,.int .u8 ax,.bool false] 242));refine⟨p+t,r-t,cr-t,if cr=t then lo else lo+t*5,_,by omega,by omega,by first|rfl|(split <;> first|rfl|(exfalso;omega)),(fun hrt=> ?_),rfl,(Er1.alloc _).grown hg7 (fun k hk=>(ownA.lt k hk).1),?_,fun hpn=>Or.inr ?_⟩
         ·rw[if_neg (by omega)];have:=Hlo.out;omega
         ·rw[Hpj.out,Hz.out,List.length_append,List.map_append,List.flatten_append];exact own7
         ·have h1:=sameP_iff.1 (Hs.out (t-1) (by omega));rw[show p+(t-1)=p+t-1 by omega] at h1;rcases Hex.out with h2|h2
          ·omega
          ·rw[←Bool.not_eq_true,sameP_iff] at h2 ⊢;omega
        case measure=>simp only;omega
       ·have z1:decide ((0:Int)<ax)=true:=by simp;omega
        have z2:(0:Int)<ax:=by omega
        have Hz:=h_ (show(true&&decide (ax≠0))=true by rw[decide_eq_true hz];rfl);clear hz;obtain⟨V1,hV1⟩:=nm (W5.setCell ⟨J,4,none⟩ (.bool true));have BV1:=BJ5.set_ 4 (.bool true);rw[hV1] at BV1;have EW1:=(Ew.trans E5).setCell (p:=⟨J,4,none⟩) HJr.out (.bool true);rw[hV1] at EW1;have bv1:=BV1.cell;have own1:=own_ext Hown.out EW1;have Er1:=Er.trans EW1;obtain⟨P,hP⟩:=nm (pj ks bs L p);rw[hP] at own1 hpl Hpj;have hlX:P.length+1≤maxLen:=by unfold maxLen;omega
        have hby:(P.length+1)*32≤140737488355328:=by omega
        have hTx:W3.heap.size≤V1.heap.size:=Er1.size;have t0:(0:Int)≤t:=by omega
        have t1:(t:Int)≤r:=by omega
        have t2:(t:Int)≤cr:=by omega
        have t3:t≤r:=by omega
        have t4:r≤cr:=by omega
        clear hP;go_wp2_with (at_builtin;refine wpList_append_one #[.int .i64 ma,.int .i64 mb,.int .i64 st,.int .u8 ax,.bool true] rfl (.tmp 134) (.tmp 136) 170 rfl W3.heap.size 242 242 i0 _ 5 32 Tryz.underlying170 hi0 hz0 hz1 hz2 rfl (by decide) _ _ _ _ rfl own1 rfl rfl (by simp[Value.oneCell']) hlX hby hTx ?_;intro g7 cap7 w7 own7 hg7);go_roundw
        case rel =>
         have ownA:=own_ext own1 ((Ext.refl V1).alloc (.cells #[.int .i64 ma,.int .i64 mb,.int .i64 st,.int .u8 ax,.bool true] 242));refine⟨p+t,r-t,cr-t,if cr=t then lo else lo+t*5,_,by omega,by omega,by first|rfl|(split <;> first|rfl|(exfalso;omega)),(fun hrt=> ?_),rfl,(Er1.alloc _).grown hg7 (fun k hk=>(ownA.lt k hk).1),?_,fun hpn=>Or.inr ?_⟩
         ·rw[if_neg (by omega)];have:=Hlo.out;omega
         ·rw[Hpj.out,Hz.out,List.length_append,List.map_append,List.flatten_append];exact own7
         ·have h1:=sameP_iff.1 (Hs.out (t-1) (by omega));rw[show p+(t-1)=p+t-1 by omega] at h1;rcases Hex.out with h2|h2
          ·omega
          ·rw[←Bool.not_eq_true,sameP_iff] at h2 ⊢;omega
        case measure=>simp only;omega
     have g2:decide ((ya:Int)=ma)=true:=by simp;omega
     have g3:((ya:Int)==ma)=true:=by simp;omega
     by_cases hb:yb=mb;rotate_left
     ·have g4:decide ((yb:Int)=mb)=false:=by simp;omega
      have g5:((yb:Int)==mb)=false:=by simp;omega
      have Hex:=h_ (show p+t=n∨sameP ⟨ma,mb,xk,xo,xs⟩ (lnkAt L (p+t))=false from Or.inr (by rw[Hye.out,←Bool.not_eq_true,sameP_iff];simp only;omega));clear ha hb;have ht0:0<t:=by
       rcases Nat.eq_zero_or_pos t with h|h
       ·exfalso;subst h;rcases Hex.out with h2|h2
        ·omega
        ·rw[←Bool.not_eq_true,sameP_iff,Nat.add_zero,Hxe.out] at h2;exact h2 ⟨rfl,rfl⟩
       ·exact h
      have Hpj:=h_ (show pj ks bs L (p+t)=pj ks bs L p ++ [⟨ma,mb,st,ax,sl&&decide (ax≠0)⟩] by
       rw[pj_group HA.out (by rw[Hn.out];omega) ht0 (Hbd.out) (fun s hs=>by rw[Hxe.out];exact Hs.out s hs) (by rw[Hn.out,Hxe.out];exact Hex.out),joinJ_group ht0 (by rw[Hn.out];omega),Hxe.out,Hmk.out]
       rfl)
      go_upto_region 11 with(fail)
      refine w_g ?_
      repeat (go_big_quiet_step (fail))
      refine wpQuiet_nil ?_;intro W5 hW5;have E5:Ext wr W5:=by
       obtain⟨x,rfl⟩:=hW5;exact(Ext.refl _).grow x
      clear hW5;obtain⟨hcW5,hfW5,hzW5⟩:=ext_facts E5;clear hcW5 hfW5 hzW5 bj fj;have BJ5:=BJ.ext E5;have bj:=BJ5.cell;have fj:=BJ5.frozen;have hq1:1≤fq:=by have:=Hfq.out;omega
      cases sl
      ·obtain⟨V1,hV1⟩:=nm (W5.setCell ⟨J,4,none⟩ (.bool false));have BV1:=BJ5.set_ 4 (.bool false);rw[hV1] at BV1;have EW1:=(Ew.trans E5).setCell (p:=⟨J,4,none⟩) HJr.out (.bool false);rw[hV1] at EW1;have bv1:=BV1.cell;have own1:=own_ext Hown.out EW1;have Er1:=Er.trans EW1;obtain⟨P,hP⟩:=nm (pj ks bs L p);rw[hP] at own1 hpl Hpj;have hlX:P.length+1≤maxLen:=by unfold maxLen;omega
       have hby:(P.length+1)*32≤140737488355328:=by omega
       have hTx:W3.heap.size≤V1.heap.size:=Er1.size;have t0:(0:Int)≤t:=by omega
       have t1:(t:Int)≤r:=by omega
       have t2:(t:Int)≤cr:=by omega
       have t3:t≤r:=by omega
       have t4:r≤cr:=by omega
       clear hP;go_wp2_with (at_builtin;refine wpList_append_one #[.int .i64 ma,.int .i64 mb,.int .i64 st,.int .u8 ax,.bool false] rfl (.tmp 134) (.tmp 136) 170 rfl W3.heap.size 242 242 i0 _ 5 32 Tryz.underlying170 hi0 hz0 hz1 hz2 rfl (by decide) _ _ _ _ rfl own1 rfl rfl (by simp[Value.oneCell']) hlX hby hTx ?_;intro g7 cap7 w7 own7 hg7);go_roundw
       case rel =>
        have ownA:=own_ext own1 ((Ext.refl V1).alloc (.cells #[.int .i64 ma,.int .i64 mb,.int .i64 st,.int .u8 ax,.bool false] 242));refine⟨p+t,r-t,cr-t,if cr=t then lo else lo+t*5,_,by omega,by omega,by first|rfl|(split <;> first|rfl|(exfalso;omega)),(fun hrt=> ?_),rfl,(Er1.alloc _).grown hg7 (fun k hk=>(ownA.lt k hk).1),?_,fun hpn=>Or.inr ?_⟩
        ·rw[if_neg (by omega)];have:=Hlo.out;omega
        ·rw[Hpj.out,List.length_append,List.map_append,List.flatten_append];exact own7
        ·have h1:=sameP_iff.1 (Hs.out (t-1) (by omega));rw[show p+(t-1)=p+t-1 by omega] at h1;rcases Hex.out with h2|h2
         ·omega
         ·rw[←Bool.not_eq_true,sameP_iff] at h2 ⊢;omega
       case measure=>simp only;omega
      ·by_cases hz:ax=0
       ·have z1:decide ((0:Int)<ax)=false:=by simp;omega
        have z2: ¬(0:Int)<ax:=by omega
        have Hz:=h_ (show(true&&decide (ax≠0))=false by rw[decide_eq_false (by simpa using hz)];rfl);clear hz;obtain⟨V1,hV1⟩:=nm (W5.setCell ⟨J,4,none⟩ (.bool false));have BV1:=BJ5.set_ 4 (.bool false);rw[hV1] at BV1;have EW1:=(Ew.trans E5).setCell (p:=⟨J,4,none⟩) HJr.out (.bool false);rw[hV1] at EW1;have bv1:=BV1.cell;have own1:=own_ext Hown.out EW1;have Er1:=Er.trans EW1;obtain⟨P,hP⟩:=nm (pj ks bs L p);rw[hP] at own1 hpl Hpj;have hlX:P.length+1≤maxLen:=by unfold maxLen;omega
        have hby:(P.length+1)*32≤140737488355328:=by omega
        have hTx:W3.heap.size≤V1.heap.size:=Er1.size;have t0:(0:Int)≤t:=by omega
        have t1:(t:Int)≤r:=by omega
        have t2:(t:Int)≤cr:=by omega
        have t3:t≤r:=by omega
        have t4:r≤cr:=by omega
        clear hP;go_wp2_with (at_builtin;refine wpList_append_one #[.int .i64 ma,.int .i64 mb,.int .i64 st,.int .u8 ax,.bool false] rfl (.tmp 134) (.tmp 136) 170 rfl W3.heap.size 242 242 i0 _ 5 32 Tryz.underlying170 hi0 hz0 hz1 hz2 rfl (by decide) _ _ _ _ rfl own1 rfl rfl (by simp[Value.oneCell']) hlX hby hTx ?_;intro g7 cap7 w7 own7 hg7);go_roundw
        case rel =>
         have ownA:=own_ext own1 ((Ext.refl V1).alloc (.cells #[.int .i64 ma,.int .i64 mb,.int .i64 st,.int .u8 ax,.bool false] 242));refine⟨p+t,r-t,cr-t,if cr=t then lo else lo+t*5,_,by omega,by omega,by first|rfl|(split <;> first|rfl|(exfalso;omega)),(fun hrt=> ?_),rfl,(Er1.alloc _).grown hg7 (fun k hk=>(ownA.lt k hk).1),?_,fun hpn=>Or.inr ?_⟩
         ·rw[if_neg (by omega)];have:=Hlo.out;omega
         ·rw[Hpj.out,Hz.out,List.length_append,List.map_append,List.flatten_append];exact own7
         ·have h1:=sameP_iff.1 (Hs.out (t-1) (by omega));rw[show p+(t-1)=p+t-1 by omega] at h1;rcases Hex.out with h2|h2
          ·omega
          ·rw[←Bool.not_eq_true,sameP_iff] at h2 ⊢;omega
        case measure=>simp only;omega
       ·have z1:decide ((0:Int)<ax)=true:=by simp;omega
        have z2:(0:Int)<ax:=by omega
        have Hz:=h_ (show(true&&decide (ax≠0))=true by rw[decide_eq_true hz];rfl);clear hz;obtain⟨V1,hV1⟩:=nm (W5.setCell ⟨J,4,none⟩ (.bool true));have BV1:=BJ5.set_ 4 (.bool true);rw[hV1] at BV1;have EW1:=(Ew.trans E5).setCell (p:=⟨J,4,none⟩) HJr.out (.bool true);rw[hV1] at EW1;have bv1:=BV1.cell;have own1:=own_ext Hown.out EW1;have Er1:=Er.trans EW1;obtain⟨P,hP⟩:=nm (pj ks bs L p);rw[hP] at own1 hpl Hpj;have hlX:P.length+1≤maxLen:=by unfold maxLen;omega
        have hby:(P.length+1)*32≤140737488355328:=by omega
        have hTx:W3.heap.size≤V1.heap.size:=Er1.size;have t0:(0:Int)≤t:=by omega
        have t1:(t:Int)≤r:=by omega
        have t2:(t:Int)≤cr:=by omega
        have t3:t≤r:=by omega
        have t4:r≤cr:=by omega
        clear hP;go_wp2_with (at_builtin;refine wpList_append_one #[.int .i64 ma,.int .i64 mb,.int .i64 st,.int .u8 ax,.bool true] rfl (.tmp 134) (.tmp 136) 170 rfl W3.heap.size 242 242 i0 _ 5 32 Tryz.underlying170 hi0 hz0 hz1 hz2 rfl (by decide) _ _ _ _ rfl own1 rfl rfl (by simp[Value.oneCell']) hlX hby hTx ?_;intro g7 cap7 w7 own7 hg7);go_roundw
        case rel =>
         have ownA:=own_ext own1 ((Ext.refl V1).alloc (.cells #[.int .i64 ma,.int .i64 mb,.int .i64 st,.int .u8 ax,.bool true] 242));refine⟨p+t,r-t,cr-t,if cr=t then lo else lo+t*5,_,by omega,by omega,by first|rfl|(split <;> first|rfl|(exfalso;omega)),(fun hrt=> ?_),rfl,(Er1.alloc _).grown hg7 (fun k hk=>(ownA.lt k hk).1),?_,fun hpn=>Or.inr ?_⟩
         ·rw[if_neg (by omega)];have:=Hlo.out;omega
         ·rw[Hpj.out,Hz.out,List.length_append,List.map_append,List.flatten_append];exact own7
         ·have h1:=sameP_iff.1 (Hs.out (t-1) (by omega));rw[show p+(t-1)=p+t-1 by omega] at h1;rcases Hex.out with h2|h2
          ·omega
          ·rw[←Bool.not_eq_true,sameP_iff] at h2 ⊢;omega
        case measure=>simp only;omega
     have g4:decide ((yb:Int)=mb)=true:=by simp;omega
     have g5:((yb:Int)==mb)=true:=by simp;omega
     subst ya yb;have hyk:yk<na:=by rw[←Hna.out];exact hyl.k
     have hMy:=HF.out.meets (j:=ma) (q:=yk) (by rw[Hnb.out];omega) hyl.k;have hys:ys=1∨ys=3∨ys=5:=by
      have h1:=hyl.s;simp only at h1;have h2:=hMy.s1;have h3:=hMy.s6;unfold oddS at h1;omega
     obtain⟨kn,hkn⟩:=nm (knbAt (bknobs ks (brkAt bs ma)) yk);rw[hkn] at hMy;obtain⟨gx,gy,gz,gd,gs_,rfl,hMy⟩:=hMy.nat;have gd6:gd<6:=by have:=hMy.d5;simp only at this;omega
     have LY:=h_ (fun W=>line_c gx gy gz gd gs_ gd6 W);obtain⟨yq,hyq⟩:=nm ((gd:Int) / 2+1);obtain⟨⟨mx,my,mz⟩,hml⟩:=nm (lineK ⟨⟨gx,gy,gz⟩,gd,gs_⟩);rw[hyq,hml] at LY;simp only at LY;have Hml:=h_ hml;have Hyq:=h_ hyq;have Hkn:=h_ hkn;have Hok:=h_ (show lineOk ks bs ⟨ma,mb,xk,xo,xs⟩ ⟨ma,mb,yk,yo,ys⟩=true↔(fq=yq∧(⟨lx,ly,lz⟩:Pt)=⟨mx,my,mz⟩) by
      have h:=lineK_iff (a:=⟨⟨fx,fy,fz⟩,fd,fs⟩) (b:=⟨⟨gx,gy,gz⟩,gd,gs_⟩) ⟨by simp only;omega,by simp only;omega⟩ ⟨by simp only;omega,by simp only;omega⟩;rw[Hlk.out,hml] at h;simp only[Hfq.out,hyq] at h;rw[lineOk_iff HF.out Hx.out hyl rfl rfl];simp only[Hfk.out];rw[show knobAt ks bs ma yk=⟨⟨gx,gy,gz⟩,gd,gs_⟩ from hkn]
      exact h)
     clear hMy hml hyq hkn;have hsi: ∀w:World,(Instr.index 245 (.agg #[.int .i64 0,.int .i64 2,.int .i64 0,.int .i64 3,.int .i64 0,.int .i64 5]) (.int .u8 ys)).run Tryz.prog w = .ok (.int .i64 (strongS ys)) w:=fun w=>strong_index hys w;have hsg:0≤strongS ys∧strongS ys≤5:=by rcases hys with h|h|h <;> rw[h] <;> decide
     obtain⟨sg,hsge⟩:=nm (strongS ys);rw[hsge] at hsg;simp only[hsge] at hsi;have Hsge:=h_ hsge;have Hys:=h_ hys;clear hsge hys
     go_upto_region 11 with(fail)
     refine w_g ?_
     repeat (go_big_quiet_step (fail))
     refine wpQuiet_nil ?_;intro W5 hW5;have E5:Ext wr W5:=by
      obtain⟨x,rfl⟩:=hW5;exact(Ext.refl _).grow x
     clear hW5;obtain⟨hcW5,hfW5,hzW5⟩:=ext_facts E5;clear hcW5 hfW5 hzW5 bj fj c0 c1 c2 c3 c4;have BJ5:=BJ.ext E5;have BC5:=BC.ext E5;obtain⟨c0,c1,c2,c3,c4⟩:=HLc1.out _ (ErW.trans E5) t htr;rw[Hye.out] at c0 c1 c2 c3 c4;simp only at c0 c1 c2 c3 c4
     go_upto_region 13 with(fail)
     obtain⟨V1,hV1,E51,BX,hz1⟩:=mk_ W5 #[.int .i64 ma,.int .i64 mb,.int .i64 yk,.int .i64 yo,.int .u8 ys] 135;rw[hV1];have EV1:=(Ew.trans E5).trans E51;have BJ1:=BJ5.ext E51;have BC1:=BC5.ext E51;have hJX:J≠W5.heap.size:=by have:=BJ5.lt;omega
     have hCX:C≠W5.heap.size:=by have:=BC5.lt;omega
     obtain⟨X,hX⟩:=nm W5.heap.size;rw[hX] at BX hJX hCX;simp only[hX];have HJX:=h_ hJX;have HCX:=h_ hCX;clear hV1 hz1 hX c0 c1 c2 c3 c4 hJX hCX;have bj:=BJ1.cell;have bx:=BX.cell;refine wp_region_tail 8 (by kernel_rfl) (by kernel_rfl) ?_;simp only[List.take_succ_cons,List.take_zero,List.drop_succ_cons,List.drop_zero]
     repeat (go_big_quiet_step (fail))
     refine wpQuiet_nil ?_;intro W6 hW6;have E6:Ext V1 W6:=by
      obtain⟨x,rfl⟩:=hW6;exact(Ext.refl _).grow x
     clear hW6;obtain⟨hcW6,hfW6,hzW6⟩:=ext_facts E6;clear hcW6 hfW6 hzW6 bj bx hsi;have BJ6:=BJ1.ext E6;have BC6:=BC1.ext E6;have BX6:=BX.ext E6;have bj:=BJ6.cell;have fj:=BJ6.frozen
     go_upto_region 14 with(fail)
     obtain⟨V2,hV2⟩:=nm (W6.setCell ⟨J,2,none⟩ (.int .i64 (st+sg)));rw[hV2];have BJ2:=BJ6.set_ 2 (.int .i64 (st+sg));rw[hV2] at BJ2;have BC2:=BC6.far (p:=⟨J,2,none⟩) (Ne.symm HJC.out) (.int .i64 (st+sg));rw[hV2] at BC2;have BX2:=BX6.far (p:=⟨J,2,none⟩) (Ne.symm HJX.out) (.int .i64 (st+sg));rw[hV2] at BX2;have EV2:=(EV1.trans E6).setCell (p:=⟨J,2,none⟩) HJr.out (.int .i64 (st+sg));rw[hV2] at EV2;clear bj fj hV2;have bj:=BJ2.cell;have fj:=BJ2.frozen;have bx:=BX2.cell;obtain⟨e,he⟩:=nm (decide (ys=3));have he2:(ys==3)=e:=he;cases sl
     case' false =>
      go_upto_region 15 with(fail)
      obtain⟨V3,hV3⟩:=nm (V2.setCell ⟨J,4,none⟩ (.bool false));rw[hV3];have BJ3:=BJ2.set_ 4 (.bool false);rw[hV3] at BJ3;have BC3:=BC2.far (p:=⟨J,4,none⟩) (Ne.symm HJC.out) (.bool false);rw[hV3] at BC3;have BX3:=BX2.far (p:=⟨J,4,none⟩) (Ne.symm HJX.out) (.bool false);rw[hV3] at BX3;have EV3:=EV2.setCell (p:=⟨J,4,none⟩) HJr.out (.bool false);rw[hV3] at EV3;have HBJ3:=h_ BJ3;have HBX3:=h_ BX3;have HE3:=h_ (Er.trans EV3);have Hyk:=h_ hyk;clear hV3 bj fj bx
     case' true =>
      go_upto_region 15 with(fail)
      obtain⟨V3,hV3⟩:=nm (V2.setCell ⟨J,4,none⟩ (.bool e));rw[hV3];have BJ3:=BJ2.set_ 4 (.bool e);rw[hV3] at BJ3;have BC3:=BC2.far (p:=⟨J,4,none⟩) (Ne.symm HJC.out) (.bool e);rw[hV3] at BC3;have BX3:=BX2.far (p:=⟨J,4,none⟩) (Ne.symm HJX.out) (.bool e);rw[hV3] at BX3;have EV3:=EV2.setCell (p:=⟨J,4,none⟩) HJr.out (.bool e);rw[hV3] at EV3;have HBJ3:=h_ BJ3;have HBX3:=h_ BX3;have HE3:=h_ (Er.trans EV3);have Hyk:=h_ hyk;clear hV3 bj fj bx
     all_goals
      refine wp_region_byF (Js15 V3 J X PG nb pc ga na ma yk gx gy gz gd gs_ yq mx my mz) (by intro us;simp only[putAll,Act.put,zs,Nat.reduceAdd];rfl) (by kernel_rfl) (by kernel_rfl) (by kernel_rfl) ⟨(Ext.refl _).drew,(nofun),(nofun),(nofun),(nofun),(nofun),(nofun),(nofun),(nofun),(nofun),(nofun),(nofun),(nofun),(nofun),(nofun),(nofun),(nofun),(nofun),(nofun)⟩ ⟨?_,?_,?_,?_,?_,?_,?_,?_,?_,?_,?_,?_,?_,?_,?_,?_,trivial⟩ ?_
      any_goals (intro L' us wx2 K a ha hp hd hun hI hK;replace hp:=h_ hp;replace hd:=h_ hd;dsimp only at ha;subst ha;simp only[Act.put,zs] at hK)
      ·go_simp;exact hK _ _ {hI with f0:=fun _=>rfl}
      ·go_simp;exact hK _ _ {hI with f1:=fun _=>rfl}
      ·have bb:=(HBJ3.out.ext hI.x).cell;rw[hI.f1 (h_p hp 1)] at hK ⊢;go_simp;exact hK _ _ {hI with f2:=fun _=>rfl}
      ·rw[hI.f0 (h_p hp 0),hI.f2 (h_p hp 2)] at hK ⊢;go_simp;exact hK _ _ {hI with f3:=fun _=>rfl}
      ·have cc:=HPc1.out _ (HE3.out.trans hI.x);rw[hI.f3 (h_p hp 3)] at hK ⊢;go_simp;exact hK _ _ {hI with f4:=fun _=>rfl}
      ·go_simp;exact hK _ _ {hI with f5:=fun _=>rfl}
      ·have bb:=(HBX3.out.ext hI.x).cell;rw[hI.f5 (h_p hp 5)] at hK ⊢;go_simp;exact hK _ _ {hI with f6:=fun _=>rfl}
      ·rw[hI.f4 (h_p hp 4),hI.f6 (h_p hp 6)] at hK ⊢;go_simp;exact hK _ _ {hI with f7:=fun _=>rfl}
      ·have cc:=HPk1.out _ (HE3.out.trans hI.x) yk Hyk.out;rw[Hkn.out] at cc;simp only at cc;obtain⟨k0,k1,k2,k3,k4⟩:=cc;rw[hI.f7 (h_p hp 7)] at hK ⊢;go_simp;exact hK _ _ {hI with f8:=fun _=>rfl}
      ·rw[hI.f8 (h_p hp 8)] at hK ⊢;go_simp;go_at_call 146;refine(LY.out _).mono ?_;rintro e wn ⟨rfl,En⟩;go_simp;refine hK _ _ ?_;refine {hI with x:=hI.x.trans En,g0:= ?_,g1:= ?_,f9:= ?_,f15:= ?_}<;>(first|exact hI.g0.ext En|exact fun h=>(hI.g0 h).ext En|exact fun h h2=>(hI.g0 h h2).ext En|exact fun h=>own_ext (hI.g0 h) En|exact hI.g0|exact hI.g1.ext En|exact fun h=>(hI.g1 h).ext En|exact fun h h2=>(hI.g1 h h2).ext En|exact fun h=>own_ext (hI.g1 h) En|exact hI.g1|exact fun h=>(hI.f15 h).ext En|exact fun h=>own_ext (hI.f15 h) En|exact fun _=>rfl|skip)
      ·rw[hI.f9 (h_p hp 9)] at hK ⊢;go_simp;exact hK _ _ {hI with f10:=fun _=>rfl}
      ·rw[hI.f10 (h_p hp 10)] at hK ⊢;go_simp;exact hK _ _ {hI with f11:=fun _=>rfl}
      ·rw[hI.f10 (h_p hp 10)] at hK ⊢;go_simp;exact hK _ _ {hI with f12:=fun _=>rfl}
      ·have h15:L' 15=false:=bfl (hd.out 15 13 · (by kernel_rfl)) hun;go_simp;refine hK _ _ ?_;refine⟨hI.x.alloc _,(fun _=>hI.x.size),(fun _ _=>Blk.new _ _ _),hI.f0,hI.f1,hI.f2,hI.f3,hI.f4,hI.f5,hI.f6,hI.f7,hI.f8,hI.f9,hI.f10,hI.f11,hI.f12,(fun _=>rfl),hI.f14,(fun h=>absurd (show L' 15=true from h) (by rw[h15];decide))⟩
      ·rw[hI.f11 (h_p hp 11)] at hK ⊢;go_simp;refine hK _ _ ?_
       first
       | (refine {hI with f13:= ?_}<;>(first|exact fun _=>rfl|skip))
       | (refine⟨?_,?_,?_,?_,?_,?_,?_,?_,?_,?_,?_,?_,?_,?_,?_,?_,?_,?_,?_⟩<;>(first|exact hI.x|exact hI.g0|exact hI.g1|exact hI.f0|exact hI.f1|exact hI.f2|exact hI.f3|exact hI.f4|exact hI.f5|exact hI.f6|exact hI.f7|exact hI.f8|exact hI.f9|exact hI.f10|exact hI.f11|exact hI.f12|exact hI.f13|exact hI.f14|exact hI.f15|exact fun _=>rfl|skip))
      ·have h13:=h_p hp 13;have u13:=hI.f13 h13;have hb:=hI.g1 h13 hun;have hg:=hI.g0 h13;obtain⟨gn,hgn⟩:=nm (bk (us 13));rw[hgn] at u13 hb hg;have cb:=hb.cell;have fb:=hb.frozen;obtain⟨V,hV,BV,EV⟩:=three_put hb hI.x hg (.int .i64 mx) (.int .i64 my) (.int .i64 mz);have BV':Blk V (bk (us 13)) 124 #[.int .i64 mx,.int .i64 my,.int .i64 mz]:=by rw[hgn];exact BV
       replace hgn:=h_ hgn;rw[hI.f12 (h_p hp 12),u13] at hK ⊢;go_simp;refine hK undef _ ?_;refine⟨EV,hI.g0,(fun _ h=>nomatch (show true=false from h)),hI.f0,hI.f1,hI.f2,hI.f3,hI.f4,hI.f5,hI.f6,hI.f7,hI.f8,hI.f9,hI.f10,hI.f11,hI.f12,hI.f13,hI.f14,(fun _=>BV')⟩
      intro L' us wz hall hI;have e13:=hI.f13 (hall 13 (by simp));have e14:=hI.f14 (hall 14 (by simp));have BM:=hI.f15 (hall 15 (by simp));have EZ:=hI.x;obtain⟨M,hMe⟩:=nm (bk (us 13));rw[hMe] at e13 BM;simp only[e13,e14];clear hall hI e13 e14 hMe;have BJz:=BJ3.ext EZ;have BCz:=BC3.ext EZ;have EWz:=EV3.trans EZ;have bj:=BJz.cell;have fj:=BJz.frozen;have bc:=BCz.cell;have bm:=BM.cell;have Hpr:=h_ (And.intro hpr (And.intro hlen htr));have Hsn:=h_ (show ∀s,s<t+1→sameP ⟨ma,mb,xk,xo,xs⟩ (lnkAt L (p+s))=true from fun s hs=>by
       rcases Nat.lt_or_ge s t with h|h
       ·exact Hs.out s h
       ·obtain rfl:s=t:=by omega
        rw[Hye.out,sameP_iff]
        exact⟨rfl,rfl⟩)
      by_cases hq:yq=fq;rotate_left
      ·have e1:(yq != fq)=true:=by simpa using hq
       have hno:lineOk ks bs ⟨ma,mb,xk,xo,xs⟩ ⟨ma,mb,yk,yo,ys⟩=false:=by
        rw[←Bool.not_eq_true,Hok.out];exact fun h=>hq h.1.symm
       clear hq bc bm;obtain⟨V4,hV4⟩:=nm (wz.setCell ⟨J,3,none⟩ (.int .u8 0));have BJ4:=BJz.set_ 3 (.int .u8 0);rw[hV4] at BJ4;have BC4:=BCz.far (p:=⟨J,3,none⟩) (Ne.symm HJC.out) (.int .u8 0);rw[hV4] at BC4;have EW4:=EWz.setCell (p:=⟨J,3,none⟩) HJr.out (.int .u8 0);rw[hV4] at EW4;have e2:=Hms.out;rw[Hmk.out] at e2;simp only[Hsge.out,hno,Bool.false_eq_true,if_false,he,Bool.true_and] at e2;have He:=h_ e2;clear hno e2;go_wp2_with fail;go_roundw
       case rel=>exact⟨t+1,by omega,by go_num,EW4,by rw[He.out];exact BJ4,BC4,Hsn⟩
       case measure=>simp only[intOf];omega
      have e1:(yq != fq)=false:=by simp[hq]
      have Hq:=h_ hq;clear hq;by_cases hc:(⟨mx,my,mz⟩:Pt)=⟨lx,ly,lz⟩;rotate_left
      ·have hcn: ∀w:World,(binOp .neq 124 (.agg #[.int .i64 mx,.int .i64 my,.int .i64 mz]) (.agg #[.int .i64 lx,.int .i64 ly,.int .i64 lz])).run Tryz.prog w = .ok (.bool true) w:=fun w=>by
        rw[pt_neq,Bool.eq_false_iff.2 fun h=>hc (Pt.eqB_iff.1 h)];rfl
       have hno:lineOk ks bs ⟨ma,mb,xk,xo,xs⟩ ⟨ma,mb,yk,yo,ys⟩=false:=by
        rw[←Bool.not_eq_true,Hok.out];exact fun h=>hc h.2.symm
       clear hc;obtain⟨V4,hV4⟩:=nm (wz.setCell ⟨J,3,none⟩ (.int .u8 0));have BJ4:=BJz.set_ 3 (.int .u8 0);rw[hV4] at BJ4;have BC4:=BCz.far (p:=⟨J,3,none⟩) (Ne.symm HJC.out) (.int .u8 0);rw[hV4] at BC4;have EW4:=EWz.setCell (p:=⟨J,3,none⟩) HJr.out (.int .u8 0);rw[hV4] at EW4;have e2:=Hms.out;rw[Hmk.out] at e2;simp only[Hsge.out,hno,Bool.false_eq_true,if_false,he,Bool.true_and] at e2;have He:=h_ e2;clear hno e2;go_wp2_with fail;go_roundw
       case rel=>exact⟨t+1,by omega,by go_num,EW4,by rw[He.out];exact BJ4,BC4,Hsn⟩
       case measure=>simp only[intOf];omega
      ·have hcn: ∀w:World,(binOp .neq 124 (.agg #[.int .i64 mx,.int .i64 my,.int .i64 mz]) (.agg #[.int .i64 lx,.int .i64 ly,.int .i64 lz])).run Tryz.prog w = .ok (.bool false) w:=fun w=>by
        rw[pt_neq,Pt.eqB_iff.2 hc];rfl
       have hyes:lineOk ks bs ⟨ma,mb,xk,xo,xs⟩ ⟨ma,mb,yk,yo,ys⟩=true:=Hok.out.2 ⟨Hq.out.symm,hc.symm⟩;have e2:=Hms.out;rw[Hmk.out] at e2;simp only[Hsge.out,hyes,if_true,he,Bool.true_and] at e2;have He:=h_ e2;clear hc hyes e2;go_wp2_with fail;go_roundw
       case rel=>exact⟨t+1,by omega,by go_num,EWz,by rw[He.out];exact BJz,BCz,Hsn⟩
       case measure=>simp only[intOf];omega
  ·obtain rfl:r=0:=by omega
   obtain rfl:p=n:=by omega
   go_wp2_with fail;go_ret2;obtain⟨RA,rc,rfl,h1,-⟩:=own_slice0 (rows:=(pj ks bs L p).map Jnt.cs) (jnt_wide _) (by rw[List.length_map]) own;exact⟨RA,rc,rfl,own_base own E03.size,h1,E03.trans Er⟩
theorem jointsG_c(qs:List (Knd×KAt))(QA:Option Addr)(qc:Nat)(bs:List Brk)(B:Option Addr)(cb:Nat)(w:World)(hk:Kinds w QA qc qs)(hb:Bricks w B cb bs)(hcm:checkErr (qs.map (·.1)) bs=0)(hlen:(linkL (qs.map (·.1)) bs).length≤100000) :
  Calls Tryz.prog 115 #[.slice QA qs.length qc,.agg #[.slice B bs.length cb]] w (JntRes (jointL (qs.map (·.1)) bs) 0 w):=Calls.mono (jointsO_c qs QA qc bs B cb w hk hb hcm hlen) fun _ _ h=>h.res
end Go.Proofs.YtojolpbpjimfgaaGreatDoor
