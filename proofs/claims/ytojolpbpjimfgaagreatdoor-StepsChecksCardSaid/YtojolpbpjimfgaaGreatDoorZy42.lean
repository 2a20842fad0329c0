/- Texts of the proof: RPush. -/
import Derived.Test.YtojolpbpjimfgaaGreatDoorZy22
import Derived.Test.YtojolpbpjimfgaaGreatDoorZy25
import Derived.Test.YtojolpbpjimfgaaGreatDoorZy33
import Derived.Test.YtojolpbpjimfgaaGreatDoorZy35
import Derived.Test.YtojolpbpjimfgaaGreatDoorZy36
import Derived.Test.YtojolpbpjimfgaaGreatDoorZy40
import Derived.Test.YtojolpbpjimfgaaGreatDoorZy41
set_option maxHeartbeats 16000000
set_option maxRecDepth 100000
namespace Go.Proofs.YtojolpbpjimfgaaGreatDoor
open Go.RowKit
theorem WayOk.amt{n:Nat}{cap:Nat→Nat→Int}{ground seen:Nat→Bool}{put:Nat→Nat→Int}{down:Nat→Int}{i:Nat}{a b got:Int}{put':Nat→Nat→Int}{down':Nat→Int}(h:WayOk n cap ground seen put down i a got put' down')(hab:a≤b):WayOk n cap ground seen put down i b got put' down' :=
 ⟨h.pos,by have:=h.le;omega,h.lo,h.hi,h.dg,h.dn,h.bal,h.avoid,h.keep⟩
theorem BRow.new(n:Nat)(w:World):BRow (w.alloc (.cells (vsA n fun _=> .bool false) 4)) w.heap.size n fun _=>false:=Blk.new _ _ _
structure Rp3(W0:World)(n:Nat)(L:Nat→Bool)(us:Nat→Value)(w:World):Prop where
 x:Ext W0 w
 g1:L 1=true→W0.heap.size≤bk (us 1)∧BRow w (bk (us 1)) n fun _=>false
 g2:L 3=true→W0.heap.size≤bk (us 3)∧BRow w (bk (us 3)) n fun _=>false
 g3:L 1=true→L 3=true→bk (us 1)≠bk (us 3)
 f0:L 0=true→us 0 = .int .i64 n
 f1:L 1=true→us 1 = .slice (some ⟨bk (us 1),0,none⟩) n n
 f2:L 2=true→us 2 = .int .i64 n
 f3:L 3=true→us 3 = .slice (some ⟨bk (us 3),0,none⟩) n n
 f4:L 4=true→us 4 = .slice (some ⟨bk (us 1),0,none⟩) n n
 f5:L 5=true→us 5 = .slice (some ⟨bk (us 3),0,none⟩) n n
structure Rp4(W0:World)(n:Nat)(L:Nat→Bool)(us:Nat→Value)(w:World):Prop where
 x:Ext W0 w
 g1:L 1=true→W0.heap.size≤bk (us 1)∧NRow w (bk (us 1)) n fun _=>0
 g2:L 3=true→W0.heap.size≤bk (us 3)∧NRow w (bk (us 3)) n fun _=>0
 g3:L 1=true→L 3=true→bk (us 1)≠bk (us 3)
 g4:L 5=true→L 6=false→W0.heap.size≤bk (us 5)∧Blk w (bk (us 5)) 231 #[.slice none 0 0,.slice none 0 0,.slice none 0 0]
 g5:L 6=true→W0.heap.size≤bk (us 5)∧Blk w (bk (us 5)) 231 #[.slice none 0 0,.slice (some ⟨bk (us 1),0,none⟩) n n,.slice (some ⟨bk (us 3),0,none⟩) n n]
 f0:L 0=true→us 0 = .int .i64 n
 f1:L 1=true→us 1 = .slice (some ⟨bk (us 1),0,none⟩) n n
 f2:L 2=true→us 2 = .int .i64 n
 f3:L 3=true→us 3 = .slice (some ⟨bk (us 3),0,none⟩) n n
 f4:L 4=true→us 4 = .agg #[.slice none 0 0,.slice (some ⟨bk (us 1),0,none⟩) n n,.slice (some ⟨bk (us 3),0,none⟩) n n]
 f5:L 5=true→us 5 = .pointer (some ⟨bk (us 5),0,none⟩)
structure Keep8(w:World)(DB LB OG FB U n j:Nat)(hs:Nat→Nat)(og:Nat→Bool):Prop where
 d:NRow w DB n fun _=>0
 l:NRow w LB n fun _=>0
 o:BRow w OG n og
 f:BRow w FB n fun _=>false
 p:PR w U hs n (fun _ _=>0) j
theorem Keep8.ext{w w':World}{DB LB OG FB U n j:Nat}{hs:Nat→Nat}{og:Nat→Bool}(h:Keep8 w DB LB OG FB U n j hs og)(E:Ext w w'):Keep8 w' DB LB OG FB U n j hs og:=⟨h.d.ext E,h.l.ext E,h.o.ext E,h.f.ext E,h.p.ext E⟩
theorem Keep8.grown{w w':World}{DB LB OG FB U n j:Nat}{hs:Nat→Nat}{og:Nat→Bool}(h:Keep8 w DB LB OG FB U n j hs og){b:Nat}{sz:Nat}{v:Value}{m:Nat}{xs:List Value}(own:w.ownsRow b 26 sz v m xs)(hg:w.grownBy w' v.ownBlock):Keep8 w' DB LB OG FB U n j hs og :=
 ⟨blkGrown h.d own hg (by decide),blkGrown h.l own hg (by decide),blkGrown h.o own hg (by decide),blkGrown h.f own hg (by decide),h.p.grown own hg (by decide)⟩
theorem Keep8.box{w:World}{DB LB OG FB U n j:Nat}{hs:Nat→Nat}{og:Nat→Bool}(h:Keep8 w DB LB OG FB U n j hs og){X:Nat}{cs:Array Value}(hx:Blk w X 231 cs)(o:Nat)(v:Value):Keep8 (w.setCell ⟨X,o,none⟩ v) DB LB OG FB U n j hs og :=
 ⟨Blk.far h.d (p:=⟨X,o,none⟩) (fun e=>by cases e;exact absurd (Blk.types h.d hx) (by decide)) v,Blk.far h.l (p:=⟨X,o,none⟩) (fun e=>by cases e;exact absurd (Blk.types h.l hx) (by decide)) v,Blk.far h.o (p:=⟨X,o,none⟩) (fun e=>by cases e;exact absurd (Blk.types h.o hx) (by decide)) v,
  Blk.far h.f (p:=⟨X,o,none⟩) (fun e=>by cases e;exact absurd (Blk.types h.f hx) (by decide)) v,h.p.far (p:=⟨X,o,none⟩) (fun i hi e=>by
   obtain⟨ex,hr⟩:=h.p.r i hi;rw[show hs i=X from e] at hr
   exact absurd (Blk.types hr hx) (by decide)) v⟩
def slCap:Value→Nat
 | .slice _ _ c=>c
 | _=>0
structure Rp8(W0:World)(XB U n j DB LB OG FB:Nat)(hs:Nat→Nat)(og:Nat→Bool)(A:Option Addr)(c:Nat)(L:Nat→Bool)(us:Nat→Value)(w:World):Prop where
 x:Ext W0 w
 g0:Keep8 w DB LB OG FB U n j hs og
 g1:L 3=true→(U≤bk (us 3)∧NRow w (bk (us 3)) n fun _=>0) ∧ ∀i,i<j→hs i≠bk (us 3)
 g2:L 4=true→L 5=false→Blk w (bk (us 4)) 26 #[.slice (some ⟨bk (us 3),0,none⟩) n n]
 g3:L 5=false→w.ownsRow U 26 1 (.slice A j c) j (plC hs (fun _=>n) j)
 g4:L 5=true→w.ownsRow U 26 1 (us 5) (j+1) (plC hs (fun _=>n) j ++ [.slice (some ⟨bk (us 3),0,none⟩) n n])
 g5:L 7=false→Blk w XB 231 #[.slice A j c,.slice (some ⟨DB,0,none⟩) n n,.slice (some ⟨LB,0,none⟩) n n]
 g6:L 7=true→Blk w XB 231 #[us 5,.slice (some ⟨DB,0,none⟩) n n,.slice (some ⟨LB,0,none⟩) n n]
 g7:L 5=false→L 4=true→(Value.slice A j c).ownBlock≠some (bk (us 4))
 g8:U≤w.heap.size
 f0:L 0=true→us 0 = .pointer (some ⟨XB,0,none⟩)
 f1:L 1=true→us 1 = .slice A j c
 f2:L 2=true→us 2 = .int .i64 n
 f3:L 3=true→us 3 = .slice (some ⟨bk (us 3),0,none⟩) n n
 f4:L 4=true→us 4 = .slice (some ⟨bk (us 4),0,none⟩) 1 1
 f5:L 5=true→us 5 = .slice (some ⟨bk (us 5),0,none⟩) (j+1) (slCap (us 5))
 f6:L 6=true→us 6 = .pointer (some ⟨XB,0,none⟩)
theorem Keep8.og{w:World}{DB LB OG FB U n j:Nat}{hs:Nat→Nat}{og:Nat→Bool}(h:Keep8 w DB LB OG FB U n j hs og)(hne:FB≠OG)(k:Nat)(v:Bool):Keep8 (w.setCell ⟨OG,k,none⟩ (.bool v)) DB LB OG FB U n j hs (setB og k v) :=
 ⟨Blk.far h.d (p:=⟨OG,k,none⟩) (fun e=>by cases e;exact absurd (Blk.types h.d h.o) (by decide)) _,Blk.far h.l (p:=⟨OG,k,none⟩) (fun e=>by cases e;exact absurd (Blk.types h.l h.o) (by decide)) _,h.o.set_ k v,
  Blk.far h.f (p:=⟨OG,k,none⟩) hne _,h.p.far (p:=⟨OG,k,none⟩) (fun i hi e=>by
   obtain⟨ex,hr⟩:=h.p.r i hi;rw[show hs i=OG from e] at hr
   exact absurd (Blk.types hr h.o) (by decide)) _⟩
theorem own_offT{w:World}{base:Nat}{e:TypeId}{size:Nat}{v:Value}{m:Nat}{xs:List Value}(h:w.ownsRow base e size v m xs){g:Nat}{t:TypeId}{cs:Array Value}(hb:Blk w g t cs)(ht:t≠e)(o:Nat)(u:Value):(w.setCell ⟨g,o,none⟩ u).ownsRow base e size v m xs :=
 own_only h ((Only.refl (fun r=>r=g) w).setCell (p:=⟨g,o,none⟩) (fun _=>rfl) u) (fun r hr e'=>by
  subst e';obtain⟨cs',h'⟩:=own_typed h hr
  exact ht (hb.types h'))
def ogF(gr:Nat→Bool)(j:Nat):Nat→Bool:=fun v=>if v<j then gr v else false
theorem ogF_next(gr:Nat→Bool)(j:Nat):setB (ogF gr j) j (gr j)=ogF gr (j+1):=by
 funext v;unfold setB ogF;by_cases h:v=j
 ·subst h;rw[if_pos rfl,if_pos (by omega)]
 ·rw[if_neg h];by_cases h1:v<j
  ·rw[if_pos h1,if_pos (by omega)]
  ·rw[if_neg h1,if_neg (by omega)]
def KF(DB LB FB:Nat)(hs:Nat→Nat)(n b:Nat):Prop:=b=DB∨b=LB∨b=FB ∨ ∃k,k<n∧b=hs k
def ROut(n:Nat)(f:Nat→Nat→Int)(gr:Nat→Bool)(put:Nat→Nat→Int)(d l:Nat→Int)(j DB LB FB U:Nat)(hs:Nat→Nat)(W6 w:World)(v:Value):Prop :=
 ∃b s2 d2 p2,v = .bool b∧PR w U hs n p2 n∧NRow w DB n d2∧NRow w LB n l∧BRow w FB n (fun _=>false)∧Only (KF DB LB FB hs n) W6 w ∧
  ((b=false∧d2=d∧p2=put∧WayNo n f gr (fun _=>false) put j s2)∨(b=true∧WayOk n f gr (fun _=>false) put d j 1 1 p2 d2))
structure Rp14(W0 W1:World)(XB LB DB OG n j cc pc:Nat)(lj:Int)(CA PA:Option Addr)(OUT:World→Value→Prop)(L:Nat→Bool)(us:Nat→Value)(w:World):Prop where
 x:Ext W0 w
 g0:L 13=false→Ext W1 w
 g1:L 12=true→L 13=false→W1.heap.size≤bk (us 12)∧BRow w (bk (us 12)) n fun _=>false
 g2:L 13=true→OUT w (us 13)
 g3:L 14=true→us 14=us 13
 f0:L 0=true→us 0 = .pointer (some ⟨XB,2,none⟩)
 f1:L 1=true→us 1 = .slice (some ⟨LB,0,none⟩) n n
 f2:L 2=true→us 2 = .int .i64 j
 f3:L 3=true→us 3 = .pointer (some ⟨LB,j,none⟩)
 f4:L 4=true→us 4 = .int .i64 lj
 f5:L 5=true→us 5 = .bool true
 f6:L 6=true→us 6 = .bool true
 f7:L 7=true→us 7 = .slice CA n cc
 f8:L 8=true→us 8 = .slice (some ⟨OG,0,none⟩) n n
 f9:L 9=true→us 9 = .agg #[.slice PA n pc,.slice (some ⟨DB,0,none⟩) n n,.slice (some ⟨LB,0,none⟩) n n]
 f10:L 10=true→us 10 = .int .i64 j
 f11:L 11=true→us 11 = .int .i64 n
 f12:L 12=true→us 12 = .slice (some ⟨bk (us 12),0,none⟩) n n
def RPushPost(ks:List Knd)(bs:List Brk)(tab:Int)(hands:List Int)(n:Nat)(w:World)(e:Ending)(w':World):Prop :=
 ∃v1 v2 FB S,e = .returned (.tuple #[v1,v2,.slice (some ⟨FB,0,none⟩) n n])∧BRow w' FB n S∧(∃put d l,Flow n (capV ks bs) (grF (grdL ks bs tab hands n)) (wtOf ks bs) put d l∧IsFall n (capV ks bs) (grF (grdL ks bs tab hands n)) put l S)∧Ext w w'
theorem rPushed_c(qs:List (Knd×KAt))(QA:Option Addr)(qc:Nat)(bs:List Brk)(B:Option Addr)(cb:Nat)(tab:Int)(HA:Option Addr)(hc:Nat)(hands:List Int)(w:World)(hk:Kinds w QA qc qs)(hb:Bricks w B cb bs)(hh:IntsZ w HA hc hands)(hcm:checkErr (qs.map (·.1)) bs=0) :
  Calls Tryz.prog 99 #[.slice QA qs.length qc,.agg #[.slice B bs.length cb],.agg #[.int .i64 tab,.slice HA hands.length hc]] w (RPushPost (qs.map (·.1)) bs tab hands bs.length w):=by
 have hf:=fit_of hk hb.2 hcm;have hnb:=hf.n;have hcs:=fun i k=>capV_small hf i k;have hw9: ∀i,i<bs.length→0≤wtOf (qs.map (·.1)) bs i∧wtOf (qs.map (·.1)) bs i≤100:=fun i hi=>by
  obtain⟨m,k,p,-,-,-,e,h1,h2⟩:=wt_parts hf hi;omega
 have HWT:=h_ (fun(i:Nat) (hi:i<bs.length) (W:World) (E:Ext w W)=>rWeight_c qs QA qc bs B cb W (hk.ext E) (hb.ext E) hf i hi);have HOG:=h_ (fun(i:Nat) (hi:i<bs.length) (W:World) (E:Ext w W)=>onGround_c qs QA qc bs B cb tab HA hc hands W (hk.ext E) (hb.ext E) (hh.ext E) hcm i hi);obtain⟨W1,hW1,E1,B1,hz1⟩:=mk_ w #[.slice B bs.length cb] 25;obtain⟨W2,hW2,E2,B2,hz2⟩:=mk_ W1 #[.int .i64 tab,.slice HA hands.length hc] 28;obtain⟨R,hR⟩:=nm w.heap.size;rw[hR] at B1 hz1;rw[hz1] at B2 hz2;have E:=E1.trans E2;have PT:=rPut_c qs QA qc bs B cb W2 (hk.ext E) (hb.ext E) hcm;have b1:=(B1.ext E2).cell;have b2:=B2.cell;obtain⟨ks,hks⟩:=nm (qs.map (·.1));rw[hks] at HWT HOG PT hcs hw9 ⊢;unfold PutPost at PT;obtain⟨n,hn⟩:=nm bs.length;rw[hn] at HWT HOG PT hnb hw9 B1 b1 hW1 ⊢;have hmk:=make_nums n (by omega);have hmkb:=make_bls n (by omega);obtain⟨i8,hi8,hz8,hz81,hz82⟩:=info_parts infoInts;have HR:=h_ hR;have HZ1:=h_ hz1;have Hw9:=h_ hw9;have Hcs:=h_ hcs;have HB1:=h_ (B1.ext E2);have HB2:=h_ B2;have HE:=h_ E;clear hk hb hh hcm hf hR hz1 hz2 hw9 hcs hks hn E B1 B2 E1 E2;go_enter Tryz.func99,Tryz.ntmps99
 go_upto_region 1 with(fail)
 rw[HR.out,HZ1.out];clear hW1 hW2;go_wp2_with fail;clear b1 b2;refine PT.mono ?_;rintro e W3 ⟨U,CA,cc,gs,f,hU,rfl,ownC,PRC,hfv,E3⟩;have HCsz:=E3.size;have HUn:=h_ hU;have HE3:=h_ (HE.out.trans E3);have HB13:=h_ (HB1.out.ext E3);have HB23:=h_ (HB2.out.ext E3);have HownC:=h_ ownC;have HPRC:=h_ PRC;have Hfv:=h_ hfv;clear hU ownC PRC hfv E3 PT HB1 HB2 HCsz
 go_upto_region 3 with(fail)
 refine wp_region_byF (Rp3 W3 n) (by intro us;simp only[putAll,Act.put,zs,Nat.reduceAdd];rfl) (by kernel_rfl) (by kernel_rfl) (by kernel_rfl) ⟨(Ext.refl W3).drew,(nofun),(nofun),(nofun),(nofun),(nofun),(nofun),(nofun),(nofun),(nofun)⟩ ⟨?_,?_,?_,?_,?_,?_,trivial⟩ ?_
 any_goals (intro L us wx K a ha hp hd hun hI hK;replace hp:=h_ hp;replace hd:=h_ hd;dsimp only at ha;subst ha;simp only[Act.put,zs] at hK)
 ·go_simp;exact hK _ _ {hI with f0:=fun _=>rfl}
 ·have hmk1:=hmkb wx;have h4:L 4=false:=bfl (hd.out 4 1 · (by kernel_rfl)) hun;have EW:Ext wx (wx.alloc (.cells (vsA n fun _=> .bool false) 4)):=(Ext.refl wx).alloc _;have NW:=BRow.new n wx;have hsz:=hI.x.size;rw[hI.f0 (h_p hp 0)] at hK ⊢;go_simp;exact hK _ _ ⟨hI.x.trans EW,(fun _=>⟨hsz,NW⟩),(fun h=>⟨(hI.g2 h).1,(hI.g2 h).2.ext EW⟩),(fun _ h3 e=>by have h7:=Blk.lt (hI.g2 h3).2;have e':wx.heap.size=bk (us 3):=e;omega),hI.f0,(fun _=>rfl),hI.f2,hI.f3,(fun h=>absurd (show L 4=true from h) (by rw[h4];decide)),hI.f5⟩
 ·go_simp;exact hK _ _ {hI with f2:=fun _=>rfl}
 ·have hmk1:=hmkb wx;have h5:L 5=false:=bfl (hd.out 5 3 · (by kernel_rfl)) hun;have EW:Ext wx (wx.alloc (.cells (vsA n fun _=> .bool false) 4)):=(Ext.refl wx).alloc _;have NW:=BRow.new n wx;have hsz:=hI.x.size;rw[hI.f2 (h_p hp 2)] at hK ⊢;go_simp;exact hK _ _ ⟨hI.x.trans EW,(fun h=>⟨(hI.g1 h).1,(hI.g1 h).2.ext EW⟩),(fun _=>⟨hsz,NW⟩),(fun h1 _ e=>by have h7:=Blk.lt (hI.g1 h1).2;have e':bk (us 1)=wx.heap.size:=e;omega),hI.f0,hI.f1,hI.f2,(fun _=>rfl),hI.f4,(fun h=>absurd (show L 5=true from h) (by rw[h5];decide))⟩
 ·have u3:=hI.f1 (h_p hp 1);obtain⟨g3,hg3⟩:=nm (bk (us 1));rw[hg3] at u3;rw[u3] at hK ⊢;have U3:=h_ hg3;clear u3 hg3;go_simp;exact hK _ _ ⟨hI.x,hI.g1,hI.g2,hI.g3,hI.f0,hI.f1,hI.f2,hI.f3,(fun _=>congrArg (fun b:Nat=>Value.slice (some ⟨b,0,none⟩) n n) U3.out.symm),hI.f5⟩
 ·have u3:=hI.f3 (h_p hp 3);obtain⟨g3,hg3⟩:=nm (bk (us 3));rw[hg3] at u3;rw[u3] at hK ⊢;have U3:=h_ hg3;clear u3 hg3;go_simp;exact hK _ _ ⟨hI.x,hI.g1,hI.g2,hI.g3,hI.f0,hI.f1,hI.f2,hI.f3,hI.f4,(fun _=>congrArg (fun b:Nat=>Value.slice (some ⟨b,0,none⟩) n n) U3.out.symm)⟩
 intro L us W4 hall hI;have D1:=hI.g1 (hall 1 (by simp));have D3:=hI.g2 (hall 3 (by simp));have hne:=hI.g3 (hall 1 (by simp)) (hall 3 (by simp));have u4:=hI.f4 (hall 4 (by simp));have u5:=hI.f5 (hall 5 (by simp));have E34:=hI.x;obtain⟨OG,hOG⟩:=nm (bk (us 1));obtain⟨FB,hFB⟩:=nm (bk (us 3));rw[hOG] at D1 hne u4;rw[hFB] at D3 hne u5;simp only[u4,u5];clear hall hI hOG hFB u4 u5
 go_upto_region 4 with(fail)
 refine wp_region_byF (Rp4 W4 n) (by intro us;simp only[putAll,Act.put,zs,Nat.reduceAdd];rfl) (by kernel_rfl) (by kernel_rfl) (by kernel_rfl) ⟨(Ext.refl W4).drew,(nofun),(nofun),(nofun),(nofun),(nofun),(nofun),(nofun),(nofun),(nofun),(nofun),(nofun)⟩ ⟨?_,?_,?_,?_,?_,?_,?_,trivial⟩ ?_
 any_goals (intro L us wx K a ha hp hd hun hI hK;replace hp:=h_ hp;replace hd:=h_ hd;dsimp only at ha;subst ha;simp only[Act.put,zs] at hK)
 ·go_simp;exact hK _ _ {hI with f0:=fun _=>rfl}
 ·have hmk1:=hmk wx;have h4:L 4=false:=bfl (hd.out 4 1 · (by kernel_rfl)) hun;have h6:L 6=false:=bfl (hd.out 6 4 · (by kernel_rfl)) h4;have EW:Ext wx (wx.alloc (.cells (zeroA n) 3)):=(Ext.refl wx).alloc _;have NW:=NRow.new n wx;have hsz:=hI.x.size;rw[hI.f0 (h_p hp 0)] at hK ⊢;go_simp;exact hK _ _ ⟨hI.x.trans EW,(fun _=>⟨hsz,NW⟩),(fun h=>⟨(hI.g2 h).1,(hI.g2 h).2.ext EW⟩),(fun _ h3 e=>by have h7:=Blk.lt (hI.g2 h3).2;have e':wx.heap.size=bk (us 3):=e;omega),(fun h h'=>⟨(hI.g4 h h').1,(hI.g4 h h').2.ext EW⟩),(fun h=>absurd (show L 6=true from h) (by rw[h6];decide)),hI.f0,(fun _=>rfl),hI.f2,hI.f3,(fun h=>absurd (show L 4=true from h) (by rw[h4];decide)),hI.f5⟩
 ·go_simp;exact hK _ _ {hI with f2:=fun _=>rfl}
 ·have hmk1:=hmk wx;have h4:L 4=false:=bfl (hd.out 4 3 · (by kernel_rfl)) hun;have h6:L 6=false:=bfl (hd.out 6 4 · (by kernel_rfl)) h4;have EW:Ext wx (wx.alloc (.cells (zeroA n) 3)):=(Ext.refl wx).alloc _;have NW:=NRow.new n wx;have hsz:=hI.x.size;rw[hI.f2 (h_p hp 2)] at hK ⊢;go_simp;exact hK _ _ ⟨hI.x.trans EW,(fun h=>⟨(hI.g1 h).1,(hI.g1 h).2.ext EW⟩),(fun _=>⟨hsz,NW⟩),(fun h1 _ e=>by have h7:=Blk.lt (hI.g1 h1).2;have e':bk (us 1)=wx.heap.size:=e;omega),(fun h h'=>⟨(hI.g4 h h').1,(hI.g4 h h').2.ext EW⟩),(fun h=>absurd (show L 6=true from h) (by rw[h6];decide)),hI.f0,hI.f1,hI.f2,(fun _=>rfl),(fun h=>absurd (show L 4=true from h) (by rw[h4];decide)),hI.f5⟩
 ·have u1:=hI.f1 (h_p hp 1);have u3:=hI.f3 (h_p hp 3);obtain⟨g1,hg1⟩:=nm (bk (us 1));obtain⟨g3,hg3⟩:=nm (bk (us 3));rw[hg1] at u1;rw[hg3] at u3;rw[u1,u3] at hK ⊢;have U1:=h_ hg1;have U3:=h_ hg3;clear u1 u3 hg1 hg3;go_simp;exact hK _ _ ⟨hI.x,hI.g1,hI.g2,hI.g3,hI.g4,hI.g5,hI.f0,hI.f1,hI.f2,hI.f3,(fun _=>congr (congrArg (fun(b c:Nat)=>Value.agg #[.slice none 0 0,.slice (some ⟨b,0,none⟩) n n,.slice (some ⟨c,0,none⟩) n n]) U1.out.symm) U3.out.symm),hI.f5⟩
 ·have h6:L 6=false:=bfl (hd.out 6 5 · (by kernel_rfl)) hun;have EW:Ext wx (wx.alloc (.cells #[.slice none 0 0,.slice none 0 0,.slice none 0 0] 231)):=(Ext.refl wx).alloc _;have hsz:=hI.x.size;go_simp;exact hK _ _ ⟨hI.x.trans EW,(fun h=>⟨(hI.g1 h).1,(hI.g1 h).2.ext EW⟩),(fun h=>⟨(hI.g2 h).1,(hI.g2 h).2.ext EW⟩),hI.g3,(fun _ _=>⟨hsz,Blk.new _ _ _⟩),(fun h=>absurd (show L 6=true from h) (by rw[h6];decide)),hI.f0,hI.f1,hI.f2,hI.f3,hI.f4,(fun _=>rfl)⟩
 ·have h5:=h_p hp 5;have h4:=h_p hp 4;have u4:=hI.f4 h4;have u5:=hI.f5 h5;obtain⟨hge,hb⟩:=hI.g4 h5 hun;have hn1: ∀h1,bk (us 1)≠bk (us 5):=fun h1 e=>by have h7:=(hI.g1 h1).2;rw[e] at h7;exact absurd (Blk.types h7 hb) (by decide)
  have hn3: ∀h3,bk (us 3)≠bk (us 5):=fun h3 e=>by have h7:=(hI.g2 h3).2;rw[e] at h7;exact absurd (Blk.types h7 hb) (by decide)
  obtain⟨g5,hg5⟩:=nm (bk (us 5));obtain⟨g1,hg1⟩:=nm (bk (us 1));obtain⟨g3,hg3⟩:=nm (bk (us 3));rw[hg5] at u5 hge hb hn1 hn3;rw[hg1,hg3] at u4;have cb:=hb.cell;have fb:=hb.frozen;have BV:=((hb.set_ 0 (.slice none 0 0)).set_ 1 (.slice (some ⟨g1,0,none⟩) n n)).set_ 2 (.slice (some ⟨g3,0,none⟩) n n);have EV:=((hI.x.setCell (p:=⟨g5,0,none⟩) (by simp only;omega) (.slice none 0 0)).setCell (p:=⟨g5,1,none⟩) (by simp only;omega) (.slice (some ⟨g1,0,none⟩) n n)).setCell (p:=⟨g5,2,none⟩) (by simp only;omega) (.slice (some ⟨g3,0,none⟩) n n);have A1:=fun h=>Blk.far (Blk.far (Blk.far (hI.g1 h).2 (p:=⟨g5,0,none⟩) (hn1 h) (.slice none 0 0)) (p:=⟨g5,1,none⟩) (hn1 h) (.slice (some ⟨g1,0,none⟩) n n)) (p:=⟨g5,2,none⟩) (hn1 h) (.slice (some ⟨g3,0,none⟩) n n);have A3:=fun h=>Blk.far (Blk.far (Blk.far (hI.g2 h).2 (p:=⟨g5,0,none⟩) (hn3 h) (.slice none 0 0)) (p:=⟨g5,1,none⟩) (hn3 h) (.slice (some ⟨g1,0,none⟩) n n)) (p:=⟨g5,2,none⟩) (hn3 h) (.slice (some ⟨g3,0,none⟩) n n);obtain⟨V,hV⟩:=nm (((wx.setCell ⟨g5,0,none⟩ (.slice none 0 0)).setCell ⟨g5,1,none⟩ (.slice (some ⟨g1,0,none⟩) n n)).setCell ⟨g5,2,none⟩ (.slice (some ⟨g3,0,none⟩) n n));rw[hV] at BV EV A1 A3;have BV':W4.heap.size≤bk (us 5)∧Blk V (bk (us 5)) 231 #[.slice none 0 0,.slice (some ⟨bk (us 1),0,none⟩) n n,.slice (some ⟨bk (us 3),0,none⟩) n n]:=by
   rw[hg5,hg1,hg3];exact⟨hge,BV⟩
  rw[u4,u5] at hK ⊢;clear hg5 hg1 hg3 u4 u5 hge hb hn1 hn3 BV;go_simp;exact hK undef _ ⟨EV,(fun h=>⟨(hI.g1 h).1,A1 h⟩),(fun h=>⟨(hI.g2 h).1,A3 h⟩),hI.g3,(fun _ h=>nomatch (show true=false from h)),(fun _=>BV'),hI.f0,hI.f1,hI.f2,hI.f3,hI.f4,hI.f5⟩
 intro L us W5 hall hI;have F1:=hI.g1 (hall 1 (by simp));have F3:=hI.g2 (hall 3 (by simp));have F5:=hI.g5 (hall 6 (by simp));have hne2:=hI.g3 (hall 1 (by simp)) (hall 3 (by simp));have u5:=hI.f5 (hall 5 (by simp));have E45:=hI.x;obtain⟨DB,hDB⟩:=nm (bk (us 1));obtain⟨LB,hLB⟩:=nm (bk (us 3));obtain⟨XB,hXB⟩:=nm (bk (us 5));rw[hDB] at F1 F5 hne2;rw[hLB] at F3 F5 hne2;rw[hXB] at F5 u5;simp only[u5];clear hall hI hDB hLB hXB u5;have E35:=E34.trans E45;obtain⟨U2,hU2⟩:=nm W5.heap.size;have hsz3:W3.heap.size≤U2:=by rw[←hU2];exact E35.size
 have hsz4:=E34.size;have hOGl:=Blk.lt D1.2;have hFBl:=Blk.lt D3.2;have hDBl:=Blk.lt F1.2;have hLBl:=Blk.lt F3.2;have hXBl:=Blk.lt F5.2;rw[hU2] at hDBl hLBl hXBl;have hXD:XB≠DB:=fun e=>absurd (Blk.types (e▸F5.2) F1.2) (by decide);have hXL:XB≠LB:=fun e=>absurd (Blk.types (e▸F5.2) F3.2) (by decide);obtain⟨gr,hgr⟩:=nm (grdB ks bs tab hands);have K0:Keep8 W5 DB LB OG FB U2 n 0 (fun _=>0) (ogF gr 0) :=
  ⟨F1.2,F3.2,BRow.congr (D1.2.ext E45) (fun k _=>if_neg (Nat.not_lt_zero _)),D3.2.ext E45,PR.zero⟩
 have n1:OG<U2:=by have:=E45.size;omega
 have n2:FB<U2:=by have:=E45.size;omega
 have n3:=hDBl;have n4:=hLBl;have n5:OG<DB:=by have:=F1.1;omega
 have n6:FB<DB:=by have:=F1.1;omega
 have n7:OG<LB:=by have:=F3.1;omega
 have n8:FB<LB:=by have:=F3.1;omega
 have n9:W3.heap.size≤OG:=D1.1;have m1:W3.heap.size≤FB:=D3.1;have m2:W3.heap.size≤XB:=by have:=F5.1;omega
 have m3:OG≠XB:=by have:=F5.1;omega
 have m4:FB≠XB:=by have:=F5.1;omega
 have BX5:=F5.2;obtain⟨N3,hN3⟩:=nm W3.heap.size;rw[hN3] at n9 m1 m2 hsz3;have HXU:=h_ hXBl;have HN3:=h_ hN3;have HU2:=h_ hU2;have HK0:=h_ K0;have HNN:=h_ (And.intro n1 (And.intro n2 (And.intro n3 (And.intro n4 (And.intro n5 (And.intro n6 (And.intro n7 (And.intro n8 (And.intro n9 (And.intro m1 (And.intro m2 (And.intro m3 (And.intro m4 (And.intro hne (And.intro hne2 (And.intro hXD (And.intro hXL hsz3)))))))))))))))));have Hgr:=h_ hgr;have HBX:=h_ BX5;have HE35:=h_ E35;rw[hgr] at HOG;clear K0 n1 n2 n3 n4 n5 n6 n7 n8 n9 m1 m2 m3 m4 hne hne2 hXD hXL hsz3 hsz4 hOGl hFBl hDBl hLBl hXBl hN3 hU2 hgr BX5 E34 E45 E35 D1 D3 F1 F3 F5;go_wp2_with fail;go_loopw [14] (fun ii wr=> ∃(j:Nat) (hs:Nat→Nat) (A:Option Addr) (c:Nat),j≤n∧ii = .int .i64 j∧Keep8 wr DB LB OG FB U2 n j hs (ogF gr j)∧Blk wr XB 231 #[.slice A j c,.slice (some ⟨DB,0,none⟩) n n,.slice (some ⟨LB,0,none⟩) n n]∧wr.ownsRow U2 26 1 (.slice A j c) j (plC hs (fun _=>n) j)∧Ext W3 wr∧U2≤wr.heap.size) (fun ii _=>n-(intOf ii).toNat)
 case atStart=>exact⟨0,_,none,0,by omega,rfl,HK0.out,HBX.out,World.ownsRow_nil _ _ _ _,HE35.out,Nat.le_of_eq HU2.out.symm⟩
 case round =>
  clear HK0 HBX HE35;obtain⟨j,hs,A,c,hj,rfl,KP,BX,own,Er,hUr⟩:=hrel;by_cases hjn:j<n
  ·have Ed:Ext wr wr.drew:=(Ext.refl wr).drew;have hjl:j+1≤maxLen:=by unfold maxLen;omega
   have hUr':U2≤wr.drew.heap.size:=hUr
   go_upto_region 8 with(fail)
   refine wp_region_byF (Rp8 W3 XB U2 n j DB LB OG FB hs (ogF gr j) A c) (by intro us;simp only[putAll,Act.put,zs,Nat.reduceAdd];rfl) (by kernel_rfl) (by kernel_rfl) (by kernel_rfl) ⟨Er.trans Ed,KP.ext Ed,(nofun),(nofun),(fun _=>own_ext own Ed),(nofun),(fun _=>BX.ext Ed),(nofun),(fun _ h=>nomatch (show false=true from h)),hUr',(nofun),(nofun),(nofun),(nofun),(nofun),(nofun),(nofun)⟩ ⟨?_,?_,?_,?_,?_,?_,?_,?_,trivial⟩ ?_
   all_goals clear KP BX own Er Ed hUr hUr'
   any_goals (intro L us wx K a ha hp hd hun hI hK;replace hp:=h_ hp;replace hd:=h_ hd;dsimp only at ha;subst ha;simp only[Act.put,zs] at hK)
   ·go_simp;exact hK _ _ {hI with f0:=fun _=>rfl}
   ·have h5:L 5=false:=bfl (hd.out 5 1 · (by kernel_rfl)) hun;have h7:L 7=false:=bfl (hd.out 7 5 · (by kernel_rfl)) h5;have bb:=(hI.g5 h7).cell;rw[hI.f0 (h_p hp 0)] at hK ⊢;go_simp;exact hK _ _ {hI with f1:=fun _=>rfl}
   ·go_simp;exact hK _ _ {hI with f2:=fun _=>rfl}
   ·have hmk1:=hmk wx;have h4:L 4=false:=bfl (hd.out 4 3 · (by kernel_rfl)) hun;have h5:L 5=false:=bfl (hd.out 5 4 · (by kernel_rfl)) h4;have EW:Ext wx (wx.alloc (.cells (zeroA n) 3)):=(Ext.refl wx).alloc _;have NW:=NRow.new n wx;have hU8:=hI.g8;have hsl: ∀i,i<j→hs i≠wx.heap.size:=fun i hi e=>by have:=(hI.g0.p.r i hi).lt;omega
    have hU9:=Nat.le_trans hU8 EW.size;rw[hI.f2 (h_p hp 2)] at hK ⊢;go_simp;exact hK _ _ ⟨hI.x.trans EW,hI.g0.ext EW,(fun _=>⟨⟨hU8,NW⟩,hsl⟩),(fun h=>absurd (show L 4=true from h) (by rw[h4];decide)),(fun h=>own_ext (hI.g3 h) EW),(fun h=>absurd (show L 5=true from h) (by rw[h5];decide)),(fun h=>(hI.g5 h).ext EW),(fun h=>(hI.g6 h).ext EW),hI.g7,hU9,hI.f0,hI.f1,hI.f2,(fun _=>rfl),hI.f4,hI.f5,hI.f6⟩
   ·have u3:=hI.f3 (h_p hp 3);have h5:L 5=false:=bfl (hd.out 5 4 · (by kernel_rfl)) hun;obtain⟨g3,hg3⟩:=nm (bk (us 3));rw[hg3] at u3;have EW:Ext wx (wx.alloc (.cells #[.slice (some ⟨g3,0,none⟩) n n] 26)):=(Ext.refl wx).alloc _;have hU9:=Nat.le_trans hI.g8 EW.size;have NB:Blk (wx.alloc (.cells #[.slice (some ⟨g3,0,none⟩) n n] 26)) wx.heap.size 26 #[.slice (some ⟨g3,0,none⟩) n n]:=Blk.new _ _ _;have hol: ∀h,(Value.slice A j c).ownBlock≠some wx.heap.size:=fun h e=>by have:=((hI.g3 h).lt _ e).2;exact absurd this (Nat.lt_irrefl _)
    rw[u3] at hK ⊢;have U3:=h_ hg3;clear u3 hg3;go_simp;exact hK _ _ ⟨hI.x.trans EW,hI.g0.ext EW,(fun h=>⟨⟨(hI.g1 h).1.1,(hI.g1 h).1.2.ext EW⟩,(hI.g1 h).2⟩),(fun _ _=>U3.out▸NB),(fun h=>own_ext (hI.g3 h) EW),(fun h=>absurd (show L 5=true from h) (by rw[h5];decide)),(fun h=>(hI.g5 h).ext EW),(fun h=>(hI.g6 h).ext EW),(fun h _=>hol h),hU9,hI.f0,hI.f1,hI.f2,hI.f3,(fun _=>rfl),hI.f5,hI.f6⟩
   ·have h4:=h_p hp 4;have h3:=hd.out 4 3 h4 (by kernel_rfl);have u4:=hI.f4 h4;have own:=hI.g3 hun;have hb:=hI.g2 h4 hun;have hne:=hI.g7 hun h4;have hU8:=hI.g8;have h7:L 7=false:=bfl (hd.out 7 5 · (by kernel_rfl)) hun;obtain⟨g4,hg4⟩:=nm (bk (us 4));obtain⟨g3,hg3⟩:=nm (bk (us 3));rw[hg4] at u4 hb hne;rw[hg3] at hb;have hS:SliceIs wx (some ⟨g4,0,none⟩) 1 1 1 [[.slice (some ⟨g3,0,none⟩) n n]]:=(rowX_of_blk (rows:= [[.slice (some ⟨g3,0,none⟩) n n]]) hb).slice (fun r hr=>by rw[List.mem_singleton] at hr;subst hr;rfl) rfl (Nat.le_refl _) (by unfold maxLen;omega);rw[hI.f1 (h_p hp 1),u4] at hK ⊢;refine step_append_any rfl (.tmp 40) (.tmp 43) 185 rfl U2 26 i8 _ 1 24 Tryz.underlying185 hi8 hz8 hz81 hz82 rfl (by decide) (.slice A j c) j (plC hs (fun _=>n) j) rfl own (some ⟨g4,0,none⟩) 1 1 [[.slice (some ⟨g3,0,none⟩) n n]] rfl hS (nofun) (fun u hu=> ?_) (by unfold maxLen;omega) (by omega) hU8 ?_
    ·simp only[List.flatten_cons,List.flatten_nil,List.append_nil,List.mem_singleton] at hu;subst hu;rfl
    ·intro v' w' own' hg';obtain⟨g6,c6,hv6⟩: ∃g c,v' = .slice (some ⟨g,0,none⟩) (j+1) c:=by
      rcases own'.2 with⟨-,h0⟩|⟨g,cap,cur,hv,-⟩
      ·omega
      ·exact⟨g,cap,hv⟩
     subst hv6;exact hK _ _ ⟨hI.x.grown hg' (fun k hk=>by have:=(own.lt k hk).1;have:=HNN.out.2.2.2.2.2.2.2.2.2.2.2.2.2.2.2.2.2;have:=HN3.out;omega),hI.g0.grown own hg',(fun h=>⟨⟨(hI.g1 h).1.1,blkGrown (hI.g1 h).1.2 own hg' (by decide)⟩,(hI.g1 h).2⟩),(fun _ h=>nomatch (show true=false from h)),(fun h=>nomatch (show true=false from h)),(fun _=>hg3▸own'),(fun h=>blkGrown (hI.g5 h) own hg' (by decide)),(fun h=>absurd (show L 7=true from h) (by rw[h7];decide)),(fun h=>nomatch (show true=false from h)),Nat.le_trans hU8 hg'.size,hI.f0,hI.f1,hI.f2,hI.f3,hI.f4,(fun _=>rfl),hI.f6⟩
   ·go_simp;exact hK _ _ {hI with f6:=fun _=>rfl}
   ·have h5:=h_p hp 5;have u5:=hI.f5 h5;have u6:=hI.f6 (h_p hp 6);have own:=hI.g4 h5;have hb:=hI.g5 hun;have KP:=hI.g0;have hX3:W3.heap.size≤XB:=by have:=HNN.out.2.2.2.2.2.2.2.2.2.2.1;have:=HN3.out;omega
    obtain⟨g5,hg5⟩:=nm (bk (us 5));obtain⟨c5,hc5⟩:=nm (slCap (us 5));rw[hg5,hc5] at u5;have cb:=hb.cell;have fb:=hb.frozen;have BV:=hb.set_ 0 (.slice (some ⟨g5,0,none⟩) (j+1) c5);have EV:=hI.x.setCell (p:=⟨XB,0,none⟩) hX3 (.slice (some ⟨g5,0,none⟩) (j+1) c5);have KV:=KP.box hb 0 (.slice (some ⟨g5,0,none⟩) (j+1) c5);have OV:=own_offT own hb (by decide) 0 (.slice (some ⟨g5,0,none⟩) (j+1) c5);have RV:=fun h=>Blk.far (hI.g1 h).1.2 (p:=⟨XB,0,none⟩) (fun e=>by have h7:=(hI.g1 h).1.2;rw[show bk (us 3)=XB from e] at h7;exact absurd (Blk.types h7 hb) (by decide)) (.slice (some ⟨g5,0,none⟩) (j+1) c5);have hU9:U2≤(wx.setCell ⟨XB,0,none⟩ (.slice (some ⟨g5,0,none⟩) (j+1) c5)).heap.size:=by
     have:=hI.g8
     simpa [World.setCell] using this
    obtain⟨V,hV⟩:=nm (wx.setCell ⟨XB,0,none⟩ (.slice (some ⟨g5,0,none⟩) (j+1) c5));rw[hV] at BV EV KV OV RV hU9;have BV':Blk V XB 231 #[us 5,.slice (some ⟨DB,0,none⟩) n n,.slice (some ⟨LB,0,none⟩) n n]:=by
     rw[u5];exact BV
    rw[u5,u6] at hK ⊢;clear hg5 hc5 u5 u6 BV KP;go_simp;exact hK undef _ ⟨EV,KV,(fun h=>⟨⟨(hI.g1 h).1.1,RV h⟩,(hI.g1 h).2⟩),(fun _ h=>absurd (show L 5=false from h) (by rw[h5];decide)),(fun h=>absurd (show L 5=false from h) (by rw[h5];decide)),(fun _=>OV),(fun h=>nomatch (show true=false from h)),(fun _=>BV'),(fun h=>absurd (show L 5=false from h) (by rw[h5];decide)),hU9,hI.f0,hI.f1,hI.f2,hI.f3,hI.f4,hI.f5,hI.f6⟩
   intro L us W8 hall hI;have KP:=hI.g0;have N3:=hI.g1 (hall 3 (by simp));have own:=hI.g4 (hall 5 (by simp));have BX:=hI.g6 (hall 7 (by simp));have u5:=hI.f5 (hall 5 (by simp));have E38:=hI.x;have hU8:=hI.g8;obtain⟨g3,hg3⟩:=nm (bk (us 3));obtain⟨g5,hg5⟩:=nm (bk (us 5));obtain⟨c5,hc5⟩:=nm (slCap (us 5));rw[hg5,hc5] at u5;rw[hg3] at N3 own;rw[u5] at own BX;clear hall hI hg3 hg5 hc5 u5;have PRn:=KP.p.add N3.1.1 N3.1.2.num N3.2;have hpl:plC (updF hs j g3) (fun _=>n) (j+1)=plC hs (fun _=>n) j ++ [.slice (some ⟨g3,0,none⟩) n n]:=by rw[plC_succ,plC_upd (fun i hi=>updF_ne _ _ (by omega)),updF_at]
   rw[←hpl] at own;have K9:Keep8 W8 DB LB OG FB U2 n (j+1) (updF hs j g3) (ogF gr j):=⟨KP.d,KP.l,KP.o,KP.f,PRn⟩;have HK9:=h_ K9;have HO9:=h_ own;have HB9:=h_ BX;have HE9:=h_ E38;have OGj:=HOG.out j hjn W8 (HE3.out.trans E38);have b1:=(HB13.out.ext E38).cell;have b2:=(HB23.out.ext E38).cell;have j0:(0:Int)≤j:=by omega
   have j1:(j:Int)<n:=by omega
   obtain⟨gj,hgj⟩:=nm (gr j);rw[hgj] at OGj;have Hgj:=h_ hgj;clear KP N3 own BX E38 PRn hpl K9 hgj;go_wp2_with fail;clear b1 b2;refine OGj.mono ?_;rintro e W10 ⟨rfl,E10⟩;have K10:=HK9.out.ext E10;have co:=K10.o.cell hjn;have fo:=Blk.frozen K10.o j;have K11:=h_ (K10.og (by have:=HNN.out.2.2.2.2.2.2.2.2.2.2.2.2.2.1;exact Ne.symm this) j gj);have e11:setB (ogF gr j) j gj=ogF gr (j+1):=by rw[←Hgj.out];exact ogF_next gr j
   rw[e11] at K11;have B11:=h_ (Blk.far (HB9.out.ext E10) (p:=⟨OG,j,none⟩) (Ne.symm HNN.out.2.2.2.2.2.2.2.2.2.2.2.1) (.bool gj));have O11:=h_ (own_offT (own_ext HO9.out E10) K10.o (by decide) j (.bool gj));have X11:=h_ ((HE9.out.trans E10).setCell (p:=⟨OG,j,none⟩) (by have:=HNN.out.2.2.2.2.2.2.2.2.1;have:=HN3.out;show W3.heap.size≤OG;omega) (.bool gj));have U11:U2≤(W10.setCell ⟨OG,j,none⟩ (.bool gj)).heap.size:=by
    have:=Nat.le_trans hU8 E10.size
    simpa [World.setCell] using this
   have HU11:=h_ U11;clear K10 E10 OGj e11 hU8 U11;go_wp2_with fail;go_roundw
   case rel=>exact⟨j+1,_,_,_,by omega,by go_num,K11.out,B11.out,O11.out,X11.out,HU11.out⟩
   case measure=>simp only[intOf];omega
  ·obtain rfl:j=n:=by omega
   obtain⟨W6,rfl⟩: ∃W6:World,W6=wr:=⟨_,rfl⟩;obtain⟨n1,n2,n3,n4,n5,n6,n7,n8,n9,m1,m2,m3,m4,hne,hne2,hXD,hXL,hsz3⟩:=HNN.out;have hN3:=HN3.out;have hXU:=HXU.out;have HGr:BRow W6 OG j gr:=KP.o.congr fun k hk=>(if_pos hk).symm;have wide1: ∀(g:Nat→Nat) r,r∈rowsV g j→r.length=1:=fun g r hr=>by obtain⟨v,-,rfl⟩:=List.mem_map.1 hr;rfl
   have len1: ∀g:Nat→Nat,(rowsV g j).length=j:=fun g=>by unfold rowsV plC;simp
   have HPs:SliceIs W6 A j c 1 (rowsV hs j):=by
    obtain⟨A',c',e,h1,-⟩:=own_slice0 (wide1 hs) (len1 hs) (by unfold rowsV;rw[flat_ones];exact own);cases e;exact h1
   have HCs:SliceIs W6 CA j cc 1 (rowsV gs j):=by
    obtain⟨A',c',e,h1,-⟩:=own_slice0 (wide1 gs) (len1 gs) (by unfold rowsV;rw[flat_ones];exact HownC.out);cases e;exact h1.ext Er
   have hCA: ∀q,CA=some q→0<j→q.block<N3:=fun q hq h0=>by
    obtain⟨b,off,h1,h2,-⟩:=SliceIs.cells (show SliceIs W3 CA j cc 1 (rowsV gs j) by
     obtain⟨A',c',e,h1,-⟩:=own_slice0 (wide1 gs) (len1 gs) (by unfold rowsV;rw[flat_ones];exact HownC.out);cases e
     exact h1) h0
    rw[hq] at h1;cases h1;show b<N3
    omega
   have hPRC:=HPRC.out.ext Er;have hgs: ∀k,k<j→gs k<N3:=fun k hk=>by have:=(HPRC.out.r k hk).lt;omega
   have hhs: ∀k,k<j→U2≤hs k∧hs k<W6.heap.size:=fun k hk=>⟨KP.p.lo k hk,(KP.p.r k hk).lt⟩;have hPA: ∀q,A=some q→0<j→U2≤q.block∧q.block<W6.heap.size ∧ ∀k,k<j→q.block≠hs k:=fun q hq h0=>by
    rcases own.2 with⟨hv,h1⟩|⟨g,cap,cur,hv,hg,hh,-⟩
    ·omega
    ·simp only[Value.slice.injEq] at hv;rw[hv.1] at hq;cases hq;refine⟨hg,(Array.getElem?_eq_some_iff.1 hh).1,fun k hk e=> ?_⟩;obtain⟨ex,hr⟩:=KP.p.r k hk;rw[←show g=hs k from e] at hr;exact absurd (Blk.types (show Blk W6 g _ _ from hh) hr) (by decide)
   have hKF: ∀b,KF DB LB FB hs j b→N3≤b:=by
    rintro b (rfl|rfl|rfl|⟨k,hk,rfl⟩)
    ·omega
    ·omega
    ·omega
    ·have:=(hhs k hk).1;omega
   have hkX: ¬KF DB LB FB hs j XB:=by
    rintro(h|h|h|⟨k,hk,h⟩)
    ·exact hXD h
    ·exact hXL h
    ·exact m4 h.symm
    ·have:=(hhs k hk).1;omega
   have hkO: ¬KF DB LB FB hs j OG:=by
    rintro(h|h|h|⟨k,hk,h⟩)
    ·omega
    ·omega
    ·exact hne h
    ·have:=(hhs k hk).1;omega
   have HENV: ∀(w':World) (SB:Nat),Only (KF DB LB FB hs j) W6 w'→W6.heap.size≤SB→SB<w'.heap.size→REnv w' CA cc U gs (some ⟨OG,0,none⟩) j (grdL ks bs tab hands j) A c hs SB DB j f:=fun w' SB O hS1 hS2=>by
    have hR: ∀b,RKs SB DB hs j b→b=SB∨KF DB LB FB hs j b:=fun b hb=>by
     rcases hb with h|h|h
     ·exact Or.inl h
     ·exact Or.inr (Or.inl h)
     ·exact Or.inr (Or.inr (Or.inr (Or.inr h)))
    refine⟨SliceIs.only0 HCs O (fun q hq h0 h=> ?_),hPRC.only O (fun k hk h=> ?_),?_,SliceIs.only0 HPs O (fun q hq h0 h=> ?_),fun b hb=> ?_,fun q hq h0 h=> ?_,fun k hk h=> ?_,fun q hq h=> ?_,fun q hq h0 h=> ?_,by omega,fun k hk=> ?_,fun k hk=> ?_⟩
    ·have:=hCA q hq h0;have:=hKF _ h;omega
    ·have:=hgs k hk;have:=hKF _ h;omega
    ·have:=(show BRow w' OG j gr from Blk.only HGr O hkO).slice (by omega);show SliceIs _ _ _ _ _ _
     rw[grdL_len,grdL,Hgr.out,List.map_map];exact this
    ·have:=hPA q hq h0;rcases h with h|h|h|⟨k,hk,h⟩
     ·omega
     ·omega
     ·omega
     ·exact this.2.2 k hk h
    ·rcases hb with h|h|⟨k,hk,h⟩
     ·omega
     ·have:=O.size;have:=hUr;omega
     ·have:=(hhs k hk).2;have:=O.size;omega
    ·rcases hR _ h with h|h
     ·have:=hCA q hq h0;omega
     ·have:=hCA q hq h0;have:=hKF _ h;omega
    ·rcases hR _ h with h|h
     ·have:=hgs k hk;omega
     ·have:=hgs k hk;have:=hKF _ h;omega
    ·cases hq;rcases hR _ h with h|h
     ·have:OG=SB:=h;omega
     ·exact hkO h
    ·have:=hPA q hq h0;rcases h with h|h|⟨k,hk,h⟩
     ·omega
     ·omega
     ·exact this.2.2 k hk h
    ·have:=(hhs k hk).2;omega
    ·have:=(hhs k hk).1;omega
   have hcap: ∀a,a<j → ∀b,b<j→0≤f a b∧f a b≤1073741824:=fun a ha b hb=>by
    rw[Hfv.out a b];have:=Hcs.out a b;omega
   obtain⟨wt,hwt⟩:=nm (wtOf ks bs);rw[hwt] at HWT Hw9;have HP0:=h_ (PushP.start (n:=j) (cap:=f) (ground:=grF (grdL ks bs tab hands j)) (wt:=wt) (fun i hi k hk=>(hcap i hi k hk).1));have WY:=h_ (rway_c CA cc U gs (some ⟨OG,0,none⟩) j (grdL ks bs tab hands j) A c hs);have WY2:=h_ (fun SB=>WY.out SB DB LB j U2 f hnb (grdL_len _ _ _ _ _) hcap);have Hcap:=h_ hcap;have Hwt:=h_ hwt;have HEN:=h_ HENV;have HKF:=h_ hKF;have HkX:=h_ hkX;have HXB:=h_ BX;have HD6:=h_ KP.d;have HL6:=h_ KP.l;have HF6:=h_ KP.f;have HP6:=h_ KP.p;have HE36:=h_ Er;have Hhs:=h_ hhs;have hLD:LB≠DB:=hne2.symm;have hDs: ∀k,k<j→hs k≠DB:=fun k hk=>by have:=(hhs k hk).1;omega
   have hLs: ∀k,k<j→hs k≠LB:=fun k hk=>by have:=(hhs k hk).1;omega
   have hFs: ∀k,k<j→hs k≠FB:=fun k hk=>by have:=(hhs k hk).1;omega
   have hFD:FB≠DB:=by omega
   have hFL:FB≠LB:=by omega
   have hR2:=Blk.lt HB23.out;have hkR: ¬KF DB LB FB hs j R:=fun h=>by have:=hKF _ h;omega
   have hkLB: ∀SB,W6.heap.size≤SB → ¬RKs SB DB hs j LB:=fun SB hS h=>by
    rcases h with h|h|⟨k,hk,h⟩
    ·omega
    ·exact hLD h
    ·exact hLs k hk h.symm
   have hkFB: ∀SB,W6.heap.size≤SB → ¬RKs SB DB hs j FB:=fun SB hS h=>by
    rcases h with h|h|⟨k,hk,h⟩
    ·omega
    ·exact hFD h
    ·exact hFs k hk h.symm
   have hJoin: ∀SB,W6.heap.size≤SB → ∀b,b<W6.heap.size→RKs SB DB hs j b→KF DB LB FB hs j b:=fun SB hS b hb h=>by
    rcases h with h|h|h
    ·omega
    ·exact Or.inl h
    ·exact Or.inr (Or.inr (Or.inr h))
   have HLD:=h_ hLD;have HDs:=h_ hDs;have HLs:=h_ hLs;have HFs:=h_ hFs;have HFD:=h_ hFD;have HFL:=h_ hFL;have HkR:=h_ hkR;have HkLB:=h_ hkLB;have HkFB:=h_ hkFB;have HJoin:=h_ hJoin;have HX36:=h_ (fun(W:World) (O:Only (KF DB LB FB hs j) W6 W)=>(Only.below Er O (fun k hk=>by have:=hKF k hk;omega):Ext W3 W));clear hN3 hXU n1 n2 n3 n4 n5 n6 n7 n8 n9 m1 m2 m3 m4 hne hne2 hXD hXL hsz3 HGr wide1 len1 HPs HCs hCA hPRC hgs hhs hPA hKF hkX hkO HENV hcap hwt KP BX own Er hLD hDs hLs hFs hFD hFL hkR hkLB hkFB hJoin WY hR2;go_wp2_with fail;go_loopw [15] (fun ii wr=> ∃(i:Nat) (put:Nat→Nat→Int) (d l:Nat→Int),i≤j∧ii = .int .i64 i∧Hid (PushP j f (grF (grdL ks bs tab hands j)) wt i put d l)∧Hid (∀v,v<j→l v≤100)∧NRow wr DB j d∧PR wr U2 hs j put j∧NRow wr LB j l∧BRow wr FB j (fun _=>false)∧Only (KF DB LB FB hs j) W6 wr) (fun ii _=>j-(intOf ii).toNat)
   case atStart=>exact⟨0,_,_,_,by omega,rfl,HP0,h_ (fun _ _=>by omega),HD6.out,HP6.out,HL6.out,HF6.out,Only.refl _ _⟩
   case round =>
    obtain⟨i,put,d,l,hi,rfl,hP,hL,ND,NP,NL,NF,O⟩:=hrel;have HX:=h_ (HX36.out _ O);have HO:=h_ O;have HBo:=h_ (HXB.out.only O HkX.out);have HBm:=h_ ((HB13.out.ext HE36.out).only O HkR.out);by_cases hij:i<j
    ·obtain⟨wj,hwj⟩:=nm (wt i);have hw:=Hw9.out i hij;rw[hwj] at hw;have HQ:=hP.out.next hij (fun i hi=>(Hw9.out i hi).1);rw[hwj] at HQ;have HQ0:=h_ HQ;have HL0:=h_ (show ∀v,v<j→setN l i wj v≤100 from fun v hv=>by
      unfold setN
      split
      ·exact hw.2
      ·exact hL.out v hv)
     have WT:=HWT.out i hij;rw[hwj] at WT;have HWTi:=h_ WT;have HD:=h_ ND;have HP:=h_ NP;have HN:=h_ NL;have HF:=h_ NF;have bx:=HBo.out.cell;have bm:=HBm.out.cell;have i0:(0:Int)≤i:=by omega
     have i1:(i:Int)<j:=by omega
     have EX:=HE3.out.trans HX.out;clear HQ hw hwj WT ND NP NL NF O hP hL
     go_upto_region 13 with(fail)
     refine wp_region_tail 8 (by kernel_rfl) (by kernel_rfl) ?_;simp only[List.take_succ_cons,List.take_zero,List.drop_succ_cons,List.drop_zero]
     repeat (go_big_quiet_step ((go_at_call 135;exact quiet_ext (HWTi.out _ (EX.grow _)))))
     refine wpQuiet_nil ?_;intro W20 hW20;have E20:Ext wr W20:=by
      obtain⟨x,rfl⟩:=hW20;exact(Ext.refl _).grow x
     clear hW20;obtain⟨hcW20,hfW20,hzW20⟩:=ext_facts E20;clear hcW20 hfW20 hzW20 bx bm EX;have NL20:=HN.out.ext E20;have cl:=NL20.cell hij;have fl:=Blk.frozen NL20 i;have HN21:=h_ (NL20.set_ i wj);have HD21:=h_ (show NRow _ DB j d from Blk.far (HD.out.ext E20) (p:=⟨LB,i,none⟩) HLD.out.symm (.int .i64 wj));have HF21:=h_ (show BRow _ FB j (fun _=>false) from Blk.far (HF.out.ext E20) (p:=⟨LB,i,none⟩) HFL.out (.int .i64 wj));have HP21:=h_ ((HP.out.ext E20).far (p:=⟨LB,i,none⟩) HLs.out (.int .i64 wj));have HO21:=h_ ((HO.out.ext E20).setCell (p:=⟨LB,i,none⟩) (fun _=>Or.inr (Or.inl rfl)) (.int .i64 wj));clear NL20 E20;go_wp2_with fail;clear cl fl;go_loopw [81] (fun _ wr=> ∃(put:Nat→Nat→Int) (d l:Nat→Int),Hid (PushQ j f (grF (grdL ks bs tab hands j)) wt i put d l)∧Hid (∀v,v<j→l v≤100)∧NRow wr DB j d∧PR wr U2 hs j put j∧NRow wr LB j l∧BRow wr FB j (fun _=>false)∧Only (KF DB LB FB hs j) W6 wr) (fun _ wr=>cellN wr ⟨LB,i,none⟩)
     case atStart=>exact⟨put,d,_,HQ0,HL0,HD21.out,HP21.out,HN21.out,HF21.out,HO21.out⟩
     case round =>
      clear HQ0 HL0 HD21 HP21 HN21 HF21 HO21 HD HP HN HF HO HX HBo HBm;obtain⟨put,d,l,hQ,hL,ND,NP,NL,NF,O⟩:=hrel;obtain⟨lj,hlj⟩:=nm (l i);have h0:=hQ.out.f.l0 i hij;have h1:=hL.out i hij;rw[hlj] at h0 h1;have Hlj:=h_ hlj;have hmeas:=h_ (cellN_row NL hij);have HO:=h_ O;have HD:=h_ ND;have HP:=h_ NP;have HN:=h_ NL;have HF:=h_ NF;have HBo:=h_ (HXB.out.only O HkX.out);have cl:=NL.cell hij;rw[hlj] at cl;clear hlj ND NP NL NF O;by_cases hpos:0<lj
      ·have hgt:lj>0:=hpos;clear cl;obtain⟨W7,rfl⟩: ∃W7:World,W7=wr:=⟨_,rfl⟩;have hput: ∀a,a<j → ∀b,b<j→0≤put a b∧put a b≤f a b:=fun a ha b hb=>⟨hQ.out.f.lo a ha b hb,hQ.out.f.hi a ha b hb⟩;have hd9: ∀v,v<j→0≤d v∧d v≤4294967296:=fun v hv=>⟨hQ.out.f.dn v hv,by
        have:=hQ.out.f.down_le (B:=100) (fun i hi=>uptoW_le (by omega) (Hw9.out i hi).2) hv
        omega⟩
       have Hput:=h_ hput;have Hd9:=h_ hd9;have HX7:=h_ (HX36.out _ HO.out);clear hput hd9
       go_upto_region 14 with(fail)
       refine wp_region_byF (Rp14 W3 W7 XB LB DB OG j i cc c lj CA A (ROut j f (grF (grdL ks bs tab hands j)) put d l i DB LB FB U2 hs W6)) (by intro us;simp only[putAll,Act.put,zs,Nat.reduceAdd];rfl) (by kernel_rfl) (by kernel_rfl) (by kernel_rfl) ⟨HX7.out.trans (Ext.refl _).drew,(fun _=>(Ext.refl _).drew),(nofun),(nofun),(nofun),(nofun),(nofun),(nofun),(nofun),(nofun),(nofun),(nofun),(nofun),(nofun),(nofun),(nofun),(nofun),(nofun)⟩ ⟨?_,?_,?_,?_,?_,?_,?_,?_,?_,?_,?_,?_,?_,?_,?_,trivial⟩ ?_
       any_goals (intro L us wx K a ha hp hd hun hI hK;replace hp:=h_ hp;replace hd:=h_ hd;dsimp only at ha;subst ha;simp only[Act.put,zs] at hK)
       ·go_simp;exact hK _ _ {hI with f0:=fun _=>rfl}
       ·have h13:L 13=false:=Bool.eq_false_iff.2 fun hl=>absurd (hd.out 3 1 (hd.out 4 3 (hd.out 5 4 (hd.out 6 5 (hd.out 13 6 hl (by kernel_rfl)) (by kernel_rfl)) (by kernel_rfl)) (by kernel_rfl)) (by kernel_rfl)) (by rw[hun];decide);have bx:=(HBo.out.ext (hI.g0 h13)).cell;rw[hI.f0 (h_p hp 0)] at hK ⊢;go_simp;exact hK _ _ {hI with f1:=fun _=>rfl}
       ·go_simp;exact hK _ _ {hI with f2:=fun _=>rfl}
       ·rw[hI.f1 (h_p hp 1),hI.f2 (h_p hp 2)] at hK ⊢;go_simp;exact hK _ _ {hI with f3:=fun _=>rfl}
       ·have h13:L 13=false:=Bool.eq_false_iff.2 fun hl=>absurd (hd.out 5 4 (hd.out 6 5 (hd.out 13 6 hl (by kernel_rfl)) (by kernel_rfl)) (by kernel_rfl)) (by rw[hun];decide);have cl:=(HN.out.ext (hI.g0 h13)).cell hij;rw[Hlj.out] at cl;rw[hI.f3 (h_p hp 3)] at hK ⊢;go_simp;exact hK _ _ {hI with f4:=fun _=>rfl}
       ·rw[hI.f4 (h_p hp 4)] at hK ⊢;go_simp;exact hK _ _ {hI with f5:=fun _=>rfl}
       ·rw[hI.f5 (h_p hp 5)] at hK ⊢;go_simp;exact hK _ _ {hI with f6:=fun _=>rfl}
       ·rw[hI.f6 (h_p hp 6)] at hK ⊢;go_simp;exact hK _ _ {hI with f7:=fun _=>rfl}
       ·rw[hI.f6 (h_p hp 6)] at hK ⊢;go_simp;exact hK _ _ {hI with f8:=fun _=>rfl}
       ·have h13:L 13=false:=bfl (hd.out 13 9 · (by kernel_rfl)) hun;have bx:=(HBo.out.ext (hI.g0 h13)).cell;rw[hI.f6 (h_p hp 6)] at hK ⊢;go_simp;exact hK _ _ {hI with f9:=fun _=>rfl}
       ·rw[hI.f6 (h_p hp 6)] at hK ⊢;go_simp;exact hK _ _ {hI with f10:=fun _=>rfl}
       ·rw[hI.f6 (h_p hp 6)] at hK ⊢;go_simp;exact hK _ _ {hI with f11:=fun _=>rfl}
       ·have h13:L 13=false:=bfl (hd.out 13 12 · (by kernel_rfl)) hun;have hmk1:=hmkb wx;have EW:Ext wx (wx.alloc (.cells (vsA j fun _=> .bool false) 4)):=(Ext.refl wx).alloc _;have NW:=BRow.new j wx;have hsz:=(hI.g0 h13).size;rw[hI.f6 (h_p hp 6),hI.f11 (h_p hp 11)] at hK ⊢;go_simp;exact hK _ _ ⟨hI.x.trans EW,(fun h=>(hI.g0 h).trans EW),(fun _ _=>⟨hsz,NW⟩),(fun h=>absurd (show L 13=true from h) (by rw[h13];decide)),hI.g3,hI.f0,hI.f1,hI.f2,hI.f3,hI.f4,hI.f5,hI.f6,hI.f7,hI.f8,hI.f9,hI.f10,hI.f11,(fun _=>rfl)⟩
       ·have u6:=hI.f6 (h_p hp 6);have u7:=hI.f7 (h_p hp 7);have u8:=hI.f8 (h_p hp 8);have u9:=hI.f9 (h_p hp 9);have u10:=hI.f10 (h_p hp 10);have h12:=h_p hp 12;have u12:=hI.f12 h12;obtain⟨hge,BR⟩:=hI.g1 h12 hun;have h14:L 14=false:=bfl (hd.out 14 13 · (by kernel_rfl)) hun;have EXw:=hI.g0 hun;obtain⟨SB,hSB⟩:=nm (bk (us 12));rw[hSB] at u12 hge BR;have hS6:W6.heap.size≤SB:=Nat.le_trans HO.out.size hge;have O7:=HO.out.ext EXw;have CW:=WY2.out SB (j+1) i (fun _=>false) d put wx (by have:=unseen_le j (fun _=>false);omega) hij rfl Hput.out Hd9.out (HEN.out wx SB O7 hS6 (Blk.lt BR)) ⟨BR,HD.out.ext EXw,HP.out.ext EXw⟩;have NLx:=HN.out.ext EXw;have NFx:=HF.out.ext EXw;have HNLx:=h_ NLx;have HNFx:=h_ NFx;have HO7:=h_ O7;rw[u6,u7,u8,u9,u10,u12] at hK ⊢;clear u6 u7 u8 u9 u10 u12 hSB hge BR EXw NLx NFx O7;go_simp;go_at_call 136;refine CW.mono ?_;rintro e wn ⟨b,s2,d2,p2,rfl,RS2,O2,hpost⟩;have On:=HO7.out.trans O2 (fun k hk h=>HJoin.out SB hS6 k hk h);have NLn:NRow wn LB j l:=Blk.only HNLx.out O2 (HkLB.out SB hS6);have NFn:BRow wn FB j (fun _=>false):=Blk.only HNFx.out O2 (HkFB.out SB hS6);go_simp;exact hK _ _ ⟨HX36.out wn On,(fun h=>nomatch (show true=false from h)),(fun _ h=>nomatch (show true=false from h)),(fun _=>⟨b,s2,d2,p2,rfl,RS2.p,RS2.d,NLn,NFn,On,hpost⟩),(fun h=>absurd (show L 14=true from h) (by rw[h14];decide)),hI.f0,hI.f1,hI.f2,hI.f3,hI.f4,hI.f5,hI.f6,hI.f7,hI.f8,hI.f9,hI.f10,hI.f11,hI.f12⟩
       ·have h13:=h_p hp 13;have hg2:=hI.g2 h13;obtain⟨b,hv⟩: ∃b,us 13 = .bool b:=by
         obtain⟨b,s2,d2,p2,hv,-⟩:=hg2;exact⟨b,hv⟩
        rw[hI.f6 (h_p hp 6),hv] at hK ⊢;go_simp;exact hK _ _ ⟨hI.x,hI.g0,hI.g1,hI.g2,(fun _=>hv.symm),hI.f0,hI.f1,hI.f2,hI.f3,hI.f4,hI.f5,hI.f6,hI.f7,hI.f8,hI.f9,hI.f10,hI.f11,hI.f12⟩
       intro L us W9 hall hI;obtain⟨b,s2,d2,p2,hv,P9,D9,N9,F9,O9,hpost⟩:=hI.g2 (hall 13 (by simp));have h14:=hI.g3 (hall 14 (by simp));rw[hv] at h14;simp only[h14];have HP9:=h_ P9;have HD9:=h_ D9;have HN9:=h_ N9;have HF9:=h_ F9;have HO9:=h_ O9;clear hall hI hv h14 P9 D9 N9 F9 O9;rcases hpost with⟨rfl,rfl,rfl,hno⟩|⟨rfl,hok⟩
       ·have HP2:=h_ (hQ.out.stuck hno);clear hno;go_wp2_with fail;go_roundw
        case rel=>exact⟨i+1,_,_,l,by omega,by go_num,HP2,hL,HD9.out,HP9.out,HN9.out,HF9.out,HO9.out⟩
        case measure=>simp only[intOf];omega
       ·have HQ2:=hQ.out.ok hij (hok.amt (by rw[Hlj.out];omega));rw[Hlj.out] at HQ2;have HQ3:=h_ HQ2;have HL3:=h_ (show ∀v,v<j→setN l i (lj-1) v≤100 from fun v hv=>by
         unfold setN
         split
         ·omega
         ·exact hL.out v hv)
        have cl:=HN9.out.cell hij;rw[Hlj.out] at cl;have fl:=Blk.frozen HN9.out i;have bx:=(HXB.out.only HO9.out HkX.out).cell;have HN25:=h_ (HN9.out.set_ i (lj-1));have HD25:=h_ (show NRow _ DB j d2 from Blk.far HD9.out (p:=⟨LB,i,none⟩) HLD.out.symm (.int .i64 (lj-1)));have HF25:=h_ (show BRow _ FB j (fun _=>false) from Blk.far HF9.out (p:=⟨LB,i,none⟩) HFL.out (.int .i64 (lj-1)));have HP25:=h_ (HP9.out.far (p:=⟨LB,i,none⟩) HLs.out (.int .i64 (lj-1)));have HO25:=h_ (HO9.out.setCell (p:=⟨LB,i,none⟩) (fun _=>Or.inr (Or.inl rfl)) (.int .i64 (lj-1)));have hm2:=h_ (cellN_row HN25.out hij);clear hok HQ2;go_wp2_with fail;go_roundw
        case rel=>exact⟨p2,d2,_,HQ3,HL3,HD25.out,HP25.out,HN25.out,HF25.out,HO25.out⟩
        case measure =>
         rw[hm2.out,hmeas.out,Hlj.out];unfold setN;rw[if_pos rfl];omega
      ·have HP2:=h_ (hQ.out.zero (by rw[Hlj.out];omega));have hgt: ¬lj>0:=hpos;have bx:=HBo.out.cell
       go_upto_region 14 with(fail)
       refine w_g ?_
       repeat (go_big_quiet_step (fail))
       refine wpQuiet_nil ?_;intro W8 hW8;have E8:Ext wr W8:=by
        obtain⟨x,rfl⟩:=hW8;exact(Ext.refl _).grow x
       clear hW8;obtain⟨hcW8,hfW8,hzW8⟩:=ext_facts E8;clear hcW8 hfW8 hzW8 bx cl;have HE8:=h_ E8;clear E8;go_wp2_with fail;go_roundw
       case rel=>exact⟨i+1,put,d,l,by omega,by go_num,HP2,hL,HD.out.ext HE8.out,HP.out.ext HE8.out,HN.out.ext HE8.out,HF.out.ext HE8.out,HO.out.ext HE8.out⟩
       case measure=>simp only[intOf];omega
    ·obtain rfl:i=j:=by omega
     have hput: ∀a,a<i → ∀b,b<i→0≤put a b∧put a b≤f a b:=fun a ha b hb=>⟨hP.out.f.lo a ha b hb,hP.out.f.hi a ha b hb⟩;have hd9: ∀v,v<i→0≤d v∧d v≤4294967296:=fun v hv=>⟨hP.out.f.dn v hv,by
      have:=hP.out.f.down_le (B:=100) (fun i hi=>uptoW_le (by omega) (Hw9.out i hi).2) hv
      omega⟩
     have Hput:=h_ hput;have Hd9:=h_ hd9;have HFl:=h_ hP.out.flow;have HF0:=h_ (FallP.start (n:=i) (cap:=f) (ground:=grF (grdL ks bs tab hands i)) (put:=put) (left:=l));have HD:=h_ ND;have HP:=h_ NP;have HN:=h_ NL;have HF:=h_ NF;clear hput hd9 ND NP NL NF O HX HBo HBm;go_wp2_with fail;go_loopw [16] (fun ii wr=> ∃(t:Nat) (S:Nat→Bool),t≤i∧ii = .int .i64 t∧Hid (FallP i f (grF (grdL ks bs tab hands i)) put l t S)∧NRow wr DB i d∧PR wr U2 hs i put i∧NRow wr LB i l∧BRow wr FB i S∧Only (KF DB LB FB hs i) W6 wr) (fun ii _=>i-(intOf ii).toNat)
     case atStart=>exact⟨0,_,by omega,rfl,HF0,HD.out,HP.out,HN.out,HF.out,HO.out⟩
     case round =>
      clear HD HP HN HF HO HF0;obtain⟨t,S,ht,rfl,hF,ND,NP,NL,NF,O⟩:=hrel;have HD:=h_ ND;have HP:=h_ NP;have HN:=h_ NL;have HF:=h_ NF;have HO:=h_ O;have HBo:=h_ (HXB.out.only O HkX.out);have bx:=HBo.out.cell;by_cases hti:t<i
      ·obtain⟨lt,hlt⟩:=nm (l t);have h0:=hP.out.f.l0 t hti;have cl:=NL.cell hti;rw[hlt] at cl h0;have Hlt:=h_ hlt;have t0:(0:Int)≤t:=by omega
       have t1:(t:Int)<i:=by omega
       clear hlt ND NP NL NF O;by_cases hz:lt=0
       ·have Hsk:=h_ (hF.out.skip (Or.inr (by rw[Hlt.out,hz];exact Int.lt_irrefl 0)));subst hz;have e0:((0:Int)==0)=true:=rfl;go_wp2_with fail;go_roundw
        case rel=>exact⟨t+1,S,by omega,by go_num,Hsk,HD.out,HP.out,HN.out,HF.out,HO.out⟩
        case measure=>simp only[intOf];omega
       ·have hpos:0<lt:=by omega
        have e0:(lt==0)=false:=beq_eq_false_iff_ne.2 hz;obtain⟨W7,rfl⟩: ∃W7:World,W7=wr:=⟨_,rfl⟩;obtain⟨W8,hW8,E8,B8,hz8'⟩:=mk_ W7 (vsA i fun _=> .bool false) 4;obtain⟨SB,hSB⟩:=nm W7.heap.size;rw[hSB] at B8;have HW8:=h_ hW8;have HSB:=h_ hSB;have hS6:W6.heap.size≤SB:=by rw[←hSB];exact HO.out.size
        have O8:=HO.out.ext E8;have HB8:=h_ (HBo.out.ext E8);have CW:=WY2.out SB (i+1) t (fun _=>false) d put W8 (by have:=unseen_le i (fun _=>false);omega) hti rfl Hput.out Hd9.out (HEN.out W8 SB O8 hS6 (Blk.lt B8)) ⟨B8,HD.out.ext E8,HP.out.ext E8⟩;have HN8:=h_ (HN.out.ext E8);have HF8:=h_ (HF.out.ext E8);have HO8:=h_ O8;clear hW8 hz8' hSB O8 E8 B8
        go_upto_region 21 with(fail)
        rw[HW8.out,HSB.out];clear bx cl;have bx8:=HB8.out.cell;go_wp2_with fail;clear bx8;refine CW.mono ?_;rintro e W9 ⟨b,s2,d2,p2,rfl,RS2,O2,hpost⟩;have HO9:=h_ (HO8.out.trans O2 (fun k hk h=>HJoin.out SB hS6 k hk h));have HN9:=h_ (show NRow W9 LB i l from Blk.only HN8.out O2 (HkLB.out SB hS6));have HF9:=h_ (show BRow W9 FB i S from Blk.only HF8.out O2 (HkFB.out SB hS6));have HS9:=h_ RS2.s;have HD9:=h_ RS2.d;have HP9:=h_ RS2.p;have hSF:SB≠FB:=fun e=>by
         have:=Blk.lt HF6.out;omega
        clear CW RS2 O2 HN8 HF8 HO8;rcases hpost with⟨rfl,rfl,rfl,hno⟩|⟨rfl,hok⟩;rotate_left
        ·exact(hP.out.never hti (by rw[Hlt.out];exact hpos) hok).elim
        have HFn:=h_ (hF.out.join hti (by rw[Hlt.out];exact hpos) hno);clear hno;go_wp2_with fail;go_loopw [18] (fun ii wr=> ∃(k:Nat),k≤i∧ii = .int .i64 k∧BRow wr FB i (fun v=>S v||(decide (v<k)&&s2 v))∧Only (fun b=>b=FB) W9 wr) (fun ii _=>i-(intOf ii).toNat)
        case atStart=>exact⟨0,by omega,rfl,HF9.out.congr (fun k _=>by simp),Only.refl _ _⟩
        case round =>
         obtain⟨k,hk,rfl,NF,OF⟩:=hrel;by_cases hki:k<i
         ·obtain⟨sk,hsk⟩:=nm (S k);obtain⟨s2k,hs2k⟩:=nm (s2 k);have cf:=NF.cell hki;have ff:=Blk.frozen NF k;have cs:=(show BRow wr SB i s2 from Blk.only HS9.out OF hSF).cell hki;have k0:(0:Int)≤k:=by omega
          have k1:(k:Int)<i:=by omega
          simp only[Nat.lt_irrefl,decide_false,Bool.false_and,Bool.or_false] at cf;rw[hsk] at cf;rw[hs2k] at cs;have hnew: ∀b,b=(S k||s2 k) → ∀v,v<i→(S v||(decide (v<k+1)&&s2 v))=setB (fun v=>S v||(decide (v<k)&&s2 v)) k b v:=fun b hb v _=>by
           unfold setB;by_cases hv:v=k
           ·subst hv;rw[if_pos rfl,hb];simp
           ·rw[if_neg hv,show decide (v<k+1)=decide (v<k) from decide_eq_decide.2 (by omega)]
          have NF2:=fun b hb=>h_ ((NF.set_ k b).congr (hnew b hb));have HOF:=h_ (fun b=>OF.setCell (p:=⟨FB,k,none⟩) (fun _=>rfl) (.bool b));rw[hsk,hs2k] at NF2;clear NF OF hnew hsk hs2k;cases sk
          ·have NF3:=NF2 s2k (by cases s2k <;> rfl);clear NF2;cases s2k
           ·go_wp2_with fail;go_roundw
            case rel=>exact⟨k+1,by omega,by go_num,NF3.out,HOF.out _⟩
            case measure=>simp only[intOf];omega
           ·go_wp2_with fail;go_roundw
            case rel=>exact⟨k+1,by omega,by go_num,NF3.out,HOF.out _⟩
            case measure=>simp only[intOf];omega
          ·have NF3:=NF2 true rfl;clear NF2;go_wp2_with fail;go_roundw
           case rel=>exact⟨k+1,by omega,by go_num,NF3.out,HOF.out _⟩
           case measure=>simp only[intOf];omega
         ·obtain rfl:k=i:=by omega
          have HNF:=h_ (NF.congr (s':=fun v=>S v||s2 v) (fun v hv=>by simp[hv]));have HOF:=h_ (HO9.out.trans OF (fun b _ h=>Or.inr (Or.inr (Or.inl h))));have HD8:=h_ (show NRow wr DB k _ from Blk.only HD9.out OF HFD.out.symm);have HP8:=h_ (HP9.out.only OF (fun a ha e=>HFs.out a ha e));have HN8:=h_ (show NRow wr LB k l from Blk.only HN9.out OF HFL.out.symm);clear NF OF;go_wp2_with fail;go_roundw
          case rel=>exact⟨t+1,_,by omega,by go_num,HFn,HD8.out,HP8.out,HN8.out,HNF.out,HOF.out⟩
          case measure=>simp only[intOf];omega
      ·obtain rfl:t=i:=by omega
       have HFA:=h_ hF.out.all;have HE9:=h_ (HE3.out.trans (HX36.out _ HO.out));clear ND NP NL NF O
       go_upto_region 26 with(fail)
       refine w_g ?_
       repeat (go_big_quiet_step (fail))
       refine wpQuiet_nil ?_;intro W50 hW50;have E50:Ext wr W50:=by
        obtain⟨x,rfl⟩:=hW50;exact(Ext.refl _).grow x
       clear hW50;obtain⟨hcW50,hfW50,hzW50⟩:=ext_facts E50;clear hcW50 hfW50 hzW50 bx;have HE50:=h_ E50;clear E50;go_wp2_with fail;have hcc: ∀a,a<t → ∀b,b<t→f a b=capV ks bs a b:=fun a _ b _=>Hfv.out a b;refine bodyPost_ret (v:= .tuple #[.slice A t c,.slice (some ⟨DB,0,none⟩) t t,.slice (some ⟨FB,0,none⟩) t t]) (by simp[results,Tryz.results99,go_sem]) rfl ⟨_,_,FB,S,rfl,HF.out.ext HE50.out,⟨put,d,l,?_,HFA.out.congr_cap hcc⟩,HE9.out.trans HE50.out⟩;rw[Hwt.out];exact HFl.out.congr_cap hcc
end Go.Proofs.YtojolpbpjimfgaaGreatDoor
