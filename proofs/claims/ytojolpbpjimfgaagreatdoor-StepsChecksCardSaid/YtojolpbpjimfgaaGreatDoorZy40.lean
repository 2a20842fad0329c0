/- Texts of the proof: RWay. -/
import Derived.Test.YtojolpbpjimfgaaGreatDoorZy18
import Derived.Test.YtojolpbpjimfgaaGreatDoorZy24
import Derived.Test.YtojolpbpjimfgaaGreatDoorZy33
import Derived.Test.YtojolpbpjimfgaaGreatDoorZy39
set_option maxHeartbeats 16000000
set_option maxRecDepth 100000
namespace Go.Proofs.YtojolpbpjimfgaaGreatDoor
open Go.RowKit
def RKs(SB DB:Nat)(hs:Nat→Nat)(n b:Nat):Prop:=b=SB∨b=DB ∨ ∃k,k<n∧b=hs k
def rowsV(gs:Nat→Nat)(n:Nat):List (List Value):=(plC gs (fun _=>n) n).map fun v=> [v]
structure REnv(w:World)(CA:Option Addr)(cc U:Nat)(gs:Nat→Nat)(GA:Option Addr)(gc:Nat)(gl:List Bool)(PA:Option Addr)(pc:Nat)(hs:Nat→Nat)(SB DB n:Nat)(cap:Nat→Nat→Int):Prop where
 c:SliceIs w CA n cc 1 (rowsV gs n)
 cr:PR w U gs n cap n
 g:BoolsZ w GA gc gl
 p:SliceIs w PA n pc 1 (rowsV hs n)
 lt: ∀b,RKs SB DB hs n b→b<w.heap.size
 nc: ∀q,CA=some q→0<n → ¬RKs SB DB hs n q.block
 ng: ∀k,k<n → ¬RKs SB DB hs n (gs k)
 ngr: ∀q,GA=some q → ¬RKs SB DB hs n q.block
 np: ∀q,PA=some q→0<n → ¬RKs SB DB hs n q.block
 sd:SB≠DB
 sh: ∀k,k<n→hs k≠SB
 dh: ∀k,k<n→hs k≠DB
theorem NumX.only{K:Nat→Prop}{w w':World}{g:Nat}{l:List Int}(h:NumX w g l)(k:Only K w w')(hg: ¬K g):NumX w' g l:=by
 obtain⟨ex,h⟩:=h;exact⟨ex,h.only k hg⟩
theorem PR.only{K:Nat→Prop}{w w':World}{U:Nat}{gs:Nat→Nat}{n j:Nat}{f:Nat→Nat→Int}(h:PR w U gs n f j)(k:Only K w w')(hg: ∀i,i<j → ¬K (gs i)):PR w' U gs n f j:=⟨h.lo,fun i hi=>(h.r i hi).only k (hg i hi),h.s⟩
theorem PR.far{w:World}{U:Nat}{gs:Nat→Nat}{n j:Nat}{f:Nat→Nat→Int}(h:PR w U gs n f j){p:Addr}(hp: ∀i,i<j→gs i≠p.block)(v:Value):PR (w.setCell p v) U gs n f j:=⟨h.lo,fun i hi=>(h.r i hi).far (hp i hi) v,h.s⟩
section
variable {w w':World} {CA:Option Addr} {cc U:Nat} {gs:Nat→Nat} {GA:Option Addr} {gc:Nat} {gl:List Bool} {PA:Option Addr} {pc:Nat} {hs:Nat→Nat} {SB DB n:Nat} {cap:Nat→Nat→Int}
theorem REnv.only(h:REnv w CA cc U gs GA gc gl PA pc hs SB DB n cap)(k:Only (RKs SB DB hs n) w w'):REnv w' CA cc U gs GA gc gl PA pc hs SB DB n cap :=
 ⟨SliceIs.only0 h.c k h.nc,h.cr.only k h.ng,SliceIs.only h.g k h.ngr,SliceIs.only0 h.p k h.np,fun b hb=>Nat.lt_of_lt_of_le (h.lt b hb) k.size,h.nc,h.ng,h.ngr,h.np,h.sd,h.sh,h.dh⟩
theorem REnv.ext(h:REnv w CA cc U gs GA gc gl PA pc hs SB DB n cap)(E:Ext w w'):REnv w' CA cc U gs GA gc gl PA pc hs SB DB n cap:=h.only (Only.of_ext _ E)
theorem rows_cell{A:Option Addr}{c:Nat}{gs:Nat→Nat}(h:SliceIs w A n c 1 (rowsV gs n)){i g off:Nat}(hi:i<n)(hA:A=some ⟨g,off,none⟩):w.cell? ⟨g,off+i,none⟩=some (.slice (some ⟨gs i,0,none⟩) n n):=by
 obtain⟨g',off',hA',-,hc⟩:=h.cells (by omega);rw[hA'] at hA;cases hA;have hr:(rowsV gs n)[i]? = some [.slice (some ⟨gs i,0,none⟩) n n]:=by unfold rowsV;rw[List.getElem?_map,plC_at hi];rfl
 have:=hc i _ hr 0 _ rfl;rwa [Nat.mul_one,Nat.add_zero] at this
theorem rows_addr{A:Option Addr}{c:Nat}{gs:Nat→Nat}(h:SliceIs w A n c 1 (rowsV gs n))(hn:0<n): ∃g off,A=some ⟨g,off,none⟩:=by
 obtain⟨g',off',hA',-,hc⟩:=h.cells hn;exact⟨g',off',hA'⟩
end
structure RSt(w:World)(SB DB U:Nat)(hs:Nat→Nat)(n:Nat)(s:Nat→Bool)(d:Nat→Int)(put:Nat→Nat→Int):Prop where
 s:BRow w SB n s
 d:NRow w DB n d
 p:PR w U hs n put n
theorem RSt.ext{w w':World}{SB DB U:Nat}{hs:Nat→Nat}{n:Nat}{s:Nat→Bool}{d:Nat→Int}{put:Nat→Nat→Int}(h:RSt w SB DB U hs n s d put)(E:Ext w w'):RSt w' SB DB U hs n s d put:=⟨h.s.ext E,h.d.ext E,h.p.ext E⟩
def RWayPost(n:Nat)(cap:Nat→Nat→Int)(gr s:Nat→Bool)(put:Nat→Nat→Int)(d:Nat→Int)(i:Nat)(SB DB U:Nat)(hs:Nat→Nat)(w:World)(e:Ending)(w':World):Prop :=
 ∃(b:Bool) (s':Nat→Bool) (d':Nat→Int) (put':Nat→Nat→Int),e = .returned (.bool b)∧RSt w' SB DB U hs n s' d' put'∧Only (RKs SB DB hs n) w w' ∧
  ((b=false∧d'=d∧put'=put∧WayNo n cap gr s put i s')∨(b=true∧WayOk n cap gr s put d i 1 1 put' d'))
theorem step_pos{p:Nat→Nat→Int}{i t:Nat}(hne:i≠t)(h:0<p t i):upd (upd p t i (p t i-min (p t i) 1)) i t (p i t+(1-min (p t i) 1))=upd p t i (p t i-1):=by
 have h1:min (p t i) 1=1:=by omega
 rw[h1];have h2:p i t+(1-1)=upd p t i (p t i-1) i t:=by
  unfold upd;rw[if_neg (fun e=>hne e.1)];omega
 rw[h2,upd_self]
theorem step_zero{p:Nat→Nat→Int}{i t:Nat}(h:p t i=0):upd (upd p t i (p t i-min (p t i) 1)) i t (p i t+(1-min (p t i) 1))=upd p i t (p i t+1):=by
 have h1:min (p t i) 1=0:=by omega
 rw[h1,Int.sub_zero,upd_self];rfl
theorem rway_c(CA:Option Addr)(cc U:Nat)(gs:Nat→Nat)(GA:Option Addr)(gc:Nat)(gl:List Bool)(PA:Option Addr)(pc:Nat)(hs:Nat→Nat)(SB DB LB n U2:Nat)(cap:Nat→Nat→Int)(hn:n≤40)(hgl:gl.length=n)(hcap: ∀a,a<n → ∀b,b<n→0≤cap a b∧cap a b≤1073741824) :
  ∀(m i:Nat) (s:Nat→Bool) (d:Nat→Int) (put:Nat→Nat→Int) (w:World),unseen n s<m→i<n→s i=false→(∀a,a<n → ∀b,b<n→0≤put a b∧put a b≤cap a b)→(∀v,v<n→0≤d v∧d v≤4294967296) →
   REnv w CA cc U gs GA gc gl PA pc hs SB DB n cap→RSt w SB DB U2 hs n s d put →
   Calls Tryz.prog 136 #[.slice CA n cc,.slice GA n gc,.agg #[.slice PA n pc,.slice (some ⟨DB,0,none⟩) n n,.slice (some ⟨LB,0,none⟩) n n],.int .i64 i,.slice (some ⟨SB,0,none⟩) n n] w
    (RWayPost n cap (grF gl) s put d i SB DB U2 hs w):=by
 intro m
 induction m with
 | zero =>
  intro i s d put w hm;omega
 | succ m ih =>
  intro i s d put w hm hi hsi hput hd env st;have IH:=h_ ih;have Hm:=h_ hm;have Hput:=h_ hput;have Hsi:=h_ hsi;have Hcap:=h_ hcap;have Hd:=h_ hd;obtain⟨W0,hW0,E0,B0,hz0⟩:=mk_ w #[.slice PA n pc,.slice (some ⟨DB,0,none⟩) n n,.slice (some ⟨LB,0,none⟩) n n] 231;obtain⟨X,hX⟩:=nm w.heap.size;have hXK: ¬RKs SB DB hs n X:=fun h=>by have:=env.lt X h;omega
  rw[hX] at B0;have HX:=h_ hX;have env0:=env.ext E0;have st0:=st.ext E0;obtain⟨gg,goff,gb,hGA,hgb,-,-⟩:=env0.g.at_ (k:=i) (by rw[hgl];exact hi);have hgf:grF gl i=gb:=by unfold grF;rw[List.getD_eq_getElem?_getD,hgb];rfl
  have Hgf:=h_ hgf;have c1:=st0.s.cell hi;have f1:=Blk.frozen st0.s i;obtain⟨W1,hW1⟩:=nm (W0.setCell ⟨SB,i,none⟩ (.bool true));have O1:Only (RKs SB DB hs n) W0 W1:=by rw[←hW1];exact(Only.refl _ W0).setCell (p:=⟨SB,i,none⟩) (fun _=>Or.inl rfl) _
  have S1:=st0.s.set_ i true;have D1:=Blk.far st0.d (p:=⟨SB,i,none⟩) env.sd.symm (.bool true);have P1:=st0.p.far (p:=⟨SB,i,none⟩) (fun k hk=>env.sh k hk) (.bool true);rw[hW1] at S1 D1 P1;have env1:=env0.only O1;have st1:RSt W1 SB DB U2 hs n (setB s i true) d put:=⟨S1,D1,P1⟩;have B1:=B0.only O1 hXK;have cg2:W1.cell? ⟨gg,goff+i,none⟩=some (.bool gb):=by
   obtain⟨g',o',b',hG',hb',-,c'⟩:=env1.g.at_ (k:=i) (by rw[hgl];exact hi);rw[hGA] at hG';cases hG';rw[hgb] at hb';cases hb';exact c'
  have i0:(0:Int)≤i:=by omega
  have i1:(i:Int)<n:=by omega
  have hgc:n≤gc:=by have:=env.g.le;rw[hgl] at this;exact this
  have i2:(i:Int)<gc:=by omega
  have HO1:=h_ ((Only.of_ext (RKs SB DB hs n) E0).trans O1 (fun _ _ h=>h));have Henv:=h_ env1;have Hst:=h_ st1;have HB1:=h_ B1;have HXK:=h_ hXK;have b1:=B1.cell;clear hm hput hcap hd hsi ih hgf hgb env env0 st st0 S1 D1 P1 O1 env1 st1 hgc hz0 hX hXK E0 B0 B1;subst hGA;cases gb;rotate_left
  ·have c2:=Hst.out.d.cell hi;have f2:=Blk.frozen Hst.out.d i;have hdi:=Hd.out i hi;obtain⟨di,hdi'⟩:=nm (d i);rw[hdi'] at c2 hdi;obtain⟨hd1,hd2⟩:=hdi;have Hdi:=h_ hdi';clear hdi';go_enter Tryz.func136,Tryz.ntmps136
   go_upto_region 1 with(fail)
   rw[HX.out];clear hW0;go_wp2_with fail;go_ret;have e1:setN d i (di+1)=fun v=>if v=i then d v+1 else d v:=by
    funext v;unfold setN
    split
    ·rename_i h;rw[h,Hdi.out]
    ·rfl
   have hne:=Henv.out;refine⟨true,setB s i true,setN d i (di+1),put,rfl,⟨Blk.far Hst.out.s (p:=⟨DB,i,none⟩) hne.sd _,Hst.out.d.set_ i _,Hst.out.p.far (p:=⟨DB,i,none⟩) (fun k hk=>hne.dh k hk) _⟩,HO1.out.setCell (p:=⟨DB,i,none⟩) (fun _=>Or.inr (Or.inl rfl)) _,Or.inr ⟨rfl,?_⟩⟩;rw[e1];exact WayOk.gr Hgf.out (by omega) (fun a ha b hb=>(Hput.out a ha b hb).1) (fun a ha b hb=>(Hput.out a ha b hb).2) hi
  ·have HWP:=h_ (WayP.start (n:=n) (cap:=cap) (seen:=s) (put:=put) Hgf.out);obtain⟨pg,poff,hPA⟩:=rows_addr Henv.out.p (by omega);obtain⟨cg,coff,hCA⟩:=rows_addr Henv.out.c (by omega);subst hPA hCA;have hpc:n≤pc:=Henv.out.p.le;have hcc:n≤cc:=Henv.out.c.le;have ip:(i:Int)<pc:=by omega
   have ic:(i:Int)<cc:=by omega
   go_enter Tryz.func136,Tryz.ntmps136
   go_upto_region 1 with(fail)
   rw[HX.out];clear hW0;go_wp2_with fail;clear c1 f1 cg2 b1;have HS1:=Hst.out;go_loopw [11] (fun ii wr=> ∃(t:Nat) (s':Nat→Bool),t≤n∧ii = .int .i64 t∧Hid (WayP n cap (grF gl) s put i t s')∧RSt wr SB DB U2 hs n s' d put∧Only (RKs SB DB hs n) W1 wr) (fun ii _=>n-(intOf ii).toNat)
   case atStart=>exact⟨0,_,by omega,rfl,HWP,HS1,Only.refl _ _⟩
   case round =>
    clear HS1;obtain⟨t,s',ht,rfl,hP,ST,O⟩:=hrel;have ge:=Henv.out.only O;have HG:=h_ ge;have HST:=h_ ST;have HO:=h_ O;have HBX:=h_ (HB1.out.only O HXK.out);by_cases htn:t<n
    ·obtain⟨bt,hbt⟩:=nm (s' t);have cS:=ST.s.cell htn;rw[hbt] at cS;have Hbt:=h_ hbt;have bx:=HBX.out.cell;have cPr:=rows_cell ge.p hi rfl;have cPt:=rows_cell ge.p htn rfl;have cCr:=rows_cell ge.c hi rfl;have cP:=ST.p.cell hi htn;have cQ:=ST.p.cell htn hi;have cC:=ge.cr.cell hi htn;have hc:=Hcap.out i hi t htn;have hp:=Hput.out i hi t htn;have hq:=Hput.out t htn i hi;obtain⟨hi',hhi⟩:=nm (hs i);obtain⟨ht',hht⟩:=nm (hs t);obtain⟨gi',hgi⟩:=nm (gs i);rw[hhi] at cPr cP;rw[hht] at cPt cQ;rw[hgi] at cCr cC;have Hhi:=h_ hhi;have Hht:=h_ hht;obtain⟨cv,hcv⟩:=nm (cap i t);obtain⟨pv,hpv⟩:=nm (put i t);obtain⟨qv,hqv⟩:=nm (put t i);have hres:resid cap put i t=cv-pv+qv:=by unfold resid;rw[hcv,hpv,hqv]
     have Hres:=h_ hres;rw[hcv] at cC hc hp;rw[hpv] at cP hp;rw[hqv] at cQ hq;obtain⟨hc0,hc1⟩:=hc;obtain⟨hp0,hp1⟩:=hp;have hq0:=hq.1;have t0:(0:Int)≤t:=by omega
     have t1:(t:Int)<n:=by omega
     have tp:(t:Int)<pc:=by omega
     clear hbt hcv hpv hqv hres hq hhi hht hgi ge ST O;cases bt
     ·by_cases hge:cv≤pv
      ·have g1:pv≥cv:=hge;by_cases hz:qv=0
       ·subst hz;have g2:((0:Int)==0)=true:=rfl;have Hsk:=h_ (hP.out.skip (t:=t) (by rw[Hbt.out,Hres.out];omega))
        go_upto_region 8 with(fail)
        refine w_g ?_
        repeat (go_big_quiet_step (fail))
        refine wpQuiet_nil ?_;intro W3 hW3;have E3:Ext wr W3:=by
         obtain⟨x,rfl⟩:=hW3;exact(Ext.refl _).grow x
        clear hW3;obtain⟨hcW3,hfW3,hzW3⟩:=ext_facts E3;clear hcW3 hfW3 hzW3 cS bx cPr cPt cCr cP cQ cC;have HE3:=h_ E3;clear E3;go_wp2_with fail;go_roundw
        case rel=>exact⟨t+1,s',by omega,by go_num,Hsk,HST.out.ext HE3.out,HO.out.ext HE3.out⟩
        case measure=>simp only[intOf];omega
       ·have g2:(qv==0)=false:=beq_eq_false_iff_ne.2 hz
        as_aux_lemma =>
        have hfr:0<cv-pv+qv:=by omega
        have hun:unseen n s'<m:=by
         have:=unseen_lt (s:=s) (s':=s') (i:=i) hP.out.old hi Hsi.out hP.out.self;have:=Hm.out;omega
        go_upto_region 8 with(fail)
        refine w_g ?_
        repeat (go_big_quiet_step (fail))
        refine wpQuiet_nil ?_;intro W3 hW3;have E3:Ext wr W3:=by
         obtain⟨x,rfl⟩:=hW3;exact(Ext.refl _).grow x
        clear hW3;obtain⟨hcW3,hfW3,hzW3⟩:=ext_facts E3;clear hcW3 hfW3 hzW3 cS bx cPr cPt cCr cP cQ cC;have envr:=HG.out.ext E3;have CW:=IH.out t s' d put W3 hun htn Hbt.out Hput.out Hd.out envr (HST.out.ext E3);have HE3:=h_ (HO.out.ext E3);have HEn:=h_ envr;have HB3:=h_ (HBX.out.ext E3);have bx:=HB3.out.cell;clear envr E3;go_wp2_with fail;clear bx;refine CW.mono ?_;rintro e W4 ⟨b2,s2,d2,p2,rfl,ST2,O2,hpost⟩;have O3:=h_ (HE3.out.trans O2 (fun _ _ h=>h));have HB4:=h_ (HB3.out.only O2 HXK.out);clear CW;rcases hpost with⟨rfl,rfl,rfl,hno⟩|⟨rfl,hok⟩
        ·have Hf:=h_ (hP.out.fail hi htn (by rw[Hres.out];exact hfr) hno);have HS2:=h_ ST2;clear hno ST2 O2;go_wp2_with fail;go_roundw
         case rel=>exact⟨t+1,s2,by omega,by go_num,Hf,HS2.out,O3.out⟩
         case measure=>simp only[intOf];omega
        ·have env4:=HEn.out.only O2;have cq:=ST2.p.cell htn hi;have cp:=ST2.p.cell hi htn;have cPr:=rows_cell env4.p hi rfl;have cPt:=rows_cell env4.p htn rfl;have bx:=HB4.out.cell;have q1:=hok.lo t htn i hi;have q2:=hok.hi t htn i hi;have q3:=(Hcap.out t htn i hi).2;have p1:=hok.lo i hi t htn;have p3:=hok.hi i hi t htn;have p4:=(Hcap.out i hi t htn).2;have fq:=(ST2.p.r t htn).frozen i;have fp:=(ST2.p.r i hi).frozen t;rw[Hhi.out] at cPr cp fp;rw[Hht.out] at cPt cq fq;obtain⟨qv2,hqv2⟩:=nm (p2 t i);obtain⟨pv2,hpv2⟩:=nm (p2 i t);have hit:i≠t:=fun e=>by have h1:=hP.out.self;rw[e,Hbt.out] at h1;cases h1
         have hst:=WayOk.step (amt:=1) (got:=1) hi htn Hsi.out hP.out.old hP.out.self Hbt.out (by rw[Hres.out];exact hfr) (by rw[Hres.out,show min 1 (cv-pv+qv)=1 by omega];exact hok);rw[hqv2] at cq q1 q2;rw[hpv2] at cp p1 p3;have q5:qv2≤1073741824:=by omega
         have p5:pv2≤1073741824:=by omega
         have HS2:=h_ ST2;have HE4:=h_ env4;clear hok ST2 env4 O2 q2 q3 p3 p4 hun;by_cases hq2:0<qv2
         ·rw[step_pos hit (by rw[hqv2];exact hq2),hqv2] at hst;have P8:=HS2.out.p.set_ htn hi (qv2-1);have S8:=Blk.far HS2.out.s (p:=⟨hs t,i,none⟩) (HE4.out.sh t htn).symm (.int .i64 (qv2-1));have D8:=Blk.far HS2.out.d (p:=⟨hs t,i,none⟩) (HE4.out.dh t htn).symm (.int .i64 (qv2-1));have O8:=h_ (O3.out.setCell (p:=⟨hs t,i,none⟩) (fun _=>Or.inr (Or.inr ⟨t,htn,rfl⟩)) (.int .i64 (qv2-1)));rw[Hht.out] at P8 S8 D8 O8;have HS8:=h_ (RSt.mk S8 D8 P8);have Hst2:=h_ hst;clear P8 S8 D8 hst hqv2 hpv2 hit;go_wp2_with fail;go_ret;exact⟨true,s2,d2,_,rfl,HS8.out,HO1.out.trans O8.out (fun _ _ h=>h),Or.inr ⟨rfl,Hst2.out⟩⟩
         ·rw[step_zero (by rw[hqv2];omega),hpv2] at hst;have P8:=HS2.out.p.set_ hi htn (pv2+1);have S8:=Blk.far HS2.out.s (p:=⟨hs i,t,none⟩) (HE4.out.sh i hi).symm (.int .i64 (pv2+1));have D8:=Blk.far HS2.out.d (p:=⟨hs i,t,none⟩) (HE4.out.dh i hi).symm (.int .i64 (pv2+1));have O8:=h_ (O3.out.setCell (p:=⟨hs i,t,none⟩) (fun _=>Or.inr (Or.inr ⟨i,hi,rfl⟩)) (.int .i64 (pv2+1)));rw[Hhi.out] at P8 S8 D8 O8;have HS8:=h_ (RSt.mk S8 D8 P8);have Hst2:=h_ hst;clear P8 S8 D8 hst hqv2 hpv2 hit;go_wp2_with fail;go_ret;exact⟨true,s2,d2,_,rfl,HS8.out,HO1.out.trans O8.out (fun _ _ h=>h),Or.inr ⟨rfl,Hst2.out⟩⟩
      ·have g1: ¬pv≥cv:=by omega
       as_aux_lemma =>
       have hfr:0<cv-pv+qv:=by omega
       have hun:unseen n s'<m:=by
        have:=unseen_lt (s:=s) (s':=s') (i:=i) hP.out.old hi Hsi.out hP.out.self;have:=Hm.out;omega
       go_upto_region 8 with(fail)
       refine w_g ?_
       repeat (go_big_quiet_step (fail))
       refine wpQuiet_nil ?_;intro W3 hW3;have E3:Ext wr W3:=by
        obtain⟨x,rfl⟩:=hW3;exact(Ext.refl _).grow x
       clear hW3;obtain⟨hcW3,hfW3,hzW3⟩:=ext_facts E3;clear hcW3 hfW3 hzW3 cS bx cPr cPt cCr cP cQ cC;have envr:=HG.out.ext E3;have CW:=IH.out t s' d put W3 hun htn Hbt.out Hput.out Hd.out envr (HST.out.ext E3);have HE3:=h_ (HO.out.ext E3);have HEn:=h_ envr;have HB3:=h_ (HBX.out.ext E3);have bx:=HB3.out.cell;clear envr E3;go_wp2_with fail;clear bx;refine CW.mono ?_;rintro e W4 ⟨b2,s2,d2,p2,rfl,ST2,O2,hpost⟩;have O3:=h_ (HE3.out.trans O2 (fun _ _ h=>h));have HB4:=h_ (HB3.out.only O2 HXK.out);clear CW;rcases hpost with⟨rfl,rfl,rfl,hno⟩|⟨rfl,hok⟩
       ·have Hf:=h_ (hP.out.fail hi htn (by rw[Hres.out];exact hfr) hno);have HS2:=h_ ST2;clear hno ST2 O2;go_wp2_with fail;go_roundw
        case rel=>exact⟨t+1,s2,by omega,by go_num,Hf,HS2.out,O3.out⟩
        case measure=>simp only[intOf];omega
       ·have env4:=HEn.out.only O2;have cq:=ST2.p.cell htn hi;have cp:=ST2.p.cell hi htn;have cPr:=rows_cell env4.p hi rfl;have cPt:=rows_cell env4.p htn rfl;have bx:=HB4.out.cell;have q1:=hok.lo t htn i hi;have q2:=hok.hi t htn i hi;have q3:=(Hcap.out t htn i hi).2;have p1:=hok.lo i hi t htn;have p3:=hok.hi i hi t htn;have p4:=(Hcap.out i hi t htn).2;have fq:=(ST2.p.r t htn).frozen i;have fp:=(ST2.p.r i hi).frozen t;rw[Hhi.out] at cPr cp fp;rw[Hht.out] at cPt cq fq;obtain⟨qv2,hqv2⟩:=nm (p2 t i);obtain⟨pv2,hpv2⟩:=nm (p2 i t);have hit:i≠t:=fun e=>by have h1:=hP.out.self;rw[e,Hbt.out] at h1;cases h1
        have hst:=WayOk.step (amt:=1) (got:=1) hi htn Hsi.out hP.out.old hP.out.self Hbt.out (by rw[Hres.out];exact hfr) (by rw[Hres.out,show min 1 (cv-pv+qv)=1 by omega];exact hok);rw[hqv2] at cq q1 q2;rw[hpv2] at cp p1 p3;have q5:qv2≤1073741824:=by omega
        have p5:pv2≤1073741824:=by omega
        have HS2:=h_ ST2;have HE4:=h_ env4;clear hok ST2 env4 O2 q2 q3 p3 p4 hun;by_cases hq2:0<qv2
        ·rw[step_pos hit (by rw[hqv2];exact hq2),hqv2] at hst;have P8:=HS2.out.p.set_ htn hi (qv2-1);have S8:=Blk.far HS2.out.s (p:=⟨hs t,i,none⟩) (HE4.out.sh t htn).symm (.int .i64 (qv2-1));have D8:=Blk.far HS2.out.d (p:=⟨hs t,i,none⟩) (HE4.out.dh t htn).symm (.int .i64 (qv2-1));have O8:=h_ (O3.out.setCell (p:=⟨hs t,i,none⟩) (fun _=>Or.inr (Or.inr ⟨t,htn,rfl⟩)) (.int .i64 (qv2-1)));rw[Hht.out] at P8 S8 D8 O8;have HS8:=h_ (RSt.mk S8 D8 P8);have Hst2:=h_ hst;clear P8 S8 D8 hst hqv2 hpv2 hit;go_wp2_with fail;go_ret;exact⟨true,s2,d2,_,rfl,HS8.out,HO1.out.trans O8.out (fun _ _ h=>h),Or.inr ⟨rfl,Hst2.out⟩⟩
        ·rw[step_zero (by rw[hqv2];omega),hpv2] at hst;have P8:=HS2.out.p.set_ hi htn (pv2+1);have S8:=Blk.far HS2.out.s (p:=⟨hs i,t,none⟩) (HE4.out.sh i hi).symm (.int .i64 (pv2+1));have D8:=Blk.far HS2.out.d (p:=⟨hs i,t,none⟩) (HE4.out.dh i hi).symm (.int .i64 (pv2+1));have O8:=h_ (O3.out.setCell (p:=⟨hs i,t,none⟩) (fun _=>Or.inr (Or.inr ⟨i,hi,rfl⟩)) (.int .i64 (pv2+1)));rw[Hhi.out] at P8 S8 D8 O8;have HS8:=h_ (RSt.mk S8 D8 P8);have Hst2:=h_ hst;clear P8 S8 D8 hst hqv2 hpv2 hit;go_wp2_with fail;go_ret;exact⟨true,s2,d2,_,rfl,HS8.out,HO1.out.trans O8.out (fun _ _ h=>h),Or.inr ⟨rfl,Hst2.out⟩⟩
     ·have Hsk:=h_ (hP.out.skip (t:=t) (by rw[Hbt.out,Hres.out];exact Or.inl rfl))
      go_upto_region 8 with(fail)
      refine w_g ?_
      repeat (go_big_quiet_step (fail))
      refine wpQuiet_nil ?_;intro W3 hW3;have E3:Ext wr W3:=by
       obtain⟨x,rfl⟩:=hW3;exact(Ext.refl _).grow x
      clear hW3;obtain⟨hcW3,hfW3,hzW3⟩:=ext_facts E3;clear hcW3 hfW3 hzW3 cS bx cPr cPt cCr cP cQ cC;have HE3:=h_ E3;clear E3;go_wp2_with fail;go_roundw
      case rel=>exact⟨t+1,s',by omega,by go_num,Hsk,HST.out.ext HE3.out,HO.out.ext HE3.out⟩
      case measure=>simp only[intOf];omega
    ·obtain rfl:t=n:=by omega
     have HAl:=h_ (hP.out.all (Nat.le_refl _));clear ge ST O;go_wp2_with fail;go_ret;exact⟨false,s',d,put,rfl,HST.out,HO1.out.trans HO.out (fun _ _ h=>h),Or.inl ⟨rfl,rfl,rfl,HAl.out⟩⟩
end Go.Proofs.YtojolpbpjimfgaaGreatDoor
