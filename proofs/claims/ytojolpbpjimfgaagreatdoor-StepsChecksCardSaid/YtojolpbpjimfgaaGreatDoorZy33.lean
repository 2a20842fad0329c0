/- Texts of the proof: Way, Weight. -/
import Derived.Test.YtojolpbpjimfgaaGreatDoorZy18
import Derived.Test.YtojolpbpjimfgaaGreatDoorZy24
import Derived.Test.YtojolpbpjimfgaaGreatDoorZy25
import Derived.Test.YtojolpbpjimfgaaGreatDoorZy32
set_option maxHeartbeats 16000000
set_option maxRecDepth 100000
namespace Go.Proofs.YtojolpbpjimfgaaGreatDoor
open Go.RowKit
def wayV(S GR D N M P V:Nat):Value:= .func (.func 128) #[] #[.pointer (some ⟨S,0,none⟩),.pointer (some ⟨GR,0,none⟩),.pointer (some ⟨D,0,none⟩),.pointer (some ⟨N,0,none⟩),.pointer (some ⟨M,0,none⟩),.pointer (some ⟨P,0,none⟩),.pointer (some ⟨V,0,none⟩)]
def WApart(b S GR D N M P V GM:Nat)(GA:Option Addr)(gn:Nat):Prop:=b≠S∧b≠GR∧b≠D∧b≠N∧b≠M∧b≠P∧b≠V∧b≠GM ∧ ∀q,GA=some q→0<gn→b≠q.block
structure WEnv(w:World)(S GR D N M P V SB DB GM GP:Nat)(GA:Option Addr)(gc n:Nat)(gl:List Bool)(cap:Nat→Nat→Int):Prop where
 s:Blk w S 114 #[.slice (some ⟨SB,0,none⟩) n n]
 g:Blk w GR 114 #[.slice GA n gc]
 d:Blk w D 26 #[.slice (some ⟨DB,0,none⟩) n n]
 n_:Blk w N 3 #[.int .i64 n]
 m:Blk w M 179 #[.pointer (some ⟨GM,0,none⟩)]
 p:Blk w P 179 #[.pointer (some ⟨GP,0,none⟩)]
 v:Blk w V 221 #[wayV S GR D N M P V]
 gr:BoolsZ w GA gc gl
 mb:MatB w GM cap
 ne: ∀b,b=SB∨b=DB∨b=GP→WApart b S GR D N M P V GM GA gl.length
 sd:SB≠DB
 sp:SB≠GP
 dp:DB≠GP
theorem SliceIs.only0{K:Nat→Prop}{a b:World}{A:Option Addr}{n cap sz:Nat}{rows:List (List Value)}(h:SliceIs a A n cap sz rows)(k:Only K a b)(hA: ∀q,A=some q→0<n → ¬K q.block):SliceIs b A n cap sz rows:=by
 rcases Nat.eq_zero_or_pos n with h0|h0
 ·exact⟨h.len,h.le,h.small,h.wide,fun hn=>by omega⟩
 ·exact SliceIs.only h k fun q hq=>hA q hq h0
section
variable {w w':World} {S GR D N M P V SB DB GM GP:Nat} {GA:Option Addr} {gc n:Nat} {gl:List Bool} {cap:Nat→Nat→Int}
theorem WEnv.onlyK{K:Nat→Prop}(h:WEnv w S GR D N M P V SB DB GM GP GA gc n gl cap)(k:Only K w w')(hK: ∀b,K b→WApart b S GR D N M P V GM GA gl.length):WEnv w' S GR D N M P V SB DB GM GP GA gc n gl cap :=
 ⟨h.s.only k (fun e=>(hK _ e).1 rfl),h.g.only k (fun e=>(hK _ e).2.1 rfl),h.d.only k (fun e=>(hK _ e).2.2.1 rfl),h.n_.only k (fun e=>(hK _ e).2.2.2.1 rfl),h.m.only k (fun e=>(hK _ e).2.2.2.2.1 rfl),
  h.p.only k (fun e=>(hK _ e).2.2.2.2.2.1 rfl),h.v.only k (fun e=>(hK _ e).2.2.2.2.2.2.1 rfl),SliceIs.only0 h.gr k (fun q hq h0 e=>(hK _ e).2.2.2.2.2.2.2.2 q hq h0 rfl),Blk.only h.mb k (fun e=>(hK _ e).2.2.2.2.2.2.2.1 rfl),h.ne,h.sd,h.sp,h.dp⟩
theorem WEnv.only(h:WEnv w S GR D N M P V SB DB GM GP GA gc n gl cap)(k:Only (fun b=>b=SB∨b=DB∨b=GP) w w'):WEnv w' S GR D N M P V SB DB GM GP GA gc n gl cap:=h.onlyK k h.ne
theorem WEnv.ext(h:WEnv w S GR D N M P V SB DB GM GP GA gc n gl cap)(E:Ext w w'):WEnv w' S GR D N M P V SB DB GM GP GA gc n gl cap:=h.only (Only.of_ext _ E)
end
structure WSt(w:World)(SB DB GP n:Nat)(s:Nat→Bool)(d:Nat→Int)(put:Nat→Nat→Int):Prop where
 s:BRow w SB n s
 d:NRow w DB n d
 p:MatB w GP put
theorem WSt.ext{w w':World}{SB DB GP n:Nat}{s:Nat→Bool}{d:Nat→Int}{put:Nat→Nat→Int}(h:WSt w SB DB GP n s d put)(E:Ext w w'):WSt w' SB DB GP n s d put:=⟨h.s.ext E,h.d.ext E,h.p.ext E⟩
def WayPost(n:Nat)(cap:Nat→Nat→Int)(gr s:Nat→Bool)(put:Nat→Nat→Int)(d:Nat→Int)(i:Nat)(amt:Int)(SB DB GP:Nat)(w:World)(e:Ending)(w':World):Prop :=
 ∃(got:Int) (s':Nat→Bool) (d':Nat→Int) (put':Nat→Nat→Int),e = .returned (.int .i64 got)∧WSt w' SB DB GP n s' d' put'∧Only (fun b=>b=SB∨b=DB∨b=GP) w w' ∧
  ((got=0∧d'=d∧put'=put∧WayNo n cap gr s put i s')∨(0<got∧WayOk n cap gr s put d i amt got put' d'))
theorem way_c(S GR D N M P V SB DB GM GP:Nat)(GA:Option Addr)(gc n:Nat)(gl:List Bool)(cap:Nat→Nat→Int)(hn:n≤40)(hgl:gl.length=n)(hcap: ∀a,a<n → ∀b,b<n→0≤cap a b∧cap a b≤1073741824) :
  ∀(m i:Nat) (amt:Int) (s:Nat→Bool) (d:Nat→Int) (put:Nat→Nat→Int) (w:World),unseen n s<m→i<n→s i=false→0<amt→amt≤4294967296→(∀a,a<n → ∀b,b<n→0≤put a b∧put a b≤cap a b)→(∀v,v<n→0≤d v∧d v≤4294967296) →
   WEnv w S GR D N M P V SB DB GM GP GA gc n gl cap→WSt w SB DB GP n s d put →
   Calls Tryz.prog 128 #[.int .i64 i,.int .i64 amt,.pointer (some ⟨S,0,none⟩),.pointer (some ⟨GR,0,none⟩),.pointer (some ⟨D,0,none⟩),.pointer (some ⟨N,0,none⟩),.pointer (some ⟨M,0,none⟩),.pointer (some ⟨P,0,none⟩),.pointer (some ⟨V,0,none⟩)] w
    (WayPost n cap (grF gl) s put d i amt SB DB GP w):=by
 intro m
 induction m with
 | zero =>
  intro i amt s d put w hm;omega
 | succ m ih =>
  intro i amt s d put w hm hi hsi ha0 ha1 hput hd env st;have IH:=h_ ih;have Hm:=h_ hm;have Hput:=h_ hput;have Hsi:=h_ hsi;have Hcap:=h_ hcap;have Hd:=h_ hd;obtain⟨gg,goff,gb,hGA,hgb,-,cg⟩:=env.gr.at_ (k:=i) (by rw[hgl];exact hi);have hgf:grF gl i=gb:=by unfold grF;rw[List.getD_eq_getElem?_getD,hgb];rfl
  have Hgf:=h_ hgf;have HGA:=h_ hGA;have hne:=env.ne SB (Or.inl rfl);have hng:=hne.2.2.2.2.2.2.2.2 _ hGA (by omega);simp only at hng;have cs:=env.s.cell;have c1:=st.s.cell hi;have f1:=Blk.frozen st.s i;obtain⟨W1,hW1⟩:=nm (w.setCell ⟨SB,i,none⟩ (.bool true));have O1:Only (fun b=>b=SB∨b=DB∨b=GP) w W1:=by rw[←hW1];exact(Only.refl _ w).setCell (p:=⟨SB,i,none⟩) (fun _=>Or.inl rfl) _
  have S1:=st.s.set_ i true;have D1:=Blk.far st.d (p:=⟨SB,i,none⟩) env.sd.symm (.bool true);have P1:=Blk.far st.p (p:=⟨SB,i,none⟩) env.sp.symm (.bool true);rw[hW1] at S1 D1 P1;have env1:=env.only O1;have st1:WSt W1 SB DB GP n (setB s i true) d put:=⟨S1,D1,P1⟩;have cg1:=env1.g.cell;have cg2:W1.cell? ⟨gg,goff+i,none⟩=some (.bool gb):=by
   obtain⟨g',o',b',hG',hb',-,c'⟩:=env1.gr.at_ (k:=i) (by rw[hgl];exact hi);rw[hGA] at hG';cases hG';rw[hgb] at hb';cases hb';exact c'
  have i0:(0:Int)≤i:=by omega
  have i1:(i:Int)<n:=by omega
  have hgc:n≤gc:=by have:=env.gr.le;rw[hgl] at this;exact this
  have i2:(i:Int)<gc:=by omega
  have HO1:=h_ O1;have Henv:=h_ env1;have Hst:=h_ st1;clear hm hput hcap hd hsi ih hgf hgb env st cg S1 D1 P1 O1 env1 st1 hgc;subst hGA;cases gb;rotate_left
  ·have cd:=Henv.out.d.cell;have c2:=Hst.out.d.cell hi;have f2:=Blk.frozen Hst.out.d i;have hdi:=Hd.out i hi;obtain⟨di,hdi'⟩:=nm (d i);rw[hdi'] at c2 hdi;obtain⟨hd1,hd2⟩:=hdi;have Hdi:=h_ hdi';clear hdi';go_enter Tryz.func128,Tryz.ntmps128;go_wp2_with fail;go_ret;have e1:setN d i (di+amt)=fun v=>if v=i then d v+amt else d v:=by
    funext v;unfold setN
    split
    ·rename_i h;rw[h,Hdi.out]
    ·rfl
   have hne:=Henv.out;refine⟨amt,setB s i true,setN d i (di+amt),put,rfl,⟨Blk.far Hst.out.s (p:=⟨DB,i,none⟩) hne.sd _,Hst.out.d.set_ i _,Blk.far Hst.out.p (p:=⟨DB,i,none⟩) hne.dp.symm _⟩,HO1.out.setCell (p:=⟨DB,i,none⟩) (fun _=>Or.inr (Or.inl rfl)) _,Or.inr ⟨ha0,?_⟩⟩;rw[e1];exact WayOk.gr Hgf.out ha0 (fun a ha b hb=>(Hput.out a ha b hb).1) (fun a ha b hb=>(Hput.out a ha b hb).2) hi
  ·have HWP:=h_ (WayP.start (n:=n) (cap:=cap) (seen:=s) (put:=put) Hgf.out);have cn:=Henv.out.n_.cell;go_enter Tryz.func128,Tryz.ntmps128;go_wp2_with fail;clear cs c1 f1 cg1 cg2 cn hng;have HS1:=Hst.out;go_loopw [32] (fun ii wr=> ∃(t:Nat) (s':Nat→Bool),t≤n∧ii = .int .i64 t∧Hid (WayP n cap (grF gl) s put i t s')∧WSt wr SB DB GP n s' d put∧Only (fun b=>b=SB∨b=DB∨b=GP) W1 wr) (fun ii _=>n-(intOf ii).toNat)
   case atStart=>exact⟨0,_,by omega,rfl,HWP,HS1,Only.refl _ _⟩
   case round =>
    clear HS1;obtain⟨t,s',ht,rfl,hP,ST,O⟩:=hrel;have ge:=Henv.out.only O;have HG:=h_ ge;have HST:=h_ ST;have HO:=h_ O;by_cases htn:t<n
    ·obtain⟨bt,hbt⟩:=nm (s' t);have cS:=ST.s.cell htn;rw[hbt] at cS;have Hbt:=h_ hbt;have c0:=ge.s.cell;have c6:=ge.m.cell;have c7:=ge.p.cell;have cM:=ge.mb.cell (a:=i) (b:=t) (by omega) (by omega);have cP:=ST.p.cell (a:=i) (b:=t) (by omega) (by omega);have cQ:=ST.p.cell (a:=t) (b:=i) (by omega) (by omega);have hc:=Hcap.out i hi t htn;have hp:=Hput.out i hi t htn;have hq:=Hput.out t htn i hi;have hcq:=Hcap.out t htn i hi;obtain⟨cv,hcv⟩:=nm (cap i t);obtain⟨pv,hpv⟩:=nm (put i t);obtain⟨qv,hqv⟩:=nm (put t i);have hres:resid cap put i t=cv-pv+qv:=by unfold resid;rw[hcv,hpv,hqv]
     have Hres:=h_ hres;rw[hcv] at cM hc hp;rw[hpv] at cP hp;rw[hqv] at cQ hq;obtain⟨hc0,hc1⟩:=hc;obtain⟨hp0,hp1⟩:=hp;have hq0:=hq.1;have hq1:qv≤1073741824:=by omega
     have t0:(0:Int)≤t:=by omega
     have t1:(t:Int)<n:=by omega
     have i40:(i:Int)<40:=by omega
     have t40:(t:Int)<40:=by omega
     clear hbt hcv hpv hqv hres hq hcq ge ST O
     go_upto_region 8 with(fail)
     refine w_g ?_
     repeat (go_big_quiet_step (fail))
     refine wpQuiet_nil ?_;intro W3 hW3;have E3:Ext wr W3:=by
      obtain⟨x,rfl⟩:=hW3;exact(Ext.refl _).grow x
     clear hW3;obtain⟨hcW3,hfW3,hzW3⟩:=ext_facts E3;clear hcW3 hfW3 hzW3;replace c0:=(HG.out.ext E3).s.cell;replace cS:=E3.cell cS;clear c6 c7 cM cP cQ;by_cases hskip:bt=true∨cv-pv+qv≤0
     ·have Hsk:=h_ (hP.out.skip (by rw[Hbt.out,Hres.out];exact hskip.imp id (fun h=>by omega)));have HE3:=h_ E3;clear E3;cases bt
      ·have hfr:cv-pv+qv≤0:=hskip.resolve_left (by decide);clear hskip;go_wp2_with fail;go_roundw
       case rel=>exact⟨t+1,s',by omega,by go_num,Hsk,HST.out.ext HE3.out,HO.out.ext HE3.out⟩
       case measure=>simp only[intOf];omega
      ·clear hskip;go_wp2_with fail;go_roundw
       case rel=>exact⟨t+1,s',by omega,by go_num,Hsk,HST.out.ext HE3.out,HO.out.ext HE3.out⟩
       case measure=>simp only[intOf];omega
     ·obtain⟨rfl,hfr⟩:bt=false∧0<cv-pv+qv:=by
       constructor
       ·cases bt
        ·rfl
        ·exact absurd (Or.inl rfl) hskip
       ·omega
      have hnf: ¬cv-pv+qv≤0:=by omega
      have hun:unseen n s'<m:=by
       have:=unseen_lt (s:=s) (s':=s') (i:=i) hP.out.old hi Hsi.out hP.out.self;have:=Hm.out;omega
      have envr:=HG.out.ext E3;have c8:=envr.v.cell;unfold wayV at c8;have CW:=IH.out t (min amt (cv-pv+qv)) s' d put W3 hun htn Hbt.out (by omega) (by omega) Hput.out Hd.out envr (HST.out.ext E3);have HE3:=h_ (HO.out.ext E3);have HEn:=h_ envr;clear hskip envr E3;go_wp2_with fail;refine CW.mono ?_;rintro e W4 ⟨got,s2,d2,p2,rfl,ST2,O2,hpost⟩;clear c0 cS c8 CW;have O3:=h_ (HE3.out.trans O2 (fun _ _ h=>h));rcases hpost with⟨rfl,rfl,rfl,hno⟩|⟨hgot,hok⟩
      ·have Hf:=h_ (hP.out.fail hi htn (by rw[Hres.out];exact hfr) hno);have HS2:=h_ ST2;clear hno ST2 O2;go_wp2_with fail;go_roundw
       case rel=>exact⟨t+1,s2,by omega,by go_num,Hf,HS2.out,O3.out⟩
       case measure=>simp only[intOf];omega
      ·have env4:=HEn.out.only O2;have cq:=ST2.p.cell (a:=t) (b:=i) (by omega) (by omega);have c7:=env4.p.cell;have q1:=hok.lo t htn i hi;have q2:=hok.hi t htn i hi;have q3:=(Hcap.out t htn i hi).2;have p1:=hok.lo i hi t htn;have p3:=hok.hi i hi t htn;have p4:=(Hcap.out i hi t htn).2;have hgle:=hok.le;obtain⟨qv2,hqv2⟩:=nm (p2 t i);obtain⟨pv2,hpv2⟩:=nm (p2 i t);rw[hqv2] at cq q1 q2;rw[hpv2] at p1 p3;obtain⟨bk,hbk⟩:=nm (min qv2 got);have hb0:0≤bk:=by omega
       have hb1:bk≤got:=by omega
       have hb2:bk≤qv2:=by omega
       have hg9:got≤4294967296:=by omega
       have Hbk:=h_ hbk;have Hq2:=h_ hqv2;have Hp2:=h_ hpv2;have HS2:=h_ ST2;have HE4:=h_ env4;have Hok:=h_ hok;have Hit:=h_ (show ¬(i=t) from fun e=>by have h1:=hP.out.self;rw[e,Hbt.out] at h1;cases h1);have q4:qv2≤1073741824:=by omega
       have p5:pv2≤1073741824:=by omega
       clear hok ST2 env4 O2 hqv2 hpv2 q2 q3 p3 p4 hgle hun
       go_upto_region 13 with(fail)
       clear hbk;refine wp_region_tail 12 (by kernel_rfl) (by kernel_rfl) ?_;simp only[List.take_succ_cons,List.take_zero,List.drop_succ_cons,List.drop_zero]
       repeat (go_big_quiet_step (fail))
       refine wpQuiet_nil ?_;intro W5 hW5;have E5:Ext W4 W5:=by
        obtain⟨x,rfl⟩:=hW5;exact(Ext.refl _).grow x
       clear hW5;obtain⟨hcW5,hfW5,hzW5⟩:=ext_facts E5;clear hcW5 hfW5 hzW5 cq c7;have S5:=HS2.out.ext E5;have cq:=S5.p.cell (a:=t) (b:=i) (by omega) (by omega);rw[Hq2.out] at cq;have fq:=Blk.frozen S5.p (t*40+i);obtain⟨W6,hW6⟩:=nm (W5.setCell ⟨GP,t*40+i,none⟩ (.int .i64 (qv2-bk)));have env5:=HE4.out.ext E5;have O6:Only (fun b=>b=SB∨b=DB∨b=GP) W4 W6:=by rw[←hW6];exact(Only.of_ext _ E5).setCell (p:=⟨GP,t*40+i,none⟩) (fun _=>Or.inr (Or.inr rfl)) _
       have P6:=S5.p.set_ (a:=t) (b:=i) (by omega) (qv2-bk);have S6:=Blk.far S5.s (p:=⟨GP,t*40+i,none⟩) env5.sp (.int .i64 (qv2-bk));have D6:=Blk.far S5.d (p:=⟨GP,t*40+i,none⟩) env5.dp (.int .i64 (qv2-bk));rw[hW6] at P6 S6 D6;have HS6:=h_ (WSt.mk S6 D6 P6);have env6:=HE4.out.only O6;have HE6:=h_ env6;have HO6:=h_ O6;have c7:=env6.p.cell;have cp:=P6.cell (a:=i) (b:=t) (by omega) (by omega);have eu:upd p2 t i (qv2-bk) i t=pv2:=by
        unfold upd;rw[if_neg (fun e=>Hit.out e.1),Hp2.out]
       rw[eu] at cp;clear env5 env6 S5 S6 D6 P6 O6 E5 eu
       go_upto_region 14 with(fail)
       clear cq fq;refine wp_region_tail 14 (by kernel_rfl) (by kernel_rfl) ?_;simp only[List.take_succ_cons,List.take_zero,List.drop_succ_cons,List.drop_zero]
       repeat (go_big_quiet_step (fail))
       refine wpQuiet_nil ?_;intro W7 hW7;have E7:Ext W6 W7:=by
        obtain⟨x,rfl⟩:=hW7;exact(Ext.refl _).grow x
       clear hW7;obtain⟨hcW7,hfW7,hzW7⟩:=ext_facts E7;clear hcW7 hfW7 hzW7 cp c7;have S7:=HS6.out.ext E7;have cp:=S7.p.cell (a:=i) (b:=t) (by omega) (by omega);rw[show upd p2 t i (qv2-bk) i t=pv2 by unfold upd;rw[if_neg (fun e=>Hit.out e.1),Hp2.out]] at cp;have fp:=Blk.frozen S7.p (i*40+t);have env7:=HE6.out.ext E7;have O8:=h_ ((HO6.out.ext E7).setCell (p:=⟨GP,i*40+t,none⟩) (fun _=>Or.inr (Or.inr rfl)) (.int .i64 (pv2+(got-bk))));have HS8:=h_ (WSt.mk (Blk.far S7.s (p:=⟨GP,i*40+t,none⟩) env7.sp (.int .i64 (pv2+(got-bk)))) (Blk.far S7.d (p:=⟨GP,i*40+t,none⟩) env7.dp (.int .i64 (pv2+(got-bk)))) (S7.p.set_ (a:=i) (b:=t) (by omega) (pv2+(got-bk))));have hst:=WayOk.step (amt:=amt) hi htn Hsi.out hP.out.old hP.out.self Hbt.out (by rw[Hres.out];exact hfr) (by rw[Hres.out];exact Hok.out);rw[Hq2.out,Hp2.out,Hbk.out] at hst;have Hst2:=h_ hst;clear S7 env7 E7 hst;go_wp2_with fail;go_ret;exact⟨got,s2,d2,_,rfl,HS8.out,(HO1.out.trans O3.out (fun _ _ h=>h)).trans O8.out (fun _ _ h=>h),Or.inr ⟨hgot,Hst2.out⟩⟩
    ·obtain rfl:t=n:=by omega
     have HAl:=h_ (hP.out.all (Nat.le_refl _));clear ge ST O;go_wp2_with fail;go_ret;exact⟨0,s',d,put,rfl,HST.out,HO1.out.trans HO.out (fun _ _ h=>h),Or.inl ⟨rfl,rfl,rfl,HAl.out⟩⟩
theorem wt_parts{qs:List (Knd×KAt)}{bs:List Brk}(hf:Fit (qs.map (·.1)) bs){i:Nat}(hi:i<bs.length): ∃(m:Nat) (k:Knd) (p:KAt),(brkAt bs i).kind=m∧m<qs.length∧qs[m]? = some (k,p)∧wtOf (qs.map (·.1)) bs i=k.weight∧1≤k.weight∧k.weight≤100:=by
 obtain⟨m,tn,k,e1,e2,htn,hk,hv,hfi,hp,h1,h2⟩:=hf.b i hi;rw[List.getElem?_map] at hk;obtain⟨⟨k',p⟩,hq,rfl⟩:=Option.map_eq_some_iff.1 hk;have hm:=(List.getElem?_eq_some_iff.1 hq).1;refine⟨m,k',p,e1,hm,hq,?_,?_⟩
 ·unfold wtOf kindAt;rw[e1,Int.toNat_natCast,List.getD_eq_getElem?_getD,List.getElem?_map,hq];rfl
 ·have hs:k'.sized=true:=by
   unfold Knd.valid at hv;simp only[Bool.and_eq_true] at hv;exact hv.1
  have:=sized_iff.1 hs;omega
theorem weight_c(X:Nat)(qs:List (Knd×KAt))(QA:Option Addr)(qc:Nat)(bs:List Brk)(B:Option Addr)(cb:Nat)(CA:Option Addr)(cc M:Nat)(JA:Option Addr)(jc:Nat)(gs cp:Nat→Nat)(mm:List (Pt×Int))(w:World)(h:BuiltAt w X qs QA qc bs B cb CA cc M JA jc gs cp mm)(hk:Kinds w QA qc qs)(hb:Bricks w B cb bs)(hf:Fit (qs.map (·.1)) bs)(i:Nat)(hi:i<bs.length) :
  Calls Tryz.prog 129 #[.pointer (some ⟨X,0,none⟩),.int .i64 i] w fun e w'=>e = .returned (.int .i64 (wtOf (qs.map (·.1)) bs i))∧Ext w w':=by
 obtain⟨m,k,p,e1,hm,hq,hw,-,-⟩:=wt_parts hf hi;have hn:=hf.n;obtain⟨g,off,rfl⟩:=bricks_addr hb (by omega);obtain⟨c0,-⟩:=bricks_cell hb hi rfl;rw[e1] at c0;obtain⟨qb,qoff,k',p',rfl,hq',-,-,-,-,c2⟩:=hk.at_ hm;rw[hq] at hq';cases hq';have bx:=h.x.cell;have hql:qs.length≤9223372036854775807:=by have:=hk.len;unfold maxLen at this;omega
 have i0:(0:Int)≤i:=by omega
 have i1:(i:Int)<bs.length:=by omega
 have m0:(0:Int)≤m:=by omega
 have m1:(m:Int)<qs.length:=by omega
 rw[hw];clear h hk hb hf hq e1 hw;go_enter Tryz.func129,Tryz.ntmps129
 go_upto_region 1 with(fail)
 refine w_g ?_
 repeat (go_big_quiet_step (fail))
 refine wpQuiet_nil ?_;intro W3 hW3;have E3:Ext w W3:=by
  obtain⟨x,rfl⟩:=hW3;exact(Ext.refl _).grow x
 clear hW3;obtain⟨hcW3,hfW3,hzW3⟩:=ext_facts E3;clear hcW3 hfW3 hzW3;go_wp2_with fail;refine bodyPost_ret (v:= .int .i64 k.weight) (by simp[results,Tryz.results129,go_sem]) rfl ⟨rfl,E3⟩
theorem rWeight_c(qs:List (Knd×KAt))(QA:Option Addr)(qc:Nat)(bs:List Brk)(B:Option Addr)(cb:Nat)(w:World)(hk:Kinds w QA qc qs)(hb:Bricks w B cb bs)(hf:Fit (qs.map (·.1)) bs)(i:Nat)(hi:i<bs.length) :
  Calls Tryz.prog 135 #[.slice QA qs.length qc,.agg #[.slice B bs.length cb],.int .i64 i] w fun e w'=>e = .returned (.int .i64 (wtOf (qs.map (·.1)) bs i))∧Ext w w':=by
 obtain⟨m,k,p,e1,hm,hq,hw,-,-⟩:=wt_parts hf hi;have hn:=hf.n;obtain⟨g,off,rfl⟩:=bricks_addr hb (by omega);obtain⟨W1,hW1,E1,B1,hz1⟩:=mk_ w #[.slice (some ⟨g,off,none⟩) bs.length cb] 25;obtain⟨c0,-⟩:=bricks_cell (hb.ext E1) hi rfl;rw[e1] at c0;obtain⟨qb,qoff,k',p',rfl,hq',-,-,-,-,c2⟩:=(hk.ext E1).at_ hm;rw[hq] at hq';cases hq';have b1:=B1.cell;have hql:qs.length≤9223372036854775807:=by have:=hk.len;unfold maxLen at this;omega
 have i0:(0:Int)≤i:=by omega
 have i1:(i:Int)<bs.length:=by omega
 have m0:(0:Int)≤m:=by omega
 have m1:(m:Int)<qs.length:=by omega
 have HE:=h_ E1;rw[hw];clear hk hb hf hq e1 hw hz1 B1 E1;go_enter Tryz.func135,Tryz.ntmps135;go_wp2_with fail;refine bodyPost_ret (v:= .int .i64 k.weight) (by simp[results,Tryz.results135,go_sem]) rfl ⟨rfl,HE.out⟩
end Go.Proofs.YtojolpbpjimfgaaGreatDoor
