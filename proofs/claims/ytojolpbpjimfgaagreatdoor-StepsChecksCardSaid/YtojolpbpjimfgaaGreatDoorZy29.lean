/- Texts of the proof: Start, BoxU. -/
import Derived.Test.YtojolpbpjimfgaaGreatDoorZy14
import Derived.Test.YtojolpbpjimfgaaGreatDoorZy16
import Derived.Test.YtojolpbpjimfgaaGreatDoorZy22
import Derived.Test.YtojolpbpjimfgaaGreatDoorZy26
import Derived.Test.YtojolpbpjimfgaaGreatDoorZy28
set_option maxHeartbeats 16000000
set_option maxRecDepth 100000
namespace Go.Proofs.YtojolpbpjimfgaaGreatDoor
open Go.RowKit
theorem infoClls6:(Tryz.prog.info? 109).map (fun i=>(i.zero,i.size,i.bytes))=some (some (.slice none 0 0),1,24):=by kernel_rfl
theorem infoKnbs6:(Tryz.prog.info? 110).map (fun i=>(i.zero,i.size,i.bytes))=some (some (.slice none 0 0),1,24):=by kernel_rfl
def MapN(w:World)(T:Nat)(v:Value):Prop:= ∃M,v = .map (some M)∧T≤M∧MapOf encPt evI w M []
theorem MapN.ext{w w':World}{T:Nat}{v:Value}(h:MapN w T v)(E:Ext w w'):MapN w' T v:=by
 obtain⟨M,h1,h2,h3⟩:=h;exact⟨M,h1,h2,h3.ext E⟩
def MapS(w:World)(T:Nat)(v:Value):Prop:= ∃M,v = .map (some M)∧T≤M∧MapOf enc6 evB w M []
theorem MapS.ext{w w':World}{T:Nat}{v:Value}(h:MapS w T v)(E:Ext w w'):MapS w' T v:=by
 obtain⟨M,h1,h2,h3⟩:=h;exact⟨M,h1,h2,h3.ext E⟩
def RowsN(w:World)(T n:Nat)(v:Value):Prop:= ∃G,v = .slice (some ⟨G,0,none⟩) n n∧T≤G∧JnB w G n fun _ _=>0
theorem RowsN.ext{w w':World}{T n:Nat}{v:Value}(h:RowsN w T n v)(E:Ext w w'):RowsN w' T n v:=by
 obtain⟨M,h1,h2,h3⟩:=h;exact⟨M,h1,h2,h3.ext E⟩
structure PlanE(w:World)(T n M G S:Nat):Prop where
 m:MapOf encPt evI w M []
 g:JnB w G n fun _ _=>0
 s:MapOf enc6 evB w S []
 ne:M≠S
 tm:T≤M
 tg:T≤G
 ts:T≤S
theorem PlanE.ext{w w':World}{T n M G S:Nat}(h:PlanE w T n M G S)(E:Ext w w'):PlanE w' T n M G S:=⟨h.m.ext E,h.g.ext E,h.s.ext E,h.ne,h.tm,h.tg,h.ts⟩
def PlanC(w:World)(T n:Nat)(Q B:Value)(tab:Int)(H v:Value):Prop:= ∃M G S,v = .agg (planA Q B tab H (.slice none 0 0) M G n S)∧PlanE w T n M G S
theorem PlanC.ext{w w':World}{T n:Nat}{Q B:Value}{tab:Int}{H v:Value}(h:PlanC w T n Q B tab H v)(E:Ext w w'):PlanC w' T n Q B tab H v:=by
 obtain⟨M,G,S,h1,h2⟩:=h;exact⟨M,G,S,h1,h2.ext E⟩
def PlanP(w:World)(T n:Nat)(Q B:Value)(tab:Int)(H v:Value):Prop:= ∃X M G S,v = .pointer (some ⟨X,0,none⟩)∧T≤X∧Blk w X 121 (planA Q B tab H (.slice none 0 0) M G n S)∧PlanE w T n M G S
theorem PlanP.ext{w w':World}{T n:Nat}{Q B:Value}{tab:Int}{H v:Value}(h:PlanP w T n Q B tab H v)(E:Ext w w'):PlanP w' T n Q B tab H v:=by
 obtain⟨X,M,G,S,h1,h2,h3,h4⟩:=h;exact⟨X,M,G,S,h1,h2,h3.ext E,h4.ext E⟩
structure St1(W0:World)(Q B:Value)(tab:Int)(H:Value)(nb T T1:Nat)(L:Nat→Bool)(us:Nat→Value)(w:World):Prop where
 x:Ext W0 w
 g1:L 3=true→L 8=true→us 3≠us 8
 f0:L 0=true→us 0=Q
 f1:L 1=true→us 1 = .agg #[B]
 f2:L 2=true→us 2 = .agg #[.int .i64 tab,H]
 f3:L 3=true→MapN w T (us 3)
 f4:L 4=true→us 4 = .pointer (some ⟨T1,0,none⟩)
 f5:L 5=true→us 5=B
 f6:L 6=true→us 6 = .int .i64 nb
 f7:L 7=true→RowsN w T nb (us 7)
 f8:L 8=true→MapS w T (us 8)
 f9:L 9=true→PlanC w T nb Q B tab H (us 9)
 f10:L 10=true→PlanP w T nb Q B tab H (us 10)
 f11:L 11=true→PlanP w T nb Q B tab H (us 11)
def StartPost(m:MB)(w:World)(e:Ending)(w':World):Prop:= ∃p:PlV,e = .returned (.pointer (some ⟨p.X,0,none⟩))∧w.heap.size≤p.H∧PlanAt w' m p []∧Ext w w'
theorem start_c(m:MB)(w:World)(h:MBAt w m)(h0:checkErr m.ks m.bs=0) :
  Calls Tryz.prog 28 #[.slice m.QA m.qs.length m.qc,.agg #[.slice m.B m.bs.length m.cb],.agg #[.int .i64 m.tab,.slice m.HA m.hands.length m.hc]] w (StartPost m w):=by
 obtain⟨qs,QA,qc,bs,B,cb,tab,HA,hc,hands⟩:=m;obtain⟨hk,hb,hh⟩:=h;simp only[MB.ks] at hk hb hh h0 ⊢;have hmm:= @run_makeMap Tryz.prog;have hm0:=check_model h0;have hft:=fit_of hk hb.2 h0;have hnb:=hft.n;obtain⟨T,hT⟩:=nm w.heap.size;obtain⟨W1,hW1,E1,B1,hz1⟩:=mk_ w #[.slice B bs.length cb] 25;obtain⟨W2,hW2,E2,B2,hz2⟩:=mk_ W1 #[.int .i64 tab,.slice HA hands.length hc] 28;have hmk:=make_jn bs.length (by omega);have b1:=(B1.ext E2).cell;have b2:=B2.cell;rw[hT] at B1 hz1 b1;rw[hz1] at B2 hz2 b2;have E12:=E1.trans E2;have HB1:=h_ (B1.ext E2);have HB2:=h_ B2;have HT:=h_ hT;have HE:=h_ E12;have Hz2:=h_ hz2;have Hz1:=h_ hz1;have CE:=h_ (fun(j:Nat) (hj:j<bs.length) (W:World) (E:Ext w W)=>cellsAt_c hk hb.2 hm0 hj W E);have KE:=h_ (fun(j:Nat) (hj:j<bs.length) (W:World) (E:Ext w W)=>knobsAt_c hk hb.2 hm0 hj W E);have LE:=h_ (fun(W:World) (E:Ext w W)=>linksA_c qs QA qc bs B cb W (hk.ext E) (hb.ext E));have Hcl:=h_ (fun(j:Nat) (hj:j<bs.length)=>(clen_pos hk hb.2 hm0 hj).2);have Hkl:=h_ (fun(j:Nat) (hj:j<bs.length)=>hft.klen hj);have Hft:=h_ hft;have HB:=h_ hb;have Hh0:=h_ h0;obtain⟨i9,hi9,hz9,hz91,hz92⟩:=info_parts infoClls6;obtain⟨i8,hi8,hz8,hz81,hz82⟩:=info_parts infoKnbs6;obtain⟨ks,hks⟩:=nm (qs.map (·.1));rw[hks] at CE KE LE Hcl Hkl Hft Hh0;obtain⟨nb,hnbe⟩:=nm bs.length;have Hnb:=h_ hnbe;have Hks:=h_ hks;obtain⟨nq,hnq⟩:=nm qs.length;obtain⟨nh,hnh⟩:=nm hands.length;have Hnq:=h_ hnq;have Hnh:=h_ hnh;rw[hnbe] at b1 hW1 HB1 hmk CE KE LE Hcl Hkl hnb ⊢;rw[hnh] at b2 hW2 HB2 ⊢;rw[hnq] at CE KE LE ⊢;have Hmk:=h_ hmk;clear hz1 hz2 hk hb h0 hm0 hft hks hnbe hnq hnh hT B1 B2 E1 E2 E12 hmk hh;go_enter Tryz.func28,Tryz.ntmps28
 go_upto_region 1 with(fail)
 rw[HT.out,Hz1.out];clear hW1 hW2;refine wp_region_by (St1 W2 (.slice QA nq qc) (.slice B nb cb) tab (.slice HA nh hc) nb T T) (by kernel_rfl) (by kernel_rfl) (by kernel_rfl) (fun us=>⟨(Ext.refl W2).drew,(nofun),(nofun),(nofun),(nofun),(nofun),(nofun),(nofun),(nofun),(nofun),(nofun),(nofun),(nofun),(nofun)⟩) ⟨?_,?_,?_,?_,?_,?_,?_,?_,?_,?_,?_,?_,trivial⟩ ?_
 any_goals (intro L us wx K a ha hp hd hun hI hK;replace hp:=h_ hp;replace hd:=h_ hd;simp only[putAll,Act.put,zs,Nat.reduceAdd] at ha;subst ha;simp only[Act.put,zs] at hK)
 ·go_simp;exact hK _ _ {hI with f0:=fun _=>rfl}
 ·have bb:=(HB1.out.ext hI.x).cell;go_simp;exact hK _ _ {hI with f1:=fun _=>rfl}
 ·have bb:=(HB2.out.ext hI.x).cell;go_simp;exact hK _ _ {hI with f2:=fun _=>rfl}
 ·have EW:Ext wx (wx.alloc (.map #[] 0)):=(Ext.refl wx).alloc _;have hTx:T≤wx.heap.size:=by have:=hI.x.size;have:=Hz2.out;omega
  go_simp;refine hK _ _ ⟨hI.x.trans EW,(fun _ h8 e=> ?_),hI.f0,hI.f1,hI.f2,(fun _=>⟨_,rfl,hTx,MapOf.made wx⟩),hI.f4,hI.f5,hI.f6,(fun h=>(hI.f7 h).ext EW),(fun h=>(hI.f8 h).ext EW),(fun h=>(hI.f9 h).ext EW),(fun h=>(hI.f10 h).ext EW),(fun h=>(hI.f11 h).ext EW)⟩;obtain⟨S,e8,-,m8⟩:=hI.f8 h8;have e2:Value.map (some wx.heap.size)=us 8:=e;rw[e8] at e2;have:=m8.lt;cases e2;omega
 ·go_simp;exact hK _ _ {hI with f4:=fun _=>rfl}
 ·have bb:=(HB1.out.ext hI.x).cell;rw[hI.f4 (h_p hp 4)] at hK ⊢;go_simp;exact hK _ _ {hI with f5:=fun _=>rfl}
 ·rw[hI.f5 (h_p hp 5)] at hK ⊢;go_simp;exact hK _ _ {hI with f6:=fun _=>rfl}
 ·have EW:Ext wx (wx.alloc (.cells (jnA nb fun _ _=>0) 138)):=(Ext.refl wx).alloc _;have hTx:T≤wx.heap.size:=by have:=hI.x.size;have:=Hz2.out;omega
  have hmk:=Hmk.out;rw[hI.f6 (h_p hp 6)] at hK ⊢;go_simp;exact hK _ _ ⟨hI.x.trans EW,hI.g1,hI.f0,hI.f1,hI.f2,(fun h=>(hI.f3 h).ext EW),hI.f4,hI.f5,hI.f6,(fun _=>⟨_,rfl,hTx,Blk.new _ _ _⟩),(fun h=>(hI.f8 h).ext EW),(fun h=>(hI.f9 h).ext EW),(fun h=>(hI.f10 h).ext EW),(fun h=>(hI.f11 h).ext EW)⟩
 ·have EW:Ext wx (wx.alloc (.map #[] 0)):=(Ext.refl wx).alloc _;have hTx:T≤wx.heap.size:=by have:=hI.x.size;have:=Hz2.out;omega
  go_simp;refine hK _ _ ⟨hI.x.trans EW,(fun h3 _ e=> ?_),hI.f0,hI.f1,hI.f2,(fun h=>(hI.f3 h).ext EW),hI.f4,hI.f5,hI.f6,(fun h=>(hI.f7 h).ext EW),(fun _=>⟨_,rfl,hTx,MapOf.made wx⟩),(fun h=>(hI.f9 h).ext EW),(fun h=>(hI.f10 h).ext EW),(fun h=>(hI.f11 h).ext EW)⟩;obtain⟨S,e8,-,m8⟩:=hI.f3 h3;have e2:us 3=Value.map (some wx.heap.size):=e;rw[e8] at e2;have:=m8.lt;cases e2;omega
 ·have u0:=hI.f0 (h_p hp 0);have u1:=hI.f1 (h_p hp 1);have u2:=hI.f2 (h_p hp 2);have hne:=hI.g1 (h_p hp 3) (h_p hp 8);obtain⟨M,u3,t3,m3⟩:=hI.f3 (h_p hp 3);obtain⟨G,u7,t7,m7⟩:=hI.f7 (h_p hp 7);obtain⟨S,u8,t8,m8⟩:=hI.f8 (h_p hp 8);have hMS:M≠S:=fun e=>hne (by rw[u3,u8,e]);rw[u0,u1,u2,u3,u7,u8] at hK ⊢;clear u0 u1 u2 u3 u7 u8 hne;go_simp;exact hK _ _ ⟨hI.x,hI.g1,hI.f0,hI.f1,hI.f2,hI.f3,hI.f4,hI.f5,hI.f6,hI.f7,hI.f8,(fun _=>⟨M,G,S,rfl,m3,m7,m8,hMS,t3,t7,t8⟩),hI.f10,hI.f11⟩
 ·obtain⟨M,G,S,u9,pe⟩:=hI.f9 (h_p hp 9);have EW:Ext wx (wx.alloc (.cells (planA (.slice QA nq qc) (.slice B nb cb) tab (.slice HA nh hc) (.slice none 0 0) M G nb S) 121)):=(Ext.refl wx).alloc _;have hTx:T≤wx.heap.size:=by have:=hI.x.size;have:=Hz2.out;omega
  unfold planA at u9;rw[u9] at hK ⊢;clear u9;go_simp;exact hK _ _ ⟨hI.x.trans EW,hI.g1,hI.f0,hI.f1,hI.f2,(fun h=>(hI.f3 h).ext EW),hI.f4,hI.f5,hI.f6,(fun h=>(hI.f7 h).ext EW),(fun h=>(hI.f8 h).ext EW),(fun h=>(hI.f9 h).ext EW),(fun _=>⟨_,M,G,S,rfl,hTx,Blk.new _ _ _,pe.ext EW⟩),(fun h=>(hI.f11 h).ext EW)⟩
 ·have P:=hI.f10 (h_p hp 10);obtain⟨X,M,G,S,u10,P2⟩:=P;rw[u10] at hK ⊢;clear u10;go_simp;exact hK _ _ ⟨hI.x,hI.g1,hI.f0,hI.f1,hI.f2,hI.f3,hI.f4,hI.f5,hI.f6,hI.f7,hI.f8,hI.f9,hI.f10,(fun _=>⟨X,M,G,S,rfl,P2⟩)⟩
 intro L us V0 hall hI;obtain⟨X,M,G,S,u11,hX,PB,PE⟩:=hI.f11 (hall 11 (by simp));simp only[putAll,Act.put,zs,Nat.reduceAdd,u11];obtain⟨U,hU⟩:=nm V0.heap.size;obtain⟨P,hP⟩: ∃P:StP,P=⟨U,T,X,M,G,S,nb,.slice QA nq qc,.slice B nb cb,.slice HA nh hc,tab⟩:=⟨_,rfl⟩;have BM0:=HB1.out.ext hI.x;have OK:StOk w P:=by
  have h1:=PE.m.lt;have h2:=Blk.lt PE.g;have h3:=PE.s.lt;have h4:=PB.lt;have h5:=BM0.lt;have h6:=PE.tm;have h7:=PE.tg;have h9:=PE.ts;have h8:=HT.out;rw[hU] at h1 h2 h3 h4 h5;subst hP;exact⟨h5,h4,h1,h2,h3,PE.ne,by simp only;omega,by simp only;omega,by simp only;omega,by simp only;omega,by simp only;omega⟩
 have I0:StI ks bs P w 0 0 0 0 (fun _ _=>0) (.slice none 0 0) (.slice none 0 0) (.slice none 0 0) (fun _=>0) (fun _=>0) (fun _=>0) (fun _=>0) [] V0:=by
  subst hP;exact⟨HE.out.trans hI.x,Nat.le_of_eq hU.symm,BM0,PB,PE.m,BrkOf.nil,PE.g,PE.s,World.ownsRow_nil _ _ _ _,fun i hi=>by omega,World.ownsRow_nil _ _ _ _,fun i hi=>by omega⟩
 have HXb:=h_ (show ∀(W:World) (v:Value),Blk W P.X 121 (planA P.Q P.B P.tab P.H v P.M P.G P.nb P.S)→Blk W X 121 #[.slice QA nq qc,.slice B nb cb,.int .i64 tab,.slice HA nh hc,v,.map (some M),.slice (some ⟨G,0,none⟩) nb nb,.map (some S)] by subst hP;exact fun _ _ h=>h);have HTb:=h_ (show ∀W:World,Blk W P.T 25 #[P.B]→Blk W T 25 #[.slice B nb cb] by subst hP;exact fun _ h=>h);have EX:=h_ (show P.X=X by rw[hP]);have EM:=h_ (show P.M=M by rw[hP]);have EG:=h_ (show P.G=G by rw[hP]);have ES:=h_ (show P.S=S by rw[hP]);have EN:=h_ (show P.nb=nb by rw[hP]);have HOK:=h_ OK;have HU:=h_ hU;have bT:=BM0.cell;clear hall hI u11 PE PB hX BM0 OK hP hU b1 b2 hmm
 go_upto_region 4 with(fail)
 clear bT;go_loopw [8,37] (fun kn ii wr=> ∃(j:Nat) (v kv:Value) (gs cp kg kc:Nat→Nat) (mm:List (Pt×Int)),j≤nb∧ii = .int .i64 j∧kn=kv∧StI ks bs P w j 0 j j (fun _ _=>0) v v kv gs cp kg kc mm wr) (fun _ ii _=>nb-(intOf ii).toNat)
 case atStart=>exact⟨0,_,_,_,_,_,_,[],by omega,rfl,rfl,I0⟩
 case round =>
  clear I0;obtain⟨j,v,kv,gs,cp,kg,kc,mm,hj,rfl,rfl,SI⟩:=hrel;by_cases hlt:j<nb
  ·obtain⟨bg,boff,hBA⟩:=bricks_addr HB.out (by rw[Hnb.out];omega);subst hBA;obtain⟨d0,d1,d2,d3,d4,d5⟩:=bricks_cell (HB.out.ext SI.e) (k:=j) (by rw[Hnb.out];exact hlt) rfl;have CL:=h_ (CE.out j hlt);have KL:=h_ (KE.out j hlt);have hcl:=Hcl.out j hlt;have hkl:=Hkl.out j hlt;have Hcn:=h_ (show(bcells ks (brkAt bs j)).length=clen ks bs j from rfl);have Hkn:=h_ (show(bknobs ks (brkAt bs j)).length=klen ks bs j from rfl);rw[Hkn.out] at hkl;obtain⟨n,hn⟩:=nm (clen ks bs j);obtain⟨nk,hnk⟩:=nm (klen ks bs j);rw[hn] at hcl;rw[hnk] at hkl;have Hn:=h_ hn;have Hnk:=h_ hnk;unfold CellsRes at CL;unfold KnobsRes at KL;rw[Hcn.out,hn] at CL;rw[Hkn.out,hnk] at KL;obtain⟨W5,hW5,E5,B5,-⟩:=mk_ wr #[.int .i64 (brkAt bs j).kind,.int .i64 (brkAt bs j).at_.x,.int .i64 (brkAt bs j).at_.y,.int .i64 (brkAt bs j).at_.z,.int .u8 (brkAt bs j).turn,.int .u8 (brkAt bs j).color] 126;have S5:=SI.ext E5;have b5:=B5.cell;have j0:(0:Int)≤j:=by omega
   have j1:(j:Int)<nb:=by omega
   clear hn hnk SI;go_wp2_with fail;clear d0 d1 d2 d3 d4 d5 b5 hW5;refine(CL.out _ S5.e).mono ?_;rintro e W6 ⟨g6,c6,hg6,rfl,hc1,hc2,R6,E6⟩;have S6:=S5.ext E6;have B6:=B5.ext E6;have b6:=B6.cell;clear S5 E5 E6 B5 hg6;go_wp2_with fail;clear b6;refine(KL.out _ S6.e).mono ?_;rintro e W7 ⟨g7,c7,hg7,rfl,hk1,hk2,R7,E7⟩;have S7:=S6.ext E7;have R67:=R6.ext E7;have bx:=(HXb.out _ _ S7.x).cell;have bxa:=(HXb.out _ _ (S7.ext ((Ext.refl W7).alloc (.cells #[.slice (some ⟨g6,0,none⟩) n c6] 109))).x).cell;have hlX:j+1≤maxLen:=by unfold maxLen;omega
   have hby:(j+1)*24≤140737488355328:=by omega
   have hUx:=S7.u;have o7:=S7.o;clear S6 R6 E7 hg7 B6;go_wp2_with (first
    | (at_builtin;refine wpList_append_one #[.slice (some ⟨g6,0,none⟩) n c6] rfl (.tmp 58) (.tmp 60) 119 rfl P.U 109 109 i9 _ 1 24 Tryz.underlying119 hi9 hz9 hz91 hz92 rfl (by decide) _ _ _ _ rfl o7 rfl rfl (by simp[Value.oneCell']) hlX hby hUx ?_;intro g8 cap8 w8 own8 hg8;obtain⟨gs',cp',hgj,hcj,S8⟩:=(S7.ext ((Ext.refl W7).alloc (.cells #[.slice (some ⟨g6,0,none⟩) n c6] 109))).appC HOK.out hg8 own8 Hn.out hc1 hc2 (R67.ext ((Ext.refl W7).alloc _));have R78:=(R7.ext ((Ext.refl W7).alloc (.cells #[.slice (some ⟨g6,0,none⟩) n c6] 109))).own (own_ext o7 ((Ext.refl W7).alloc (.cells #[.slice (some ⟨g6,0,none⟩) n c6] 109))) hg8 (by decide);have o8:=S8.ko;have hU8:=S8.u;clear bx bxa own8 hg8)
    | (at_builtin;refine wpList_append_one #[.slice (some ⟨g7,0,none⟩) nk c7] rfl (.tmp 62) (.tmp 64) 122 rfl P.U 110 110 i8 _ 1 24 Tryz.underlying122 hi8 hz8 hz81 hz82 rfl (by decide) _ _ _ _ rfl o8 rfl rfl (by simp[Value.oneCell']) hlX hby hU8 ?_;intro g9 cap9 w9 own9 hg9;obtain⟨kg',kc',S9⟩:=(S8.ext ((Ext.refl w8).alloc (.cells #[.slice (some ⟨g7,0,none⟩) nk c7] 110))).appK HOK.out hg9 own9 Hnk.out hk1 hk2 (R78.ext ((Ext.refl w8).alloc _));have bx9:=(HXb.out _ _ S9.x).cell;have fx9:=(HXb.out _ _ S9.x).frozen;obtain⟨V9,hV9⟩:=nm (w9.setCell ⟨X,4,none⟩ (.slice (some ⟨g8,0,none⟩) (j+1) cap8))))
   have S10:=S9.store HOK.out;rw[EX.out,hV9] at S10;have Hgj:=h_ hgj;have Hc6:=h_ hc1;clear bx9 fx9 hV9 own9 hg9 S9 S8 S7 o7 o8 hU8 hUx hgj hcj R67 R78 R7 hc1 hc2 hk1 hk2 hlX hby;go_loopw [70] (fun ii wr'=> ∃(q:Nat) (m':List (Pt×Int)),q≤n∧ii = .int .i64 q∧StI ks bs P w j q (j+1) (j+1) (fun _ _=>0) (.slice (some ⟨g8,0,none⟩) (j+1) cap8) (.slice (some ⟨g8,0,none⟩) (j+1) cap8) (.slice (some ⟨g9,0,none⟩) (j+1) cap9) gs' cp' kg' kc' m' wr') (fun ii _=>n-(intOf ii).toNat)
   case atStart=>exact⟨0,mm,by omega,rfl,S10⟩
   case round =>
    clear S10;obtain⟨q,m',hqn,rfl,SI⟩:=hrel;by_cases hqt:q<n
    ·obtain⟨⟨cx,cy,cz⟩,hc⟩: ∃c,(bcells ks (brkAt bs j))[q]? = some c:=⟨_,List.getElem?_eq_getElem (by rw[Hcn.out,Hn.out];exact hqt)⟩;have hr:((bcells ks (brkAt bs j)).map Pt.cs)[q]? = some (Pt.cs ⟨cx,cy,cz⟩):=by rw[List.getElem?_map,hc];rfl
     have RR:=(SI.c j (by omega)).2.2;rw[Hgj.out] at RR;have c0:=RR.cell (pts_wide _) (j:=0) hr rfl;have c1:=RR.cell (pts_wide _) (j:=1) hr rfl;have c2:=RR.cell (pts_wide _) (j:=2) hr rfl;simp only[Nat.add_zero] at c0;have Hc:=h_ hc;obtain⟨W8,hW8,E8,B8,-⟩:=mk_ wr #[.int .i64 cx,.int .i64 cy,.int .i64 cz] 124;have S8:=SI.ext E8;have bx:=(HXb.out _ _ S8.x).cell;have b8:=B8.cell;have q0:(0:Int)≤q:=by omega
     have q1:(q:Int)<n:=by omega
     have q2:(q:Int)<c6:=by have:=Hc6.out;omega
     clear hc hr RR E8 B8
     go_upto_region 12 with(fail)
     clear c0 c1 c2 hW8;refine wp_region_tail 6 (by kernel_rfl) (by kernel_rfl) ?_;simp only[List.take_succ_cons,List.take_zero,List.drop_succ_cons,List.drop_zero]
     repeat (go_big_quiet_step (fail))
     refine wpQuiet_nil ?_;intro W9 hW9;have E9:Ext W8 W9:=by
      obtain⟨x,rfl⟩:=hW9;exact(Ext.refl _).grow x
     clear hW9;obtain⟨hcW9,hfW9,hzW9⟩:=ext_facts E9;clear hcW9 hfW9 hzW9 bx b8;have S9:=S8.ext E9;have M9:=S9.m;rw[EM.out] at M9;go_wp2_with (at_mapUpdate;refine wpList_put ptKey rfl _ _ _ 117 rfl 3 Tryz.underlying117 M m' ⟨cx,cy,cz⟩ (j:Int) rfl M9 rfl rfl ?_;intro w6 M10 hg6 hz6);go_roundw
     case rel =>
      rw[←EM.out] at M10 hg6;exact⟨q+1,_,by omega,by go_num,S9.put HOK.out Hft.out (by rw[Hnb.out];exact hlt) Hc.out M10 hg6⟩
     case measure=>simp only[intOf];omega
    ·obtain rfl:q=n:=by omega
     have SN:StI ks bs P w (j+1) 0 (j+1) (j+1) (fun _ _=>0) (.slice (some ⟨g8,0,none⟩) (j+1) cap8) (.slice (some ⟨g8,0,none⟩) (j+1) cap8) (.slice (some ⟨g9,0,none⟩) (j+1) cap9) gs' cp' kg' kc' m' wr:=StI.next (by rw[Hcn.out,Hn.out];exact SI);go_wp2_with fail;go_roundw
     case rel=>exact⟨j+1,_,_,gs',cp',kg',kc',m',by omega,by go_num,rfl,SN⟩
     case measure=>simp only[intOf];omega
  ·obtain rfl:j=nb:=by omega
   obtain⟨CA,cc,rfl⟩:=ownForm SI.o;obtain⟨KA,kcc,rfl⟩:=ownForm SI.ko;have bT:=(HTb.out _ SI.t).cell;have LL:=LE.out _ SI.e;have hLR:linkR ks bs=linkL ks bs:=if_pos Hh0.out;rw[hLR,Hh0.out] at LL;have HlB:=h_ (fun(x:Lnk) (h:x∈linkL ks bs)=>lnk_lt h);obtain⟨L,hL⟩:=nm (linkL ks bs);have HL:=h_ hL;rw[hL] at LL HlB;obtain⟨nl,hnl⟩:=nm L.length;have Hnl:=h_ hnl;unfold LnkRes at LL;rw[hnl] at LL;clear hL hLR hnl;go_wp2_with fail;clear bT;refine LL.mono ?_;rintro e W2' ⟨LA,lc,rfl,hLk,E2'⟩;have S2:=SI.ext E2';have hJ0:(fun _ _=>0:Nat→Nat→Nat)=joinF ks bs (L.take 0):=rfl;rw[hJ0] at S2;have hlen:=hLk.len;rw[Hnl.out] at hlen;have hl9:nl≤9223372036854775807:=by unfold maxLen at hlen;omega
   clear hlen;have hle:=SliceIs.le hLk;rw[Hnl.out] at hle;clear LL SI E2' hJ0;go_wp2_with fail;go_loopw [90] (fun ii wr'=> ∃q:Nat,q≤nl∧ii = .int .i64 q∧StI ks bs P w j 0 j j (joinF ks bs (L.take q)) (.slice CA j cc) (.slice CA j cc) (.slice KA j kcc) gs cp kg kc mm wr'∧Links wr' LA lc L) (fun ii _=>nl-(intOf ii).toNat)
   case atStart=>exact⟨0,by omega,rfl,S2,hLk⟩
   case round =>
    clear S2 hLk;obtain⟨q,hq,rfl,SI,hLk⟩:=hrel;by_cases hqt:q<nl
    ·obtain⟨lb,loff,x,rfl,hx,-,c0,c1,c2,c3,c4⟩:=hLk.at_ (k:=q) (by rw[Hnl.out];exact hqt);obtain⟨ka,kd,hkv⟩:=own_form SI.ko (by have:=(HlB.out x (List.mem_of_getElem? hx)).1;rw[Hnb.out] at this;omega);cases hkv;have hxm:=List.mem_of_getElem? hx;obtain⟨xa,xb,xk,xo⟩:=HlB.out x hxm;have htk:L.take (q+1)=L.take q ++ [x]:=by rw[List.take_add_one,hx];rfl
     have Hsn:=h_ (show joinF ks bs (L.take (q+1))=linkJ ks bs (joinF ks bs (L.take q)) x by rw[htk,joinF_snoc]);have hss:=h_ (fun a b=>joinF_set (n:=bs.length) (fun x h=>⟨(lnk_lt h).1,(lnk_lt h).2.1⟩) (l:=L.take q) (fun x h=>by rw[HL.out];exact List.mem_of_mem_take h) a b);obtain⟨va,vb,vk,vo,vs⟩:=x;simp only at c0 c1 c2 c3 c4 xa xb xk xo;obtain⟨ca3,da6,cap1⟩:=SI.kdir Hft.out (i:=va) (r:=vk) (by rw[←Hnb.out];exact xa) xa xk;obtain⟨cb3,db6,cap2⟩:=SI.kdir Hft.out (i:=vb) (r:=vo) (by rw[←Hnb.out];exact xb) xb xo;obtain⟨ra,hkd⟩:=SI.krow (i:=va) (by rw[←Hnb.out];exact xa);obtain⟨rb,-⟩:=SI.krow (i:=vb) (by rw[←Hnb.out];exact xb);unfold linkJ at Hsn;simp only at Hsn;obtain⟨da,hda⟩:=nm (dirN ks bs va vk);obtain⟨db,hdb⟩:=nm (dirN ks bs vb vo);obtain⟨na,hna⟩:=nm (klen ks bs va);obtain⟨nb',hnb'⟩:=nm (klen ks bs vb);obtain⟨J,hJ⟩:=nm (joinF ks bs (L.take q));replace xk:vk<na:=by rw[←hna];exact xk
     replace xo:vo<nb':=by rw[←hnb'];exact xo
     rw[Hnb.out] at xa xb hss;rw[hda] at ca3 da6 Hsn;rw[hdb] at cb3 db6 Hsn;rw[hna] at ra cap1;rw[hnb'] at rb cap2;rw[hJ] at SI Hsn hss;obtain⟨W5,hW5,E5,B5,-⟩:=mk_ wr #[.int .i64 va,.int .i64 vb,.int .i64 vk,.int .i64 vo,.int .u8 vs] 135;have S5:=SI.ext E5;have k1:=E5.cell ca3;have k2:=E5.cell cb3;have k3:=E5.cell ra;have k4:=E5.cell rb;have b5:=B5.cell;have q0:(0:Int)≤q:=by omega
     have q1:(q:Int)<nl:=by omega
     have q2:(q:Int)<lc:=by omega
     have i1:(0:Int)≤va:=by omega
     have i2:(va:Int)<j:=by omega
     have i3:(0:Int)≤vb:=by omega
     have i4:(vb:Int)<j:=by omega
     have i5:(0:Int)≤vk:=by omega
     have i6:(vk:Int)<na:=by omega
     have i7:(0:Int)≤vo:=by omega
     have i8:(vo:Int)<nb':=by omega
     have HLk:=h_ (hLk.ext E5);have HB5:=h_ B5;clear hx hxm htk hda hdb hna hnb' hJ ca3 cb3 ra rb SI E5 B5 hLk
     go_upto_region 19 with(fail)
     clear c0 c1 c2 c3 c4 hW5;refine w_g ?_
     repeat (go_big_quiet_step ((fail)))
     refine wpQuiet_nil ?_;intro W6 hW6;have E6:Ext W5 W6:=by
      obtain⟨x,rfl⟩:=hW6;exact(Ext.refl _).grow x
     clear hW6;obtain⟨hcW6,hfW6,hzW6⟩:=ext_facts E6;clear hcW6 hfW6 hzW6 k1 k2 k3 k4 b5;have S6:=S5.ext E6;have HL6:=h_ (HLk.out.ext E6);have HB6:=h_ (HB5.out.ext E6);clear S5 E6;have bx:=(HXb.out _ _ S6.x).cell;have b5:=HB6.out.cell;have gg:=S6.g;rw[EG.out,EN.out] at gg;have cg:=gg.cell xa da6;have hz64:J va da<2 ^ 64:=(hss.out va da).mono (by omega) |>.lt
     have WC:=fun W=>with6_c (J va da) vb hz64 (by omega) W;obtain⟨zz,hzz⟩:=nm (J va da);rw[hzz] at cg WC
     go_upto_region 20 with(fail)
     refine wp_region_tail 22 (by kernel_rfl) (by kernel_rfl) ?_;simp only[List.take_succ_cons,List.take_zero,List.drop_succ_cons,List.drop_zero]
     repeat (go_big_quiet_step ((go_at_call 52;exact quiet_ext (WC _))))
     refine wpQuiet_nil ?_;intro W7 hW7;have E7:Ext W6 W7:=by
      obtain⟨x,rfl⟩:=hW7;exact(Ext.refl _).grow x
     clear hW7;obtain⟨hcW7,hfW7,hzW7⟩:=ext_facts E7;clear hcW7 hfW7 hzW7 bx b5 cg gg hz64 WC;have S7:=S6.ext E7;have gG:=S7.g;rw[EG.out,EN.out] at gG;have cG:=gG.cell xa da6;have fG:=Blk.frozen gG;obtain⟨V7,hV7⟩:=nm (W7.setCell ⟨G,va*6+da,none⟩ (.int .u64 (putN zz vb:Nat)))
     go_upto_region 21 with(fail)
     have S8:=S7.setJ HOK.out (x:=va) (y:=da) (z:=vb) da6;rw[EG.out,hzz,hV7] at S8;clear hzz;have HL8:=h_ (hV7▸(HL6.out.ext E7).farJ gG _ _);have HB8:=h_ (show Blk V7 wr.heap.size 135 #[.int .i64 va,.int .i64 vb,.int .i64 vk,.int .i64 vo,.int .u8 vs] from hV7▸(HB6.out.ext E7).far (p:=⟨G,va*6+da,none⟩) (blk_apart (HB6.out.ext E7) gG (by decide)) _);clear hV7 E7 gG cG fG S7;have hss2: ∀a b,SetB j (putJ J va da vb a b):=fun a b=>by
      unfold putJ
      split
      ·exact(hss.out a b).put xb
      ·exact hss.out a b
     have Hss2:=h_ hss2;clear hss2;have bx:=(HXb.out _ _ S8.x).cell;have b5:=HB8.out.cell;have gg:=S8.g;rw[EG.out,EN.out] at gg;have cg:=gg.cell xb db6;have hz64:(putJ J va da vb) vb db<2 ^ 64:=(Hss2.out vb db).mono (by omega) |>.lt
     have WC:=fun W=>with6_c ((putJ J va da vb) vb db) va hz64 (by omega) W;obtain⟨zz,hzz⟩:=nm ((putJ J va da vb) vb db);rw[hzz] at cg WC;skip;refine wp_region_tail 22 (by kernel_rfl) (by kernel_rfl) ?_;simp only[List.take_succ_cons,List.take_zero,List.drop_succ_cons,List.drop_zero]
     repeat (go_big_quiet_step ((go_at_call 52;exact quiet_ext (WC _))))
     refine wpQuiet_nil ?_;intro W7 hW7;have E7:Ext V7 W7:=by
      obtain⟨x,rfl⟩:=hW7;exact(Ext.refl _).grow x
     clear hW7;obtain⟨hcW7,hfW7,hzW7⟩:=ext_facts E7;clear hcW7 hfW7 hzW7 bx b5 cg gg hz64 WC;have S7:=S8.ext E7;have gG:=S7.g;rw[EG.out,EN.out] at gG;have cG:=gG.cell xb db6;have fG:=Blk.frozen gG;obtain⟨V9,hV9⟩:=nm (W7.setCell ⟨G,vb*6+db,none⟩ (.int .u64 (putN zz va:Nat)));go_wp2_with fail;have S10:=S7.setJ HOK.out (x:=vb) (y:=db) (z:=va) db6;rw[EG.out,hzz,hV9] at S10;clear hzz;have HL10:=h_ (hV9▸(HL8.out.ext E7).farJ gG _ _);clear hV9 E7 gG cG fG S7;rw[←Hsn.out] at S10;go_wp2_with fail;go_roundw
     case rel=>exact⟨q+1,by omega,by go_num,S10,HL10.out⟩
     case measure=>simp only[intOf];omega
    ·obtain rfl:q=nl:=by omega
     obtain⟨A1,c1,e1,S1,-⟩:=own_slice0 (rows:=(clC gs (clen ks bs) cp j).map fun v=> [v]) (fun r hr=>by obtain⟨v,-,rfl⟩:=List.mem_map.1 hr;rfl) (show((clC gs (clen ks bs) cp j).map fun v=> [v]).length=j by simp[clC]) (by rw[flat_ones];exact SI.o);cases e1;have hkr:=Hks.out;have hnr:=Hnb.out;have hqr:=Hnq.out;have hhr:=Hnh.out;have hBO:BrkMap ks bs mm:=BrkOf.all (by rw[hnr];exact SI.k);have hXb:=HXb.out _ _ SI.x;have hg:=SI.g;rw[EG.out,EN.out,List.take_of_length_le (Nat.le_of_eq Hnl.out)] at hg;have hm':=SI.m;rw[EM.out] at hm';have hs':=SI.s;rw[ES.out] at hs';have hms:=HOK.out.ms;rw[EM.out,ES.out] at hms;have hlx:=HOK.out.ls;rw[ES.out] at hlx;have HF:=h_ (show PlanAt wr ⟨qs,QA,qc,bs,B,cb,tab,HA,hc,hands⟩ ⟨X,M,S,G,CA,cc,gs,cp,mm⟩ [] from⟨by simp only;rw[hqr,hnr,hhr];exact hXb,by simp only[MB.ks];rw[hnr,hkr];exact S1,by simp only[MB.ks];rw[hkr,hnr];exact SI.c,hm',by simp only[MB.ks];rw[hkr];exact hBO,by simp only[MB.ks];rw[hkr,hnr,HL.out];exact hg,hs',hms,fun z b h=>by cases h⟩);have HEr:=h_ SI.e;clear hkr hnr hqr hhr hBO hXb hg hm' hs' hms SI S1;go_wp2_with fail;go_ret;exact⟨_,rfl,hlx,HF.out,HEr.out⟩
theorem wpIn_range_boxU{α:Type}{P:Program}{n:Nat}{g:Operand}{ps:Array Tmp}{assign body:Code}{Q:Exit→Act→World→Prop}{a:Act}{w:World}
  (h1:1≤n) {gf:Nat} {lb:Array Value} (hg:a.eval g = .func (.func gf) #[] lb) (eg: ∀args w,(callFunc gf args).run P w = .ok (.enter gf args) w)
  {encs:α→Array Value} {ys:List α} {b:Nat} {t:TypeId} {v0:Value} {G:World→Prop} (hseq:BoxSeq (n-1) P gf lb encs ys b t v0 G) (hB:Blk w b t #[v0]) (hps: ∀x,(encs x).size=ps.size)
  (I:List α→World→Prop) (hI:Lets b G I) (hIp: ∀s A l o o',I s A→w.heap.size≤l→A.heap[l]? = some o→o.isCells=false→I s (A.putObj l o'))
  (h0:I [] w) (upd:α→Array Value→Array Value)
  (hassign: ∀(l:Nat) (x:α) (W:World) (K:Act→World→Prop),K { tmps:=upd x a.tmps,defers:= [] } W →
   assign.wpIn (Fence.wide.inRound l) (n-1-1) P (Exit.then K (fun _ _ _=>False)) { tmps:=(ps.zip (encs x)).foldl (fun t (p,v)=>t.setIfInBounds p v) a.tmps,defers:= [] } W)
  (hbody: ∀(l:Nat) (pre:List α) (x:α) (W:World) (v:Value),w.heap.size≤l→I pre W→Blk W b t #[v]→pre ++ [x] <+: ys →
   body.wpIn (Fence.wide.inRound l) (n-1-1) P (boxPost w.heap.size (I (pre ++ [x])) b t v W) { tmps:=upd x a.tmps,defers:= [] } W)
  (hdone: ∀(D:Nat) (W:World),w.heap.size≤D→I ys W→W.heap[D]? = some (.deferred (some []))→Q .normal { a with defers:={ target:= .collected D,args:= #[] }::a.defers } W) :
  (Code.rangeFunc g ps assign body).wpIn Fence.wide n P Q a w :=
 wpIn_rangeFunc_box h1 hg eg hseq hB hps I hI hIp h0 (fun x=>{ tmps:=upd x a.tmps,defers:= [] }) hassign hbody hdone
end Go.Proofs.YtojolpbpjimfgaaGreatDoor
