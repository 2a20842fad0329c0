/- Texts of the proof: OvWalk, CheckM, Span. -/
import Derived.Test.YtojolpbpjimfgaaGreatDoorZy14
set_option maxHeartbeats 16000000
set_option maxRecDepth 100000
namespace Go.Proofs.YtojolpbpjimfgaaGreatDoor
open Go.RowKit
def CellV(w:World)(v:Value)(n:Nat)(l:List Pt):Prop:=v = .slice (some ⟨bk v,0,none⟩) n n∧Blk w (bk v) 124 (ptsA l)
theorem CellV.ext{w w':World}{v:Value}{n:Nat}{l:List Pt}(h:CellV w v n l)(E:Ext w w'):CellV w' v n l:=⟨h.1,h.2.ext E⟩
structure Ov14(W0:World)(vQ vK:Value)(G:Nat)(p3:Addr)(i xx yy zz:Int)(tn:Nat)(n:Nat)(Lc:List Pt)(L:Nat→Bool)(us:Nat→Value)(w:World):Prop where
 x:Ext W0 w
 f0:L 0=true→us 0=vQ
 f1:L 1=true→us 1 = .pointer (some ⟨G,0,none⟩)
 f2:L 2=true→us 2 = .int .i64 i
 f3:L 3=true→us 3 = .pointer (some p3)
 f4:L 4=true→us 4=vK
 f5:L 5=true→us 5 = .pointer (some ⟨G,4,none⟩)
 f6:L 6=true→us 6 = .int .u8 tn
 f7:L 7=true→us 7 = .int .i64 tn
 f8:L 8=true→us 8 = .pointer (some ⟨G,1,none⟩)
 f9:L 9=true→us 9 = .agg #[.int .i64 xx,.int .i64 yy,.int .i64 zz]
 f10:L 10=true→CellV w (us 10) n Lc
 f11:L 11=true→us 11 = .int .i64 n
 f12:L 12=true→us 12 = .int .i64 0
theorem look_row{w:World}{M:Nat}{m:List (Pt×Value)}(h:MapOf encPt id w M m)(x y z:Int) :
  (Instr.lookup 196 (.map (some M)) (.agg #[.int .i64 x,.int .i64 y,.int .i64 z]) false).run Tryz.prog w = .ok ((getK m ⟨x,y,z⟩).getD nilV) w:=by
 have:=lookup_run ptKey Tryz.underlying196 (w:=w) (z:=nilV) (by kernel_rfl) h ⟨x,y,z⟩ false;rw[show Value.agg #[.int .i64 x,.int .i64 y,.int .i64 z]=encPt ⟨x,y,z⟩ from rfl,this];cases getK m ⟨x,y,z⟩ <;> rfl
theorem at_entry{P:Program}{ops:Array Oper}{Q:Exit→Act→World→Prop}{dst:Option Tmp}{t:TypeId}{mo xo:Operand}{ty:TypeId}{pos:String}{aft:Array Edge}{g:Option (Nat×Bool)}{rest:List Oper}{a:Act}{w:World}
  (h:wpList P ops Q (⟨dst,.mapEntry t mo xo,ty,pos,aft,g⟩::rest) a w):wpList P ops Q (⟨dst,.mapEntry t mo xo,ty,pos,aft,g⟩::rest) a w:=h
theorem at_estore{P:Program}{ops:Array Oper}{Q:Exit→Act→World→Prop}{dst:Option Tmp}{t:TypeId}{mo so vo:Operand}{ty:TypeId}{pos:String}{aft:Array Edge}{g:Option (Nat×Bool)}{rest:List Oper}{a:Act}{w:World}
  (h:wpList P ops Q (⟨dst,.entryStore t mo so vo,ty,pos,aft,g⟩::rest) a w):wpList P ops Q (⟨dst,.entryStore t mo so vo,ty,pos,aft,g⟩::rest) a w:=h
theorem wpList_append_fate{P:Program}{w:World}{ops:Array Oper}{o:Oper}{rest:List Oper}{a:Act}{Q:Exit→Act→World→Prop}(hgd:o.guard=none)(s x:Operand)(t:TypeId)(ho:o.op = .call { callee:= .builtin .append,args:= #[s,x],argTypes:= #[t,t] })
  (base:Nat) (e:TypeId) (i:TypeInfo) (z:Value) (size bytes:Nat) (ht:P.underlying t=some (.slice e)) (hi:P.info? e=some i) (hz:i.zero=some z)
  (hsize:i.size=size) (hby:i.bytes=bytes) (hzs:z.cells.size=size) (hsz:0<size)
  (v:Value) (n:Nat) (xs:List Value) (hs:a.eval s=v) (hown:w.ownsRow base e size v n xs)
  (g c:Nat) (news:List Value) (hx:a.eval x = .slice (some ⟨g,0,none⟩) 1 c) (hl:news.length=size) (hnews: ∀j,w.cell? ⟨g,j,none⟩=news[j]?) (h1: ∀u∈news,u.oneCell'=true)
  (h63:n+1≤maxLen) (hbytes:(n+1)*bytes≤140737488355328) (hbase:base≤w.heap.size)
  (h: ∀v' w',Fate w w' base e size v v' n xs news→wpList P ops Q rest (a.put o.dst v') w'):wpList P ops Q (o::rest) a w :=
 wpList_plain hgd fun _ hK=>by
  have:=step_append_fate (P:=P) (ops:=ops) (o:=o) (a:=a) (Q:=Q) (F:=True) hgd s x t ho base e i z size bytes ht hi hz hsize hby hzs hsz v n xs hs hown g c news hx hl hnews h1 h63 hbytes hbase (fun v' w' h2=>hK _ _ (h v' w' h2));rwa [if_pos (by simp[Region.wanted,hgd])] at this
theorem EntOf.map{K V:Type}{enc:K→Value}{ev:V→Value}[DecidableEq K]{w:World}{b:Nat}{m:List (K×V)}{x:K}{born:Nat}(h:EntOf enc ev w b m x born):MapOf enc ev w b m:=by
 obtain⟨es,clock,h1,h2,h3,h4,-⟩:=h;exact⟨es,clock,h1,h2,h3,h4⟩
theorem Fate.rest{W w':World}{base:Nat}{e:TypeId}{size:Nat}{v v':Value}{n:Nat}{xs news:List Value}(F:Fate W w' base e size v v' n xs news)(own:W.ownsRow base e size v n xs) :
  ∃row,W.grownBy w' row∧(∀g t cs,Blk W g t cs→t≠e→some g≠row)∧(∀(K V:Type) (enc:K→Value) (ev:V→Value) M (m:List (K×V)),MapOf enc ev W M m→some M≠row)∧(∀k,row=some k→base≤k):=by
 obtain⟨-,g,cap,rfl,⟨rfl,hg⟩|⟨-,hg⟩⟩:=F
 ·refine⟨_,hg,fun g' t cs hb ht e1=> ?_,fun K V enc ev M m hm=>ownMap own hm,fun k hk=>(own.lt k hk).1⟩;cases e1;obtain⟨cs',hb'⟩:=own_typed own rfl;exact ht (hb.types hb')
 ·exact⟨none,hg,(fun _ _ _ _ _ e1=>nomatch e1),(fun _ _ _ _ _ _ _ e1=>nomatch e1),(fun _ hk=>nomatch hk)⟩
theorem RngOf.ext{K V:Type}{enc:K→Value}{ev:V→Value}{w w':World}{b r:Nat}{m:List (K×V)}{done left:List K}(h:RngOf enc ev w b r m done left)(E:Ext w w'):RngOf enc ev w' b r m done left:=by
 obtain⟨es,clock,since,seen,c0,hb,q1,q2,q3,hr,q⟩:=h;exact⟨es,clock,since,seen,c0,(Below.block E b (Array.getElem?_eq_some_iff.1 hb).1).trans hb,q1,q2,q3,(Below.block E r (Array.getElem?_eq_some_iff.1 hr).1).trans hr,q⟩
theorem ownRng{K V:Type}{enc:K→Value}{ev:V→Value}{w:World}{base:Nat}{e:TypeId}{sz:Nat}{v:Value}{n:Nat}{xs:List Value}{b r:Nat}{m:List (K×V)}{done left:List K}(h:w.ownsRow base e sz v n xs)(h':RngOf enc ev w b r m done left):some b≠v.ownBlock∧some r≠v.ownBlock:=by
 obtain⟨es,clock,since,seen,c0,hb,q1,q2,q3,hr,q⟩:=h';rcases h.2 with⟨rfl,_⟩|⟨g,cap,cur,rfl,_,hg,_⟩
 ·exact⟨(fun e1=>nomatch e1),(fun e1=>nomatch e1)⟩
 ·refine⟨fun e1=> ?_,fun e1=> ?_⟩ <;> simp only[Value.ownBlock,Option.some.injEq] at e1 <;> subst e1
  ·rw[hg] at hb;cases hb
  ·rw[hg] at hr;cases hr
theorem infoInt:(Tryz.prog.info? 3).map (fun i=>(i.zero,i.size,i.bytes))=some (some (.int .i64 0),1,8):=by kernel_rfl
theorem inF_at{ks:List Knd}{bs:List Brk}{j q:Nat}{c:Pt}(hc:(bcells ks (brkAt bs j))[q]? = some c)(hn:(bcells ks (brkAt bs j)).Nodup):inF ks bs j q c=inA ks bs j c:=by
 unfold inF;have h0:hasP ((bcells ks (brkAt bs j)).take q) c=false:=by
  rw[←Bool.not_eq_true,hasP_iff];intro hm;obtain⟨i,hi⟩:=List.getElem?_of_mem hm;have hiq:i<q:=by
   have:=(List.getElem?_eq_some_iff.1 hi).1;rw[List.length_take] at this;omega
  rw[List.getElem?_take_of_lt hiq] at hi;obtain⟨h1,e1⟩:=List.getElem?_eq_some_iff.1 hi;obtain⟨h2,e2⟩:=List.getElem?_eq_some_iff.1 hc;exact List.pairwise_iff_getElem.1 hn i q h1 h2 hiq (by rw[e1,e2])
 rw[h0];simp
theorem ownNum{w:World}{base n cap t:Nat}{A:Option Addr}{l:List Int}(h:w.ownsRow base 3 1 (.slice A n cap) n (l.map numC))(hn:l.length=n)(ht:t<n): ∃g x,A=some ⟨g,0,none⟩∧l[t]? = some x∧w.cell? ⟨g,t,none⟩=some (.int .i64 x):=by
 have hx:l[t]? = some (l[t]'(by omega)):=List.getElem?_eq_getElem _;rcases h.2 with⟨h0,rfl⟩|⟨g,cap',cur,hv,hg,hb,h1,h2,_,h4⟩
 ·omega
 ·simp only[Value.slice.injEq] at hv;obtain⟨rfl,-,-⟩:=hv;refine⟨g,_,rfl,hx,?_⟩;rw[Blk.cell hb];have h5:(cur.toList.take (n*1))[t]? = (l.map numC)[t]? := by rw[h4]
  rw[List.getElem?_take_of_lt (by omega),List.getElem?_map,hx] at h5;rw[←Array.getElem?_toList];exact h5
theorem overlapsG_c(qs:List (Knd×KAt))(QA:Option Addr)(qc:Nat)(bs:List Brk)(B:Option Addr)(cb:Nat)(w:World)(hk:Kinds w QA qc qs)(hb:Bricks w B cb bs)(h0:modelErr (qs.map (·.1)) bs=0) :
  Calls Tryz.prog 74 #[.slice QA qs.length qc,.agg #[.slice B bs.length cb]] w (PrsRes (overL (qs.map (·.1)) bs bs.length) 0 w):=by
 obtain⟨e0,e1,e2⟩:=modelErr_zero h0;have hmm:= @run_makeMap Tryz.prog;have hf:=mfine_of hk hb.2 h0;have hbn:=hf.n;have hqn:=hk.len;unfold maxLen at hqn;obtain⟨W1,hW1,E1,B1,hz1⟩:=mk_ w #[.slice B bs.length cb] 25;have b1:=B1.cell;have CK:=checkKinds_c qs QA qc W1 (hk.ext E1);have CC:=h_ (fun W (E:Ext w W)=>check_c qs QA qc bs B cb W (hk.ext E) (hb.ext E));rw[e0] at CK;rw[e2] at CC;obtain⟨T,hT⟩:=nm w.heap.size;rw[hT] at B1 b1;have HZ:=h_ (show W1.heap.size=T+1 by omega);have HT:=h_ hT;clear hz1;have PL:=h_ (fun(b:Brk) (hm:b∈bs)=>hf.b b hm);have ND:=h_ (fun(b:Brk) (hm:b∈bs)=>bcells_nodup hk hb.2 h0 hm);have HKi:=h_ (fun(i:Nat) (hi:i<qs.length)=>(hk.ext E1).at_ hi);have PLc:=h_ (fun(W:World) (E:Ext W1 W) (k:Knd) (p:KAt) (n:Nat) (x y z:Int) (hc:Cells W1 p.A p.ca k.cells) (hkf:k.Fine) (ht:n<24) (hp:Pt.in_ 1000 ⟨x,y,z⟩) =>
  cells_c k.cells k.knobs.length p.cb k.weight p.A p.ca p.B n x y z W (hc.ext E) (Nat.le_trans hkf.len (by omega)) hkf.cok ht (hp.ok (by omega)))
 obtain⟨nq,hnq⟩:=nm qs.length;obtain⟨nb,hnb⟩:=nm bs.length;rw[hnq] at CK CC HKi hqn ⊢;have HQ:=h_ hnq;rw[hnb] at hbn B1 b1 CC hW1 ⊢;have Hnb:=h_ hnb;have HB:=h_ hb;obtain⟨ks,hks⟩:=nm (qs.map (·.1));have Hks:=h_ hks;rw[hks] at ND ⊢;have HE:=h_ E1;have hb40: ¬(40:Int)<nb:=by omega
 clear hnq hnb hks hf hk hb hT e0 e1 e2 h0;go_enter Tryz.func74,Tryz.ntmps74;go_wp2_with fail;rw[HT.out];clear hW1 b1;refine CK.mono ?_;rintro e W2 ⟨rfl,E2⟩;have b2:=(B1.ext E2).cell;go_wp2_with fail;refine(CC.out _ (HE.out.trans E2)).mono ?_;rintro e W3 ⟨rfl,E3⟩;have hs3:=(E2.trans E3).size;obtain⟨M,hM⟩:=nm W3.heap.size;obtain⟨W4,hW4,E4,-,hz4⟩:=mapbox_ encPt (id:Value→Value) W3;have M4:InM W4 (T+1) M [] (fun _=> []):=by rw[←hW4,←hM];exact InM.made W3 (T+1)
 rw[hM] at hz4;obtain⟨W5,hW5,E5,M5,hz5⟩:=mapbox_ encPr Value.bool W4;rw[hz4] at M5 hz5;have E15:=((E2.trans E3).trans E4).trans E5;have b5:=(B1.ext E15).cell;have I5:=M4.ext E5;have HMl:Hid (T+1≤M):=h_ (by have:=HZ.out;omega);go_wp2_with fail;clear b5 hmm hW4 hW5 hs3 hM b2 CK;go_loopw [39] (fun ii wr=> ∃(j:Nat) (m:List (Pt×Value)) (m2:List ((Int×Int)×Bool)),j≤nb∧ii = .int .i64 j∧Ext W1 wr∧InM wr (T+1) M m (inA ks bs j)∧MapOf encPr Value.bool wr (M+1) m2∧Keys m2 (P0 ks bs j)) (fun ii _=>nb-(intOf ii).toNat)
 case atStart=>exact⟨0,[],[],by omega,rfl,E15,I5.congr (fun c=>rfl),M5,Keys.nil (fun x hx=>by obtain⟨k,i,-,-,h,-⟩:=hx;omega)⟩
 case round =>
  clear E15 I5 M5 E4 E5 hz4 hz5;obtain⟨j,m,m2,hj,rfl,Er,IM,M2,K2⟩:=hrel;have b1:=(B1.ext Er).cell;by_cases hlt:j<nb
  ·obtain⟨g,off,⟨kd,⟨x,y,z⟩,t,cl⟩,rfl,hq,hby,hg,d0,d1,d2,d3,d4,d5⟩:=((HB.out.ext HE.out).ext Er).at_ (k:=j) (by rw[Hnb.out];exact hlt);obtain⟨i,tn,kk,p,e1,e2,htn,hqi,hkf,hpt,-⟩:=PL.out _ (List.mem_of_getElem? hq);simp only at e1 e2 hpt d0 d1 d2 d3 d4 d5;subst e1 e2;have Hbc:=h_ (show bcells ks (brkAt bs j)=sortP (placeP kk.cells tn ⟨x,y,z⟩) by rw[brkAt_eq hq,←Hks.out];exact bcells_is rfl rfl hqi);have Hnd:=h_ (show(bcells ks (brkAt bs j)).Nodup by rw[brkAt_eq hq];exact ND.out _ (List.mem_of_getElem? hq));obtain⟨qb,qoff,k',p',hQ,hqi',hka,hqb,q0,q1,q2⟩:=HKi.out i (by have:=(List.getElem?_eq_some_iff.1 hqi).1;have:=HQ.out;omega);obtain⟨rfl,rfl⟩:k'=kk∧p'=p:=by rw[hqi] at hqi';cases hqi';exact⟨rfl,rfl⟩
   subst hQ;obtain⟨Lc,hLc⟩:=nm (sortP (placeP k'.cells tn ⟨x,y,z⟩));obtain⟨n,hn⟩:=nm k'.cells.length;have Hln:=h_ (show Lc.length=n by rw[←hLc,sortP_len,placeP_len,hn]);have Hw:=h_ (show IntKind.i64.wrap (tn:Int)=tn from IntWalk.i64_in _ (by omega));have Hn40:=h_ (show n≤100000 by have:=hkf.len;omega);have CL:=h_ (fun W (E:Ext W1 W)=>PLc.out W E k' p' tn x y z hka.c hkf htn hpt);rw[hLc,hn] at CL;rw[hn] at q0;rw[hLc] at Hbc;obtain⟨WB,hWB,EB,BB,hzB⟩:=mk_ wr #[.int .i64 i,.int .i64 x,.int .i64 y,.int .i64 z,.int .u8 tn,.int .u8 cl] 126;have EX:=Er.trans EB;have IB:=IM.ext EB;have MB:=M2.ext EB;obtain⟨G,hG⟩:=nm wr.heap.size;rw[hG] at BB;have HG:=h_ hG;have j0:(0:Int)≤j:=by omega
   have j1:(j:Int)<nb:=by omega
   have i0:(0:Int)≤i:=by omega
   have i1:(i:Int)<nq:=by have:=(List.getElem?_eq_some_iff.1 hqi).1;have:=HQ.out;omega
   have HEX:=h_ EX;have HBB:=h_ BB;have Hq:=h_ (And.intro q0 (And.intro q1 q2));clear hqi' hq hqi hkf htn hpt hka hn hLc hzB hG EX BB EB
   go_upto_region 14 with(fail)
   rw[HG.out];clear b1 d0 d1 d2 d3 d4 d5 q0 q1 q2;refine wp_region_by (Ov14 WB (.slice (some ⟨qb,qoff,none⟩) nq qc) (.agg #[.slice p'.A n p'.ca,.slice p'.B k'.knobs.length p'.cb,.int .i64 k'.weight]) G ⟨qb,qoff+i*3,none⟩ i x y z tn n Lc) (by kernel_rfl) (by kernel_rfl) (by kernel_rfl) (fun us=>⟨(Ext.refl _).drew,(nofun),(nofun),(nofun),(nofun),(nofun),(nofun),(nofun),(nofun),(nofun),(nofun),(nofun),(nofun),(nofun)⟩) ⟨?_,?_,?_,?_,?_,?_,?_,?_,?_,?_,?_,?_,?_,trivial⟩ ?_
   any_goals (intro L us wx K a ha hp hd hun hI hK;replace hp:=h_ hp;replace hd:=h_ hd;simp only[putAll,Act.put,zs,Nat.reduceAdd] at ha;subst ha;simp only[Act.put,zs] at hK)
   ·go_simp;exact hK _ _ {hI with f0:=fun _=>rfl}
   ·go_simp;exact hK _ _ {hI with f1:=fun _=>rfl}
   ·have bb:=(HBB.out.ext hI.x).cell;rw[hI.f1 (h_p hp 1)] at hK ⊢;go_simp;exact hK _ _ {hI with f2:=fun _=>rfl}
   ·rw[hI.f0 (h_p hp 0),hI.f2 (h_p hp 2)] at hK ⊢;go_simp;exact hK _ _ {hI with f3:=fun _=>rfl}
   ·have EX:=HEX.out.trans hI.x;have q0:=EX.cell Hq.out.1;have q1:=EX.cell Hq.out.2.1;have q2:=EX.cell Hq.out.2.2;clear EX;rw[hI.f3 (h_p hp 3)] at hK ⊢;go_simp;exact hK _ _ {hI with f4:=fun _=>rfl}
   ·go_simp;exact hK _ _ {hI with f5:=fun _=>rfl}
   ·have bb:=(HBB.out.ext hI.x).cell;rw[hI.f5 (h_p hp 5)] at hK ⊢;go_simp;exact hK _ _ {hI with f6:=fun _=>rfl}
   ·rw[hI.f6 (h_p hp 6)] at hK ⊢;go_simp;refine hK _ _ ?_;refine {hI with f7:= ?_}<;>(first|exact fun _=>rfl|skip);exact fun _=>congrArg (Value.int .i64) Hw.out
   ·go_simp;exact hK _ _ {hI with f8:=fun _=>rfl}
   ·have bb:=(HBB.out.ext hI.x).cell;rw[hI.f8 (h_p hp 8)] at hK ⊢;go_simp;exact hK _ _ {hI with f9:=fun _=>rfl}
   ·have EX:=h_ (HEX.out.trans hI.x);rw[hI.f4 (h_p hp 4),hI.f7 (h_p hp 7),hI.f9 (h_p hp 9)] at hK ⊢;go_simp;go_at_call 91;refine(CL.out _ EX.out).mono ?_;rintro e wn ⟨g2,hg,rfl,q1,En⟩;go_simp;refine hK _ _ ?_;refine {hI with x:=hI.x.trans En,f10:= ?_}<;>(first|exact fun h=>(hI.f10 h).ext En|exact fun h=>own_ext (hI.f10 h) En|exact fun _=>rfl|skip)
    all_goals exact fun _=>⟨rfl,q1⟩
   ·have u10:=hI.f10 (h_p hp 10);have e10:=u10.1;obtain⟨gq,hgq⟩:=nm (bk (us 10));rw[hgq] at e10;clear hgq u10;rw[e10] at hK ⊢;go_simp;exact hK _ _ {hI with f11:=fun _=>rfl}
   ·go_simp;exact hK _ _ {hI with f12:=fun _=>rfl}
   intro L us wx hall hI;obtain⟨e10,BC⟩:=hI.f10 (hall 10 (by simp));have e11:=hI.f11 (hall 11 (by simp));have e12:=hI.f12 (hall 12 (by simp));have EX:=hI.x;obtain⟨gc,hgc⟩:=nm (bk (us 10));rw[hgc] at e10 BC;simp only[putAll,Act.put,zs,Nat.reduceAdd,e10,e11,e12];have IX:=IB.ext EX;have MX:=MB.ext EX;have ErX:=HEX.out.trans EX;clear hall hI e10 e11 e12 hgc IB MB EX Er IM M2 hWB;obtain⟨i9,hi9,hz9,hz91,hz92⟩:=info_parts infoInt;go_wp2_with fail;go_loopw [56] (fun ii wr'=> ∃(q:Nat) (m:List (Pt×Value)) (m2:List ((Int×Int)×Bool)),q≤n∧ii = .int .i64 q∧Ext W1 wr'∧Blk wr' gc 124 (ptsA Lc)∧InM wr' (T+1) M m (inF ks bs j q)∧MapOf encPr Value.bool wr' (M+1) m2∧Keys m2 (P1 ks bs j q)) (fun ii _=>n-(intOf ii).toNat)
   case atStart=>exact⟨0,m,m2,by omega,rfl,ErX,BC,IX.congr (fun c=>inF_zero ks bs j c),MX,K2.congr (fun y=>P1_zero)⟩
   case round =>
    clear ErX BC IX MX K2;obtain⟨q,m,m2,hqn,rfl,Er,BC,IM,M2,K2⟩:=hrel;by_cases hqt:q<n
    ·obtain⟨gc',o',⟨x1,y1,z1⟩,ho,hc,-,c0,c1,c2⟩:=(cells_of_blk BC Hln.out Hn40.out).at_ (k:=q) (by have:=Hln.out;omega);obtain⟨rfl,rfl⟩:gc=gc'∧0=o':=by
      simp only[Option.some.injEq,Addr.mk.injEq] at ho;exact⟨ho.1,ho.2.1⟩
     clear ho;simp only[Nat.zero_add] at c0 c1 c2;rw[←Hbc.out] at hc;have Hc:=h_ hc;have Hfl:=h_ (inF_at hc Hnd.out);clear hc;obtain⟨WC,hWC,EC,BX,hzC⟩:=mk_ wr #[.int .i64 x1,.int .i64 y1,.int .i64 z1] 124;obtain⟨X,hX⟩:=nm wr.heap.size;have bx:=BX.cell;rw[hX] at BX;have HX:=h_ hX;have IC:=IM.ext EC;have MC:=M2.ext EC;have BCC:=BC.ext EC;have ErC:=Er.trans EC;have lk:=look_row IC.map x1 y1 z1;have own:=IC.own ⟨x1,y1,z1⟩;rw[Hfl.out] at own;obtain⟨l,hl⟩:=nm (inA ks bs j ⟨x1,y1,z1⟩);have Hl40:=h_ (show l.length≤j by rw[←hl];exact inA_len _ _ _ _);rw[hl] at own Hfl;obtain⟨ln,hln⟩:=nm l.length;rw[hln] at own Hl40;obtain⟨RA,rc,hv⟩:=ownForm own;rw[hv] at own lk;have Hl:=h_ hl;have Hln2:=h_ hln;have Hv:=h_ hv;have Hown:=h_ own;clear hv hl hln hzC hX IM M2 BC Er;go_wp2_with fail;rw[HX.out];clear lk own c0 c1 c2 hWC bx EC;go_loopw [64] (fun ii wr'=> ∃(t:Nat) (m2:List ((Int×Int)×Bool)),t≤ln∧ii = .int .i64 t∧Ext W1 wr'∧Blk wr' gc 124 (ptsA Lc)∧Blk wr' X 124 #[.int .i64 x1,.int .i64 y1,.int .i64 z1]∧InM wr' (T+1) M m (inF ks bs j q)∧MapOf encPr Value.bool wr' (M+1) m2∧Keys m2 (P2 ks bs j q l t)) (fun ii _=>ln-(intOf ii).toNat)
     case atStart=>exact⟨0,m2,by omega,rfl,ErC,BCC,BX,IC,MC,K2.congr (fun y=>P2_zero)⟩
     case round =>
      clear ErC BCC BX IC MC K2 Hown;obtain⟨t,m2,htn,rfl,Er,BC,BX,IM,M2,K2⟩:=hrel;have own:=IM.own ⟨x1,y1,z1⟩;rw[Hfl.out,Hln2.out,Hv.out] at own;have hj40:=Hl40.out;by_cases htt:t<ln
      ·obtain⟨gr,xv,rfl,hxv,cx⟩:=ownNum own Hln2.out htt;have Hxv:=h_ hxv;clear own hxv;go_wp2_with (at_mapUpdate;refine wpList_put prKey rfl _ _ _ 197 rfl 4 Tryz.underlying197 (M+1) m2 (xv,(j:Int)) true rfl M2 rfl rfl ?_;intro w6 M6 hg6 hz6);go_roundw
       case rel =>
        have hm1:=HMl.out;refine⟨t+1,_,by omega,by go_num,Er.grown hg6 (fun r hr=>by cases hr;have:=HZ.out;omega),BC.grown hg6 (fun e=>(M2.blk_ne BC) (by cases e;rfl)),BX.grown hg6 (fun e=>(M2.blk_ne BX) (by cases e;rfl)),IM.other M2 (by omega) hg6,M6,K2.put _ _ (fun y=>P2_succ Hxv.out)⟩
       case measure=>simp only[intOf];omega
      ·obtain rfl:t=ln:=by omega
       clear own;obtain⟨WS,hWS,ES,BS,hzS⟩:=mk_ wr #[.int .i64 j] 3;obtain⟨Y,hY⟩:=nm wr.heap.size;rw[hY] at BS;have HY:=h_ hY;have bx:=BX.cell;have IS:=IM.ext ES;have MS:=M2.ext ES;have BCS:=BC.ext ES;have ErS:=Er.trans ES;have hTS:T+1≤WS.heap.size:=by have:=ErS.size;have:=HZ.out;omega
       have HTS:=h_ hTS;have hgd:=h_ (show(getK m ⟨x1,y1,z1⟩).getD nilV = .slice RA t rc from Hv.out);have hn4:=Hn40.out;clear hzS hY BX hTS;have hjb:((t+1)*8≤140737488355328):=by omega
       have htm:t+1≤maxLen:=by unfold maxLen;omega
       go_wp2_with (first
        | (refine at_entry ?_;refine wpList_entry (ev:=(id:Value→Value)) ptKey rfl _ _ _ rfl 26 Tryz.underlying196 nilV (by kernel_rfl) M m ⟨x1,y1,z1⟩ rfl IS.map rfl ?_;intro wE born EE gE zE;rw[id,hgd.out];have BE:=h_ (BS.grown gE (fun e=>(IS.map.blk_ne BS) (by cases e;rfl)));have BEc:=BE.out.cell;have hTE:T+1≤wE.heap.size:=(by rw[zE];exact HTS.out);have ownE:wE.ownsRow (T+1) 3 1 (.slice RA t rc) t (l.map numC):=(by have h1:=IS.own ⟨x1,y1,z1⟩;have h2:=ownGrown h1 gE (Or.inr (ownMap h1 IS.map).symm);rw[hgd.out,Hfl.out,Hln2.out] at h2;exact h2);clear zE)
        | (at_builtin;refine wpList_append_fate rfl (.tmp 75) (.tmp 77) 26 rfl (T+1) 3 i9 _ 1 8 Tryz.underlying26 hi9 hz9 hz91 hz92 rfl (by decide) _ t (l.map numC) rfl ownE Y 1 [numC j] (by rw[←HY.out];rfl) rfl (fun k=>by rw[BE.out.cell];rcases k with _|_ <;> rfl) (by simp[numC,Value.oneCell']) htm hjb hTE ?_;intro v7 w7 F7;obtain⟨row,hrow,n1,n2,n3⟩:=F7.rest ownE;obtain⟨F1,g7,cap7,rfl,F2⟩:=F7;have E7:=EE.grown hrow (n2 _ _ _ _ _ _ EE.map))
        | (refine at_estore ?_;refine wpList_estore (ev:=(id:Value→Value)) (enc:=encPt) rfl _ _ _ _ rfl M _ ⟨x1,y1,z1⟩ born (.slice (some ⟨g7,0,none⟩) (t+1) cap7) rfl E7 rfl rfl ?_;intro w8 M8 g8 z8))
       go_roundw
       case rel =>
        have hm1:=HMl.out;have hz:=HZ.out;have hMW: ∀k,some M=some k→W1.heap.size≤k:=fun k hk=>by cases hk;omega
        have hneM: ∀{w:World} {m:List (Pt×Value)} {g:Nat} {t:TypeId} {cs:Array Value},MapOf encPt (id:Value→Value) w M m→Blk w g t cs→some g≠some M:=fun hm hb e=>hm.blk_ne hb (by cases e;rfl);have BCE:=BCS.grown gE (hneM IS.map BCS);have BC7:=BCE.grown hrow (n1 _ _ _ BCE (by decide));have ME:=MS.grown gE (by simp);have M7:=ME.grown hrow (n2 _ _ _ _ _ _ ME);have FF:Fate wE w7 (T+1) 3 1 ((getK m ⟨x1,y1,z1⟩).getD nilV) (.slice (some ⟨g7,0,none⟩) (t+1) cap7) (inF ks bs j q ⟨x1,y1,z1⟩).length ((inF ks bs j q ⟨x1,y1,z1⟩).map numC) [numC j]:=by
         rw[hgd.out,Hfl.out,Hln2.out];exact⟨F1,g7,cap7,rfl,F2⟩
        have IN:=IS.step gE FF g8 (by rw[putK_put] at M8;exact M8) ⟨_,EE.map⟩ ⟨_,E7.map⟩;refine⟨q+1,_,m2,by omega,by go_num,((ErS.grown gE hMW).grown hrow (fun k hk=>by have:=n3 k hk;omega)).grown g8 hMW,BC7.grown g8 (hneM E7.map BC7),IN.congr (fun d=>inF_step Hc.out Hnd.out d),M7.grown g8 (by simp),K2.congr (fun y=> ?_)⟩;have:=P2_all (p:=y) Hc.out (l:=l) Hl.out.symm;rw[Hln2.out] at this;exact this.symm
       case measure=>simp only[intOf];omega
    ·obtain rfl:q=n:=by omega
     go_wp2_with fail;go_roundw
     case rel =>
      refine⟨j+1,m,m2,by omega,by go_num,Er,IM.congr (fun c=> ?_),M2,K2.congr (fun y=> ?_)⟩
      ·have:=inF_all ks bs j c;rw[Hbc.out,Hln.out] at this;exact this.symm
      ·have:=P1_all (ks:=ks) (bs:=bs) (j:=j) (p:=y);rw[Hbc.out,Hln.out] at this;exact this.symm
     case measure=>simp only[intOf];omega
  ·obtain rfl:j=nb:=by omega
   obtain⟨i9,hi9,hz9,hz91,hz92⟩:=info_parts info2;rw[←Hnb.out] at K2;have HKl:=h_ (keys_len K2 (by rw[Hnb.out];exact hbn));have HK2:=h_ K2;obtain⟨R,hR⟩:=nm wr.heap.size;have HR:=h_ hR;have hTR:T+1≤R:=by have:=Er.size;have:=HZ.out;omega
   clear hR b1 K2 IM;go_wp2_with (at_range;refine wpList_rng (enc:=encPr) (ev:=Value.bool) rfl _ 197 rfl 4 Tryz.underlying197 (M+1) m2 rfl M2 ?_;intro w6 R6 g6 z6;rw[HR.out] at R6 z6);rw[HR.out];simp only[Act.put,zs];have E6:=Er.grown g6 (fun k hk=>nomatch hk);clear M2 Er;go_loopw [16] (fun u wr'=> ∃(done left:List (Int×Int)) (v:Value),u=v∧RngOf encPr Value.bool wr' (M+1) R m2 done left∧Ext W1 wr'∧T+1≤wr'.heap.size∧wr'.ownsRow (T+1) 198 2 v done.length (done.map prC).flatten) (fun _ wr'=>wr'.rangeLeft (M+1) R)
   case atStart=>exact⟨[],_,_,rfl,R6,E6,by omega,World.ownsRow_nil _ _ _ _⟩
   case round =>
    clear R6 E6 g6 z6;obtain⟨done,left,v,rfl,RR,Er,hTw,own⟩:=hrel;have Hle:=h_ RR.left_eq;obtain⟨es,clock,since,seen,c0,-,-,-,-,-,-,-,-,hperm⟩:=id RR;have hdl:done.length≤1600:=by
     have h1:=hperm.length_eq;rw[List.length_append,List.length_map] at h1;have:=HKl.out;omega
    have Hperm:=h_ hperm;clear hperm;by_cases hle:left = []
    ·subst hle;rw[List.append_nil] at Hperm;go_wp2_with (at_next;refine wpList_nxt (enc:=encPr) (ev:=Value.bool) rfl _ rfl (M+1) R m2 done [] rfl RR (fun _=> ?_) (fun x u left' w' h1 h2=>absurd h2 (by simp)));have hs:sortR done=overL ks bs j:=by
      have:=sortR_keys HK2.out Hperm.out;rwa [Hnb.out] at this
     have Hs:=h_ hs;have HEr:=h_ Er;rcases own.2 with⟨rfl,hd0⟩|⟨g,cap,cur,rfl,-⟩
     ·obtain rfl:=List.eq_nil_of_length_eq_zero hd0;clear hs Er own RR hd0 Hle hdl;go_wp2_with fail;refine(sortNil_c _ _).mono ?_;rintro e w9 ⟨rfl,rfl⟩;go_wp2_with fail;go_ret2;unfold PrsRes;rw[←Hs.out,show sortR [] = [] from List.eq_nil_of_length_eq_zero (List.length_mergeSort _)];exact⟨none,0,rfl,prs_nil _,HE.out.trans HEr.out⟩
     ·obtain⟨RX,hg1,hc1,hc2⟩:=RowX.of_own (rows:=done.map prC) own;have SC:=sort2_c done g cap wr RX (by omega);have Hg:=h_ hg1;have Hc:=h_ (And.intro hc1 hc2);clear hs Er own RR hg1 hc1 hc2;go_wp2_with fail;refine SC.mono ?_;rintro e w9 ⟨rfl,RY,g9⟩;go_wp2_with fail;go_ret2;unfold PrsRes;rw[←Hs.out];have hl:(sortR done).length=done.length:=List.length_mergeSort _;have h1:=Hg.out;have h2:=HT.out;refine⟨some ⟨g,0,none⟩,cap,by rw[hl];rfl,RY.slice (prs_wide _) (by rw[List.length_map]) (by rw[hl];exact Hc.out.1) Hc.out.2,(HE.out.trans HEr.out).grown g9 (fun k hk=>by have:=Option.some.inj hk;omega)⟩
    ·have hlX:done.length+1≤maxLen:=by unfold maxLen;omega
     have hby:(done.length+1)*16≤140737488355328:=by omega
     have hMT:=HMl.out;have hZ1:=HZ.out;go_wp2_with (first
      | (at_next;refine wpList_nxt (enc:=encPr) (ev:=Value.bool) rfl _ rfl (M+1) R m2 done left rfl RR (fun h=>absurd h hle) ?_;intro x u left' w6 R6 hlt6 g6 z6 ent;obtain⟨xa,xb⟩:=x;rw[show encPr (xa,xb) = .agg #[.int .i64 xa,.int .i64 xb] from rfl] at ent ⊢;obtain⟨W7,hW7,E7,B7,hz7⟩:=mk_ w6 #[.int .i64 xa,.int .i64 xb] 198;have b7:=B7.cell;have own7:=own_ext (ownGrown own g6 (Or.inr (ownRng own RR).2.symm)) E7;have R7:=R6.ext E7;have hT7:T+1≤W7.heap.size:=(by rw[hz7,z6];omega);clear hz7 z6)
      | (at_builtin;refine wpList_append_one #[.int .i64 xa,.int .i64 xb] rfl (.tmp 89) (.tmp 91) 147 rfl (T+1) 198 198 i9 _ 2 16 Tryz.underlying147 hi9 hz9 hz91 hz92 rfl (by decide) _ _ _ _ rfl own7 rfl rfl (by simp[Value.oneCell']) hlX hby hT7 ?_;intro g8 cap8 w8 own8 hg8))
     have HR8:=h_ (show RngOf encPr Value.bool w8 (M+1) R m2 (done ++ [(xa,xb)]) left' by
      have RA:=R7.ext ((Ext.refl W7).alloc (.cells #[.int .i64 xa,.int .i64 xb] 198));have ownA:=own_ext own7 ((Ext.refl W7).alloc (.cells #[.int .i64 xa,.int .i64 xb] 198))
      exact RA.kept hg8 (ownRng ownA RA).1 (ownRng ownA RA).2)
     go_roundw
     case rel =>
      have ownA:=own_ext own7 ((Ext.refl W7).alloc (.cells #[.int .i64 xa,.int .i64 xb] 198));have E8:Ext W1 w8:=(((Er.grown g6 (fun k hk=>by have:=Option.some.inj hk;omega)).trans E7).alloc _).grown hg8 (fun r hr=>by have:=(ownA.lt r hr).1;omega);refine⟨done ++ [(xa,xb)],left',_,rfl,HR8.out,E8,by have:=E8.size;omega,?_⟩;rw[List.length_append,List.map_append,List.flatten_append];exact own8
     case measure =>
      rw[HR8.out.left_eq,Hle.out];exact hlt6
theorem overlaps_c(qs:List (Knd×KAt))(QA:Option Addr)(qc:Nat)(bs:List Brk)(B:Option Addr)(cb:Nat)(w:World)(hk:Kinds w QA qc qs)(hb:Bricks w B cb bs) :
  Calls Tryz.prog 74 #[.slice QA qs.length qc,.agg #[.slice B bs.length cb]] w (PrsRes (ovRes (qs.map (·.1)) bs) (modelErr (qs.map (·.1)) bs) w):=by
 by_cases h0:modelErr (qs.map (·.1)) bs=0
 ·have:=overlapsG_c qs QA qc bs B cb w hk hb h0;rw[ovRes,if_pos h0,h0];exact this
 ·exact overlapsE_c qs QA qc bs B cb w hk hb h0
theorem checkM_c(qs:List (Knd×KAt))(QA:Option Addr)(qc:Nat)(bs:List Brk)(B:Option Addr)(cb:Nat)(w:World)(hk:Kinds w QA qc qs)(hb:Bricks w B cb bs) :
  Calls Tryz.prog 38 #[.slice QA qs.length qc,.agg #[.slice B bs.length cb]] w fun e w'=>e = .returned (.int .i64 (checkErr (qs.map (·.1)) bs))∧Ext w w':=by
 obtain⟨W1,hW1,E1,B1,hz1⟩:=mk_ w #[.slice B bs.length cb] 25;have b1:=B1.cell;clear hz1;have OV:=overlaps_c qs QA qc bs B cb W1 (hk.ext E1) (hb.ext E1);obtain⟨r,hr⟩:=nm (modelErr (qs.map (·.1)) bs);obtain⟨L,hL⟩:=nm (ovRes (qs.map (·.1)) bs);have hc:checkErr (qs.map (·.1)) bs=if r=0 then(if L = [] then 0 else 12) else r:=by
  unfold checkErr;rw[hr];by_cases h0:r=0
  ·rw[if_pos h0,if_pos h0,←hL,ovRes,hr,if_pos h0]
  ·rw[if_neg h0,if_neg h0]
 rw[hr,hL] at OV;rw[hc];clear hr hL hc hk hb;by_cases h0:r=0
 ·subst h0;by_cases hn:L.length=0
  ·have Hv:=h_ (show(if(0:Int)=0 then(if L = [] then 0 else 12) else 0)=(0:Int) by rw[if_pos rfl,if_pos (List.eq_nil_of_length_eq_zero hn)]);have hn': ¬(0:Int)<L.length:=by omega
   rw[Hv.out];clear Hv hn;go_enter Tryz.func38,Tryz.ntmps38;go_wp2_with fail;refine OV.mono ?_;rintro e W2 ⟨RA,rc,rfl,S1,E2⟩;go_wp2_with fail;go_ret;exact⟨rfl,E1.trans E2⟩
  ·have Hv:=h_ (show(if(0:Int)=0 then(if L = [] then 0 else 12) else 0)=(12:Int) by rw[if_pos rfl,if_neg (by rintro rfl;exact hn rfl)]);have hn':(0:Int)<L.length:=by omega
   rw[Hv.out];clear Hv hn;go_enter Tryz.func38,Tryz.ntmps38;go_wp2_with fail;refine OV.mono ?_;rintro e W2 ⟨RA,rc,rfl,S1,E2⟩;go_wp2_with fail;go_ret;exact⟨rfl,E1.trans E2⟩
 ·have h1:(r==0)=false:=by simpa using h0
  rw[if_neg h0];clear h0;go_enter Tryz.func38,Tryz.ntmps38;go_wp2_with fail;refine OV.mono ?_;rintro e W2 ⟨RA,rc,rfl,S1,E2⟩;go_wp2_with fail;go_ret;exact⟨rfl,E1.trans E2⟩
def minP(a b:Pt):Pt:=⟨min a.x b.x,min a.y b.y,min a.z b.z⟩
def maxP(a b:Pt):Pt:=⟨max a.x b.x,max a.y b.y,max a.z b.z⟩
def spanOf:List Pt→Pt×Pt
 | []=>(⟨0,0,0⟩,⟨0,0,0⟩)
 | c::l=>(l.foldl minP c,l.foldl maxP c)
def allC(ks:List Knd)(bs:List Brk)(j:Nat):List Pt:=(List.range j).flatMap fun i=>bcells ks (brkAt bs i)
def boundsV(ks:List Knd)(bs:List Brk):Pt×Pt:=if checkErr ks bs=0 then spanOf (allC ks bs bs.length) else(⟨0,0,0⟩,⟨0,0,0⟩)
def spC(s:Pt×Pt):Array Value:= #[.int .i64 s.1.x,.int .i64 s.1.y,.int .i64 s.1.z,.int .i64 s.2.x,.int .i64 s.2.y,.int .i64 s.2.z]
theorem check_model{ks:List Knd}{bs:List Brk}(h:checkErr ks bs=0):modelErr ks bs=0:=by
 by_cases h0:modelErr ks bs=0
 ·exact h0
 ·rw[checkErr,if_neg h0] at h;exact h
def SpanRes(s:Pt×Pt)(r:Int)(w:World)(e:Ending)(w':World):Prop:=e = .returned (.tuple #[.agg (spC s),.int .i64 r])∧Ext w w'
end Go.Proofs.YtojolpbpjimfgaaGreatDoor
