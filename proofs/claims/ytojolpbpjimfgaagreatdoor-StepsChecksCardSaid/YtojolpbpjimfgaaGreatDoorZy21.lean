/- Texts of the proof: Links. -/
import Derived.Test.YtojolpbpjimfgaaGreatDoorZy11
import Derived.Test.YtojolpbpjimfgaaGreatDoorZy18
import Derived.Test.YtojolpbpjimfgaaGreatDoorZy19
import Derived.Test.YtojolpbpjimfgaaGreatDoorZy20
set_option maxHeartbeats 16000000
set_option maxRecDepth 100000
namespace Go.Proofs.YtojolpbpjimfgaaGreatDoor
open Go.RowKit
def plC(gs ln:Nat→Nat)(j:Nat):List Value:=(List.range j).map fun i=> .slice (some ⟨gs i,0,none⟩) (ln i) (ln i)
theorem plC_succ(gs ln:Nat→Nat)(j:Nat):plC gs ln (j+1)=plC gs ln j ++ [.slice (some ⟨gs j,0,none⟩) (ln j) (ln j)]:=by
 unfold plC;rw[List.range_succ,List.map_append];rfl
theorem plC_upd{gs gs' ln:Nat→Nat}{j:Nat}(h: ∀i,i<j→gs' i=gs i):plC gs' ln j=plC gs ln j:=by
 unfold plC;refine List.map_congr_left fun i hi=> ?_;rw[h i (List.mem_range.1 hi)]
theorem plC_at{gs ln:Nat→Nat}{j i:Nat}(h:i<j):(plC gs ln j)[i]? = some (.slice (some ⟨gs i,0,none⟩) (ln i) (ln i)):=by
 unfold plC;rw[List.getElem?_map,List.getElem?_range h];rfl
def PB(ks:List Knd)(bs:List Brk)(w:World)(gs:Nat→Nat)(j:Nat):Prop:= ∀i,i<j→Blk w (gs i) 137 (knbsA (bknobs ks (brkAt bs i)))
section
variable {ks:List Knd} {bs:List Brk} {w w':World} {gs:Nat→Nat} {j:Nat}
theorem PB.ext(h:PB ks bs w gs j)(E:Ext w w'):PB ks bs w' gs j:=fun i hi=>(h i hi).ext E
theorem PB.grown(h:PB ks bs w gs j){b:Nat}{e:TypeId}{sz:Nat}{u:Value}{m:Nat}{xs:List Value}(own:w.ownsRow b e sz u m xs)(hg:w.grownBy w' u.ownBlock)(hne:137≠e):PB ks bs w' gs j:=fun i hi=>blkGrown (h i hi) own hg hne
theorem PB.map(h:PB ks bs w gs j){M:Nat}{m:List ((Pt×Int)×(Nat×Nat))}(hm:MapOf encF evE w M m)(hg:w.grownBy w' (some M)):PB ks bs w' gs j:=fun i hi=>(h i hi).grown hg fun e=>(hm.blk_ne (h i hi)) (by cases e;rfl)
theorem PB.next{gs':Nat→Nat}(h:PB ks bs w gs j)(e: ∀i,i<j→gs' i=gs i)(hb:Blk w (gs' j) 137 (knbsA (bknobs ks (brkAt bs j)))):PB ks bs w gs' (j+1):=fun i hi=>by
 rcases Nat.lt_or_ge i j with h1|h1
 ·rw[e i h1];exact h i h1
 ·obtain rfl:i=j:=by omega
  exact hb
theorem PB.at_(h:PB ks bs w gs j){i q:Nat}(hi:i<j)(hq:q<klen ks bs i):w.cell? ⟨gs i,q*5,none⟩=some (.int .i64 (knbAt (bknobs ks (brkAt bs i)) q).at_.x)∧w.cell? ⟨gs i,q*5+1,none⟩=some (.int .i64 (knbAt (bknobs ks (brkAt bs i)) q).at_.y) ∧
  w.cell? ⟨gs i,q*5+2,none⟩=some (.int .i64 (knbAt (bknobs ks (brkAt bs i)) q).at_.z)∧w.cell? ⟨gs i,q*5+3,none⟩=some (.int .u8 (knbAt (bknobs ks (brkAt bs i)) q).dir)∧w.cell? ⟨gs i,q*5+4,none⟩=some (.int .u8 (knbAt (bknobs ks (brkAt bs i)) q).sort):=by
 have hb:=h i hi;have hg:(bknobs ks (brkAt bs i))[q]? = some ((bknobs ks (brkAt bs i))[q]'hq):=List.getElem?_eq_getElem _;have hr:((bknobs ks (brkAt bs i)).map Knb.cs)[q]? = some (knbAt (bknobs ks (brkAt bs i)) q).cs:=by rw[List.getElem?_map,hg,knbAt_eq hg];rfl
 have c:=fun k u (hu:(knbAt (bknobs ks (brkAt bs i)) q).cs[k]? = some u)=>(hb.cell (q*5+k)).trans (rowsA_get (knbs_wide _) hr hu);exact⟨c 0 _ rfl,c 1 _ rfl,c 2 _ rfl,c 3 _ rfl,c 4 _ rfl⟩
end
theorem ownAt{w:World}{base n cap t:Nat}{e:TypeId}{A:Option Addr}{xs:List Value}{u:Value}(h:w.ownsRow base e 1 (.slice A n cap) n xs)(ht:t<n)(hx:xs[t]? = some u): ∃g,A=some ⟨g,0,none⟩∧w.cell? ⟨g,t,none⟩=some u∧base≤g:=by
 rcases h.2 with⟨h0,rfl⟩|⟨g,cap',cur,hv,hg,hb,h1,h2,_,h4⟩
 ·omega
 ·simp only[Value.slice.injEq] at hv;obtain⟨rfl,-,-⟩:=hv;refine⟨g,rfl,?_,hg⟩;rw[Blk.cell hb];have h5:(cur.toList.take (n*1))[t]? = xs[t]? := by rw[h4]
  rw[List.getElem?_take_of_lt (by omega),hx] at h5;rw[←Array.getElem?_toList];exact h5
def LinksPost(ks:List Knd)(bs:List Brk)(L:List Lnk)(nb:Nat)(w:World)(e:Ending)(w':World):Prop:= ∃A cap PA pc gs,e = .returned (.tuple #[.slice A L.length cap,.slice PA nb pc])∧Links w' A cap L∧w'.ownsRow w.heap.size 110 1 (.slice PA nb pc) nb (plC gs (klen ks bs) nb)∧PB ks bs w' gs nb∧Ext w w'
theorem look_face{w:World}{M:Nat}{m:List ((Pt×Int)×(Nat×Nat))}(h:MapOf encF evE w M m)(x y z d:Int) :
  (Instr.lookup 213 (.map (some M)) (.agg #[.int .i64 x,.int .i64 y,.int .i64 z,.int .u8 d]) true).run Tryz.prog w = .ok (.tuple #[.agg #[.int .i64 ((getK m (⟨x,y,z⟩,d)).getD (0,0)).1,.int .i64 ((getK m (⟨x,y,z⟩,d)).getD (0,0)).2],.bool (getK m (⟨x,y,z⟩,d)).isSome]) w:=by
 have:=lookup_run faceKey Tryz.underlying213 (w:=w) (z:= .agg #[.int .i64 0,.int .i64 0]) (by kernel_rfl) h (⟨x,y,z⟩,d) true;rw[show Value.agg #[.int .i64 x,.int .i64 y,.int .i64 z,.int .u8 d]=encF (⟨x,y,z⟩,d) from rfl,this];cases getK m (⟨x,y,z⟩,d) <;> rfl
theorem infoKnbs:(Tryz.prog.info? 110).map (fun i=>(i.zero,i.size,i.bytes))=some (some (.slice none 0 0),1,24):=by kernel_rfl
structure Ls6(ks:List Knd)(bs:List Brk)(gs:Nat→Nat)(W0:World)(vP vQ vK:Value)(G M:Nat)(mm:List ((Pt×Int)×(Nat×Nat)))(p3:Addr)(i xx yy zz:Int)(tn n j:Nat)(Lk:List Knb)(bc:Array Value)(L:Nat→Bool)(us:Nat→Value)(w:World):Prop where
 x:Ext W0 w
 g0:Blk w G 126 bc
 g1:L 13=false→w.ownsRow (M+1) 110 1 vP j (plC gs (klen ks bs) j)
 g2:L 11=true→Blk w (bk (us 11)) 137 (knbsA Lk)
 g3:L 12=true→L 13=false→Blk w (bk (us 12)) 110 #[.slice (some ⟨bk (us 11),0,none⟩) n n]
 g4:L 14=false→us 14=vP
 g5:MapOf encF evE w M mm
 g6:PB ks bs w gs j
 f0:L 0=true→us 0=vP
 f1:L 1=true→us 1=vQ
 f2:L 2=true→us 2 = .pointer (some ⟨G,0,none⟩)
 f3:L 3=true→us 3 = .int .i64 i
 f4:L 4=true→us 4 = .pointer (some p3)
 f5:L 5=true→us 5=vK
 f6:L 6=true→us 6 = .pointer (some ⟨G,4,none⟩)
 f7:L 7=true→us 7 = .int .u8 tn
 f8:L 8=true→us 8 = .int .i64 tn
 f9:L 9=true→us 9 = .pointer (some ⟨G,1,none⟩)
 f10:L 10=true→us 10 = .agg #[.int .i64 xx,.int .i64 yy,.int .i64 zz]
 f11:L 11=true→us 11 = .slice (some ⟨bk (us 11),0,none⟩) n n
 f12:L 12=true→us 12 = .slice (some ⟨bk (us 12),0,none⟩) 1 1
 f13:L 13=true→w.ownsRow (M+1) 110 1 (us 13) (j+1) (plC gs (klen ks bs) j ++ [.slice (some ⟨bk (us 11),0,none⟩) n n])
 f14:L 14=true→w.ownsRow (M+1) 110 1 (us 14) (j+1) (plC gs (klen ks bs) j ++ [.slice (some ⟨bk (us 11),0,none⟩) n n])
structure Ls20(W0:World)(M X:Nat)(px py pz s1 s2 s3 o1 o2:Int)(d:Nat)(od:Int)(is:Bool)(L:Nat→Bool)(us:Nat→Value)(w:World):Prop where
 x:Ext W0 w
 g0:L 16=true→W0.heap.size≤bk (us 16)
 g1:L 16=true→L 17=false→Blk w (bk (us 16)) 215 #[.int .i64 0,.int .i64 0]
 f0:L 0=true→us 0 = .map (some M)
 f1:L 1=true→us 1 = .pointer (some ⟨X,0,none⟩)
 f2:L 2=true→us 2 = .agg #[.int .i64 px,.int .i64 py,.int .i64 pz]
 f3:L 3=true→us 3 = .pointer (some ⟨X,3,none⟩)
 f4:L 4=true→us 4 = .int .u8 d
 f5:L 5=true→us 5 = .int .i64 d
 f6:L 6=true→us 6 = .agg #[.int .i64 s1,.int .i64 s2,.int .i64 s3]
 f7:L 7=true→us 7 = .agg #[.int .i64 (px+s1),.int .i64 (py+s2),.int .i64 (pz+s3)]
 f8:L 8=true→us 8 = .pointer (some ⟨X,3,none⟩)
 f9:L 9=true→us 9 = .int .u8 d
 f10:L 10=true→us 10 = .int .u8 od
 f11:L 11=true→us 11 = .agg #[.int .i64 (px+s1),.int .i64 (py+s2),.int .i64 (pz+s3),.int .u8 od]
 f12:L 12=true→us 12 = .tuple #[.agg #[.int .i64 o1,.int .i64 o2],.bool is]
 f13:L 13=true→us 13 = .tuple #[.agg #[.int .i64 o1,.int .i64 o2],.bool is]
 f14:L 14=true→us 14 = .agg #[.int .i64 o1,.int .i64 o2]
 f15:L 15=true→us 15 = .bool is
 f16:L 16=true→us 16 = .pointer (some ⟨bk (us 16),0,none⟩)
 f17:L 17=true→Blk w (bk (us 16)) 215 #[.int .i64 o1,.int .i64 o2]
 f18:L 18=true→us 18 = .bool is
theorem links_c(qs:List (Knd×KAt))(QA:Option Addr)(qc:Nat)(bs:List Brk)(B:Option Addr)(cb:Nat)(w:World)(hk:Kinds w QA qc qs)(hb:Bricks w B cb bs)(hcm:checkErr (qs.map (·.1)) bs=0) :
  Calls Tryz.prog 93 #[.slice QA qs.length qc,.agg #[.slice B bs.length cb]] w (LinksPost (qs.map (·.1)) bs (linkL (qs.map (·.1)) bs) bs.length w):=by
 have hf:=mfine_of hk hb.2 (check_model hcm);have hft:=fit_of hk hb.2 hcm;have hbn:=hf.n;have hqn:=hk.len;unfold maxLen at hqn;have hmm:= @run_makeMap Tryz.prog;obtain⟨W1,hW1,E1,B1,hz1⟩:=mk_ w #[.slice B bs.length cb] 25;obtain⟨W2,hW2,E2,M2,hz2⟩:=mapbox_ encF evE W1;have b1:=(B1.ext E2).cell;obtain⟨T,hT⟩:=nm w.heap.size;rw[hT] at B1;have HZ:=h_ (show W1.heap.size=T+1 by omega);have HT:=h_ hT;obtain⟨M,hM⟩:=nm W1.heap.size;rw[hM] at M2;have HM:=h_ hM;clear hz1 hz2;have PL:=h_ (fun(b:Brk) (hm:b∈bs)=>hf.b b hm);have HKi:=h_ (fun(i:Nat) (hi:i<qs.length)=>(hk.ext E1).at_ hi);have PLc:=h_ (fun(W:World) (E:Ext W1 W) (k:Knd) (p:KAt) (n:Nat) (x y z:Int) (hc:Knobs W1 p.B p.cb k.knobs) (hkf:k.Fine) (hkn:k.knobs.length≤48) (ht:n<24) (hp:Pt.in_ 1000 ⟨x,y,z⟩) =>
  knobs_c k.cells.length p.ca k.knobs k.weight p.A p.B p.cb n x y z W (hc.ext E) (Nat.le_trans hkn (by omega)) hkf.kok ht (hp.ok (by omega)))
 obtain⟨ks,hks⟩:=nm (qs.map (·.1));have Hks:=h_ hks;rw[hks] at hft ⊢;have HF:=h_ hft;obtain⟨nq,hnq⟩:=nm qs.length;obtain⟨nb,hnb⟩:=nm bs.length;rw[hnq] at HKi hqn ⊢;have HQ:=h_ hnq;rw[hnb] at hbn B1 b1 hW1 ⊢;have Hnb:=h_ hnb;have HB:=h_ hb;have HE:=h_ E1;have M2': ∃mm,MapOf encF evE W2 M mm∧Faces ks bs mm (Upk ks bs 0 0):=⟨[],M2,Faces.nil (fun i k h=>by unfold Upk at h;omega)⟩;clear hks hnq hnb hf hk hb hT hM hft hcm M2;go_enter Tryz.func93,Tryz.ntmps93;go_wp2_with fail;rw[HT.out,HM.out];clear hW1 hW2 b1 hmm;obtain⟨mm0,M2,F2⟩:=M2';obtain⟨i9,hi9,hz9,hz91,hz92⟩:=info_parts infoKnbs;go_loopw [7,24] (fun v ii wr=> ∃(j:Nat) (u:Value) (gs:Nat→Nat) (mm:List ((Pt×Int)×(Nat×Nat))),j≤nb∧ii = .int .i64 j∧u=v∧Ext W1 wr∧MapOf encF evE wr M mm∧Faces ks bs mm (Upk ks bs j 0)∧wr.ownsRow (M+1) 110 1 u j (plC gs (klen ks bs) j)∧PB ks bs wr gs j) (fun _ ii _=>nb-(intOf ii).toNat)
 case atStart=>exact⟨0,_,fun _=>0,mm0,by omega,rfl,rfl,E2,M2,F2,World.ownsRow_nil _ _ _ _,fun i hi=>by omega⟩
 case round =>
  clear M2 F2;obtain⟨j,v,gs,mm,hj,rfl,rfl,Er,MM,FF,own,hPB⟩:=hrel;have b1:=(B1.ext Er).cell;by_cases hlt:j<nb
  ·obtain⟨g,off,⟨kd,⟨x,y,z⟩,t,cl⟩,rfl,hq,hby,hg,d0,d1,d2,d3,d4,d5⟩:=(((HB.out.ext HE.out)).ext Er).at_ (k:=j) (by rw[Hnb.out];exact hlt);obtain⟨i,tn,kk,p,e1,e2,htn,hqi,hkf,hpt,-⟩:=PL.out _ (List.mem_of_getElem? hq);simp only at e1 e2 hpt d0 d1 d2 d3 d4 d5;subst e1 e2;have hbc:bknobs ks (brkAt bs j)=placeK kk.knobs tn ⟨x,y,z⟩:=by rw[brkAt_eq hq,←Hks.out];exact bknobs_is rfl rfl hqi
   have hkl:=HF.out.klen (j:=j) (by rw[Hnb.out];exact hlt);rw[hbc,placeK_len] at hkl;obtain⟨qb,qoff,k',p',hQ,hqi',hka,hqb,q0,q1,q2⟩:=HKi.out i (by have:=(List.getElem?_eq_some_iff.1 hqi).1;have:=HQ.out;omega);obtain⟨rfl,rfl⟩:k'=kk∧p'=p:=by rw[hqi] at hqi';cases hqi';exact⟨rfl,rfl⟩
   subst hQ;have CL:=h_ (fun W (E:Ext W1 W)=>PLc.out W E k' p' tn x y z hka.n hkf hkl htn hpt);obtain⟨Lk,hLk⟩:=nm (placeK k'.knobs tn ⟨x,y,z⟩);obtain⟨n,hn⟩:=nm k'.knobs.length;have Hln:=h_ (show Lk.length=n by rw[←hLk,placeK_len,hn]);have Hw:=h_ (show IntKind.i64.wrap (tn:Int)=tn from IntWalk.i64_in _ (by omega));rw[hLk] at hbc CL;rw[hn] at CL q1 hkl;have Hbc:=h_ hbc;have Hkl:=h_ (show klen ks bs j=n by unfold klen;rw[hbc,Hln.out]);have Hn48:=h_ hkl;obtain⟨WB,hWB,EB,BB,hzB⟩:=mk_ wr #[.int .i64 i,.int .i64 x,.int .i64 y,.int .i64 z,.int .u8 tn,.int .u8 cl] 126;have EX:=Er.trans EB;obtain⟨G,hG⟩:=nm wr.heap.size;rw[hG] at BB;have HG:=h_ hG;have j0:(0:Int)≤j:=by omega
   have j1:(j:Int)<nb:=by omega
   have i0:(0:Int)≤i:=by omega
   have i1:(i:Int)<nq:=by have:=(List.getElem?_eq_some_iff.1 hqi).1;have:=HQ.out;omega
   have HEX:=h_ EX;have Hq:=h_ (And.intro q0 (And.intro q1 q2));have hxm:j+1≤maxLen:=by unfold maxLen;omega
   have hxb:(j+1)*24≤140737488355328:=by omega
   have Hx:=h_ (And.intro hxm hxb);have ownB:=own_ext own EB;have MB:=MM.ext EB;have PBB:=hPB.ext EB;have hMw:M+1≤wr.heap.size:=by have:=MM.lt;omega
   have HMw:=h_ hMw;clear hqi' hq hqi hkf htn hpt hka hn hLk hzB hG EX EB hxm hxb own MM hPB hbc hkl hMw
   go_upto_region 6 with(fail)
   rw[HG.out];clear b1 d0 d1 d2 d3 d4 d5 q0 q1 q2;refine wp_region_by0 (Ls6 ks bs gs W1 v (.slice (some ⟨qb,qoff,none⟩) nq qc) (.agg #[.slice p'.A k'.cells.length p'.ca,.slice p'.B n p'.cb,.int .i64 k'.weight]) G M mm ⟨qb,qoff+i*3,none⟩ i x y z tn n j Lk #[.int .i64 i,.int .i64 x,.int .i64 y,.int .i64 z,.int .u8 tn,.int .u8 cl]) (by kernel_rfl) (by kernel_rfl) (by kernel_rfl) ⟨HEX.out.drew,BB.drew,(fun _=>own_ext ownB ((Ext.refl _).drew)),(nofun),(nofun),(fun _=>rfl),MB.ext ((Ext.refl _).drew),PBB.ext ((Ext.refl _).drew),(nofun),(nofun),(nofun),(nofun),(nofun),(nofun),(nofun),(nofun),(nofun),(nofun),(nofun),(nofun),(nofun),(nofun),(nofun)⟩ ⟨?_,?_,?_,?_,?_,?_,?_,?_,?_,?_,?_,?_,?_,?_,?_,trivial⟩ ?_
   all_goals clear ownB MB PBB
   ·intro L us wx K a ha hp hd hun hI hK;have HX:=hI.x;have u14:=hI.g4 (Bool.eq_false_iff.2 fun hl=>absurd (hd 14 0 hl (by kernel_rfl)) (by rw[hun];decide));clear hp HX;replace hd:=h_ hd;simp only[putAll,Act.put,zs,Nat.reduceAdd,u14] at ha;subst ha;simp only[Act.put,zs] at hK;go_simp;refine hK _ _ ?_;refine {hI with f0:= ?_}<;>(first|exact fun _=>rfl|skip)
   ·intro L us wx K a ha hp hd hun hI hK;have HX:=hI.x;clear hp HX;replace hd:=h_ hd;simp only[putAll,Act.put,zs,Nat.reduceAdd] at ha;subst ha;simp only[Act.put,zs] at hK;go_simp;refine hK _ _ ?_;refine {hI with f1:= ?_}<;>(first|exact fun _=>rfl|skip)
   ·intro L us wx K a ha hp hd hun hI hK;have HX:=hI.x;clear hp HX;replace hd:=h_ hd;simp only[putAll,Act.put,zs,Nat.reduceAdd] at ha;subst ha;simp only[Act.put,zs] at hK;go_simp;refine hK _ _ ?_;refine {hI with f2:= ?_}<;>(first|exact fun _=>rfl|skip)
   ·intro L us wx K a ha hp hd hun hI hK;have HX:=hI.x;have u2:=hI.f2 (hp 2 (by kernel_rfl));have bb:=hI.g0.cell;clear hp HX;replace hd:=h_ hd;simp only[putAll,Act.put,zs,Nat.reduceAdd,u2] at ha;subst ha;simp only[Act.put,zs] at hK;go_simp;refine hK _ _ ?_;refine {hI with f3:= ?_}<;>(first|exact fun _=>rfl|skip)
   ·intro L us wx K a ha hp hd hun hI hK;have HX:=hI.x;have u1:=hI.f1 (hp 1 (by kernel_rfl));have u3:=hI.f3 (hp 3 (by kernel_rfl));clear hp HX;replace hd:=h_ hd;simp only[putAll,Act.put,zs,Nat.reduceAdd,u1,u3] at ha;subst ha;simp only[Act.put,zs] at hK;go_simp;refine hK _ _ ?_;refine {hI with f4:= ?_}<;>(first|exact fun _=>rfl|skip)
   ·intro L us wx K a ha hp hd hun hI hK;have HX:=hI.x;have u4:=hI.f4 (hp 4 (by kernel_rfl));have EX:=HX;have q0:=EX.cell Hq.out.1;have q1:=EX.cell Hq.out.2.1;have q2:=EX.cell Hq.out.2.2;clear EX;clear hp HX;replace hd:=h_ hd;simp only[putAll,Act.put,zs,Nat.reduceAdd,u4] at ha;subst ha;simp only[Act.put,zs] at hK;go_simp;refine hK _ _ ?_;refine {hI with f5:= ?_}<;>(first|exact fun _=>rfl|skip)
   ·intro L us wx K a ha hp hd hun hI hK;have HX:=hI.x;clear hp HX;replace hd:=h_ hd;simp only[putAll,Act.put,zs,Nat.reduceAdd] at ha;subst ha;simp only[Act.put,zs] at hK;go_simp;refine hK _ _ ?_;refine {hI with f6:= ?_}<;>(first|exact fun _=>rfl|skip)
   ·intro L us wx K a ha hp hd hun hI hK;have HX:=hI.x;have u6:=hI.f6 (hp 6 (by kernel_rfl));have bb:=hI.g0.cell;clear hp HX;replace hd:=h_ hd;simp only[putAll,Act.put,zs,Nat.reduceAdd,u6] at ha;subst ha;simp only[Act.put,zs] at hK;go_simp;refine hK _ _ ?_;refine {hI with f7:= ?_}<;>(first|exact fun _=>rfl|skip)
   ·intro L us wx K a ha hp hd hun hI hK;have HX:=hI.x;have u7:=hI.f7 (hp 7 (by kernel_rfl));clear hp HX;replace hd:=h_ hd;simp only[putAll,Act.put,zs,Nat.reduceAdd,u7] at ha;subst ha;simp only[Act.put,zs] at hK;go_simp;refine hK _ _ ?_;refine {hI with f8:= ?_}<;>(first|exact fun _=>rfl|skip);exact fun _=>congrArg (Value.int .i64) Hw.out
   ·intro L us wx K a ha hp hd hun hI hK;have HX:=hI.x;clear hp HX;replace hd:=h_ hd;simp only[putAll,Act.put,zs,Nat.reduceAdd] at ha;subst ha;simp only[Act.put,zs] at hK;go_simp;refine hK _ _ ?_;refine {hI with f9:= ?_}<;>(first|exact fun _=>rfl|skip)
   ·intro L us wx K a ha hp hd hun hI hK;have HX:=hI.x;have u9:=hI.f9 (hp 9 (by kernel_rfl));have bb:=hI.g0.cell;clear hp HX;replace hd:=h_ hd;simp only[putAll,Act.put,zs,Nat.reduceAdd,u9] at ha;subst ha;simp only[Act.put,zs] at hK;go_simp;refine hK _ _ ?_;refine {hI with f10:= ?_}<;>(first|exact fun _=>rfl|skip)
   ·intro L us wx K a ha hp hd hun hI hK;have HX:=hI.x;have u5:=hI.f5 (hp 5 (by kernel_rfl));have u8:=hI.f8 (hp 8 (by kernel_rfl));have u10:=hI.f10 (hp 10 (by kernel_rfl));have EX:=h_ HX;have h12:L 12=false:=Bool.eq_false_iff.2 fun hl=>absurd (hd 12 11 hl (by kernel_rfl)) (by rw[hun];decide);have h13:L 13=false:=Bool.eq_false_iff.2 fun hl=>absurd (hd 13 11 hl (by kernel_rfl)) (by rw[hun];decide);have h14:L 14=false:=Bool.eq_false_iff.2 fun hl=>absurd (hd 14 11 hl (by kernel_rfl)) (by rw[hun];decide);clear hp HX;replace hd:=h_ hd;simp only[putAll,Act.put,zs,Nat.reduceAdd,u5,u8,u10] at ha;subst ha;simp only[Act.put,zs] at hK;go_simp;go_at_call 92;refine(CL.out _ EX.out).mono ?_;rintro e wn ⟨g2,hg,rfl,q1,En⟩;go_simp;refine hK _ _ ?_
    first
    | (refine⟨hI.x.trans En,?_,?_,?_,?_,?_,?_,?_,hI.f0,hI.f1,hI.f2,hI.f3,hI.f4,hI.f5,hI.f6,hI.f7,hI.f8,hI.f9,hI.f10,?_,hI.f12,?_,?_⟩<;>(first|exact hI.g0.ext En|exact fun h=>(hI.g0 h).ext En|exact fun h h2=>(hI.g0 h h2).ext En|exact fun h=>own_ext (hI.g0 h) En|exact hI.g0|exact hI.g1.ext En|exact fun h=>(hI.g1 h).ext En|exact fun h h2=>(hI.g1 h h2).ext En|exact fun h=>own_ext (hI.g1 h) En|exact hI.g1|exact hI.g2.ext En|exact fun h=>(hI.g2 h).ext En|exact fun h h2=>(hI.g2 h h2).ext En|exact fun h=>own_ext (hI.g2 h) En|exact hI.g2|exact hI.g3.ext En|exact fun h=>(hI.g3 h).ext En|exact fun h h2=>(hI.g3 h h2).ext En|exact fun h=>own_ext (hI.g3 h) En|exact hI.g3|exact hI.g4.ext En|exact fun h=>(hI.g4 h).ext En|exact fun h h2=>(hI.g4 h h2).ext En|exact fun h=>own_ext (hI.g4 h) En|exact hI.g4|exact hI.g5.ext En|exact fun h=>(hI.g5 h).ext En|exact fun h h2=>(hI.g5 h h2).ext En|exact fun h=>own_ext (hI.g5 h) En|exact hI.g5|exact hI.g6.ext En|exact fun h=>(hI.g6 h).ext En|exact fun h h2=>(hI.g6 h h2).ext En|exact fun h=>own_ext (hI.g6 h) En|exact hI.g6|exact fun h=>(hI.f13 h).ext En|exact fun h=>own_ext (hI.f13 h) En|exact fun h=>(hI.f14 h).ext En|exact fun h=>own_ext (hI.f14 h) En|exact fun _=>rfl|skip))
    | (refine⟨hI.x.trans En,?_,?_,?_,?_,?_,?_,?_,?_,?_,?_,?_,?_,?_,?_,?_,?_,?_,?_,?_,?_,?_,?_⟩<;>(first|exact hI.g0.ext En|exact fun h=>(hI.g0 h).ext En|exact fun h h2=>(hI.g0 h h2).ext En|exact fun h=>own_ext (hI.g0 h) En|exact hI.g0|exact hI.g1.ext En|exact fun h=>(hI.g1 h).ext En|exact fun h h2=>(hI.g1 h h2).ext En|exact fun h=>own_ext (hI.g1 h) En|exact hI.g1|exact hI.g2.ext En|exact fun h=>(hI.g2 h).ext En|exact fun h h2=>(hI.g2 h h2).ext En|exact fun h=>own_ext (hI.g2 h) En|exact hI.g2|exact hI.g3.ext En|exact fun h=>(hI.g3 h).ext En|exact fun h h2=>(hI.g3 h h2).ext En|exact fun h=>own_ext (hI.g3 h) En|exact hI.g3|exact hI.g4.ext En|exact fun h=>(hI.g4 h).ext En|exact fun h h2=>(hI.g4 h h2).ext En|exact fun h=>own_ext (hI.g4 h) En|exact hI.g4|exact hI.g5.ext En|exact fun h=>(hI.g5 h).ext En|exact fun h h2=>(hI.g5 h h2).ext En|exact fun h=>own_ext (hI.g5 h) En|exact hI.g5|exact hI.g6.ext En|exact fun h=>(hI.g6 h).ext En|exact fun h h2=>(hI.g6 h h2).ext En|exact fun h=>own_ext (hI.g6 h) En|exact hI.g6|exact hI.f0|exact hI.f1|exact hI.f2|exact hI.f3|exact hI.f4|exact hI.f5|exact hI.f6|exact hI.f7|exact hI.f8|exact hI.f9|exact hI.f10|exact hI.f11|exact hI.f12|exact fun h=>(hI.f13 h).ext En|exact fun h=>(hI.f14 h).ext En|exact fun _=>rfl|skip))
    all_goals exact(by first|exact fun _=>q1|exact fun h=>absurd (show L 12=true from h) (by rw[h12];decide)|exact fun h=>absurd (show L 13=true from h) (by rw[h13];decide)|exact fun h=>absurd (show L 14=true from h) (by rw[h14];decide))
   ·intro L us wx K a ha hp hd hun hI hK;have u11:=hI.f11 (hp 11 (by kernel_rfl));obtain⟨gq,hgq⟩:=nm (bk (us 11));rw[hgq] at u11;replace hgq:=h_ hgq;have h13:L 13=false:=Bool.eq_false_iff.2 fun hl=>absurd (hd 13 12 hl (by kernel_rfl)) (by rw[hun];decide);have h14:L 14=false:=Bool.eq_false_iff.2 fun hl=>absurd (hd 14 12 hl (by kernel_rfl)) (by rw[hun];decide);replace hd:=h_ hd;simp only[putAll,Act.put,zs,Nat.reduceAdd,u11] at ha;subst ha;simp only[Act.put,zs] at hK;go_simp;refine hK _ _ ?_;refine⟨hI.x.alloc _,hI.g0.ext ((Ext.refl _).alloc _),(fun h=>own_ext (hI.g1 h) ((Ext.refl _).alloc _)),(fun h=>(hI.g2 h).ext ((Ext.refl _).alloc _)),(fun _ _=>show Blk _ _ _ #[.slice (some ⟨bk (us 11),0,none⟩) n n] from hgq.out.symm▸Blk.new _ _ _),hI.g4,hI.g5.ext ((Ext.refl _).alloc _),hI.g6.ext ((Ext.refl _).alloc _),?_,?_,?_,?_,?_,?_,?_,?_,?_,?_,?_,?_,?_,?_,?_⟩
    all_goals (first|exact hI.f0|exact hI.f1|exact hI.f2|exact hI.f3|exact hI.f4|exact hI.f5|exact hI.f6|exact hI.f7|exact hI.f8|exact hI.f9|exact hI.f10|exact hI.f11|exact fun _=>rfl|exact fun h=>absurd (show L 13=true from h) (by rw[h13];decide)|exact fun h=>absurd (show L 14=true from h) (by rw[h14];decide))
   ·intro L us wx K a ha hp hd hun hI hK;have u0:=hI.f0 (hp 0 (by kernel_rfl));have h12:=hp 12 (by kernel_rfl);have u12:=hI.f12 h12;have own:=hI.g1 hun;have hb:=hI.g3 h12 hun;obtain⟨gq,hgq⟩:=nm (bk (us 12));rw[hgq] at u12 hb;clear hgq;have hbc:=hb.cell;have h14:L 14=false:=Bool.eq_false_iff.2 fun hl=>absurd (hd 14 13 hl (by kernel_rfl)) (by rw[hun];decide);have hUx:M+1≤wx.heap.size:=by have:=hI.g5.lt;omega
    replace hd:=h_ hd;simp only[putAll,Act.put,zs,Nat.reduceAdd,u0,u12] at ha;subst ha;simp only[Act.put,zs] at hK;refine step_append_new rfl (.tmp 29) (.tmp 41) 122 rfl (M+1) 110 i9 _ 1 24 Tryz.underlying122 hi9 hz9 hz91 hz92 rfl (by decide) v j _ rfl own gq 1 1 [.slice (some ⟨bk (us 11),0,none⟩) n n] rfl rfl (fun k=>by rw[hbc];rcases k with _|_ <;> rfl) (by simp[Value.oneCell']) Hx.out.1 Hx.out.2 hUx ?_;intro v' w' own' hg;refine hK _ _ ⟨hI.x.grown hg (fun k hk=>by have:=(own.lt k hk).1;have:=HM.out;omega),blkGrown hI.g0 own hg (by decide),(fun h=>nomatch (show true=false from h)),(fun h=>blkGrown (hI.g2 h) own hg (by decide)),(fun _ h=>nomatch (show true=false from h)),hI.g4,hI.g5.grown hg (ownMap own hI.g5),hI.g6.grown own hg (by decide),?_,?_,?_,?_,?_,?_,?_,?_,?_,?_,?_,?_,?_,?_,?_⟩
    all_goals (first|exact hI.f0|exact hI.f1|exact hI.f2|exact hI.f3|exact hI.f4|exact hI.f5|exact hI.f6|exact hI.f7|exact hI.f8|exact hI.f9|exact hI.f10|exact hI.f11|exact hI.f12|exact fun _=>own' | exact fun h=>absurd (show L 14=true from h) (by rw[h14];decide))
   ·intro L us wx K a ha hp hd hun hI hK;have HX:=hI.x;have u13:=hI.f13 (hp 13 (by kernel_rfl));clear hp HX;replace hd:=h_ hd;simp only[putAll,Act.put,zs,Nat.reduceAdd] at ha;subst ha;simp only[Act.put,zs] at hK;go_simp;refine hK _ _ ?_
    first
    | (refine {hI with f14:= ?_}<;>(first|exact fun _=>rfl|skip))
    | (refine⟨?_,?_,?_,?_,?_,?_,?_,?_,?_,?_,?_,?_,?_,?_,?_,?_,?_,?_,?_,?_,?_,?_,?_⟩<;>(first|exact hI.x|exact hI.g0|exact hI.g1|exact hI.g2|exact hI.g3|exact hI.g4|exact hI.g5|exact hI.g6|exact hI.f0|exact hI.f1|exact hI.f2|exact hI.f3|exact hI.f4|exact hI.f5|exact hI.f6|exact hI.f7|exact hI.f8|exact hI.f9|exact hI.f10|exact hI.f11|exact hI.f12|exact hI.f13|exact hI.f14|exact fun _=>rfl|skip))
    all_goals (first|exact fun _=>u13|exact fun h=>nomatch (show true=false from h))
   intro L us wx hall hI;have own14:=hI.f14 (hall 14 (by simp));have BK:=hI.g2 (hall 11 (by simp));have EX:=hI.x;have MX:=hI.g5;have PX:=hI.g6;obtain⟨g11,hg11⟩:=nm (bk (us 11));rw[hg11] at own14 BK;obtain⟨v2,hv2⟩:=nm (us 14);rw[hv2] at own14;simp only[putAll,Act.put,zs,Nat.reduceAdd,hv2];clear hall hI hg11 hv2;obtain⟨gs',hgs'⟩: ∃gs':Nat→Nat,gs'=updF gs j g11:=⟨_,rfl⟩;have hge: ∀i,i<j→gs' i=gs i:=fun i hi=>by rw[hgs',updF_ne _ _ (by omega)]
   have hgj:gs' j=g11:=by rw[hgs',updF_at]
   have hpl:plC gs (klen ks bs) j ++ [.slice (some ⟨g11,0,none⟩) n n]=plC gs' (klen ks bs) (j+1):=by rw[plC_succ,plC_upd hge,hgj,Hkl.out]
   rw[hpl] at own14;have PX':=PX.next hge (by rw[hgj,Hbc.out];exact BK);have Hgj:=h_ hgj;obtain⟨PA,pc,rfl⟩:=ownForm own14;obtain⟨PG,hPG,cPG,-⟩:=ownAt own14 (t:=j) (by omega) (plC_at (by omega));subst hPG;rw[Hgj.out,Hkl.out] at cPG;have jl:(j:Int)<((j+1:Nat):Int):=by omega
   clear hgs' hge hpl BK PX hgj;go_wp2_with fail;clear cPG;go_loopw [48] (fun ii wr'=> ∃(q:Nat) (m':List ((Pt×Int)×(Nat×Nat))),q≤n∧ii = .int .i64 q∧Ext W1 wr'∧MapOf encF evE wr' M m'∧Faces ks bs m' (Upk ks bs j q)∧wr'.ownsRow (M+1) 110 1 (.slice (some ⟨PG,0,none⟩) (j+1) pc) (j+1) (plC gs' (klen ks bs) (j+1))∧PB ks bs wr' gs' (j+1)) (fun ii _=>n-(intOf ii).toNat)
   case atStart=>exact⟨0,mm,by omega,rfl,EX,MX,FF,own14,PX'⟩
   case round =>
    clear EX MX FF own14 PX';obtain⟨q,m',hqn',rfl,Er,MM,FF,own,hPB⟩:=hrel;have hn48:=Hn48.out;by_cases hqt:q<n
    ·obtain⟨c0,c1,c2,c3,c4⟩:=hPB.at_ (i:=j) (q:=q) (by omega) (by rw[Hkl.out];exact hqt);rw[Hgj.out] at c0 c1 c2 c3 c4;have Hfa:=h_ (show faceAt ks bs j q=((knbAt (bknobs ks (brkAt bs j)) q).at_,(knbAt (bknobs ks (brkAt bs j)) q).dir) from rfl);obtain⟨⟨⟨kx,ky,kz⟩,kd',ksr⟩,hkq⟩:=nm (knbAt (bknobs ks (brkAt bs j)) q);rw[hkq] at c0 c1 c2 c3 c4 Hfa;simp only at c0 c1 c2 c3 c4 Hfa;have q0:(0:Int)≤q:=by omega
     have q1:(q:Int)<n:=by omega
     obtain⟨W8,hW8,E8,B8,hz8⟩:=mk_ wr #[.int .i64 kx,.int .i64 ky,.int .i64 kz,.int .u8 kd',.int .u8 ksr] 137;have b8:=B8.cell;have M8:=MM.ext E8;have own8:=own_ext own E8;have PB8:=hPB.ext E8;have Er8:=Er.trans E8;clear hz8 hkq MM own hPB Er;go_wp2_with (at_mapUpdate;refine wpList_put faceKey rfl _ _ _ 213 rfl 215 Tryz.underlying213 M m' (⟨kx,ky,kz⟩,kd') (j,q) rfl M8 rfl rfl ?_;intro w6 M6 hg6 hz6);go_roundw
     case rel =>
      rw[←Hfa.out] at M6;refine⟨q+1,_,by omega,by go_num,Er8.grown hg6 (fun k hk=>by cases hk;have:=HM.out;omega),M6,FF.put HF.out (by rw[Hnb.out];exact hlt) (by rw[Hkl.out];exact hqt),ownGrown own8 hg6 (Or.inr (ownMap own8 M8).symm),PB8.map M8 hg6⟩
     case measure=>simp only[intOf];omega
    ·obtain rfl:q=n:=by omega
     go_wp2_with fail;go_roundw
     case rel =>
      refine⟨j+1,_,gs',m',by omega,by go_num,rfl,Er,MM,FF.congr (fun i k=> ?_),own,hPB⟩;rw[Upk.next,Hkl.out]
     case measure=>simp only[intOf];omega
  ·obtain rfl:j=nb:=by omega
   have FN:Faces ks bs mm (Upk ks bs bs.length 0):=by rw[Hnb.out];exact FF
   have HFN:=h_ FN;obtain⟨PA,pc,rfl⟩:=ownForm own;have Hgs:=h_ (fun i (hi:i<j)=>plC_at (gs:=gs) (ln:=klen ks bs) hi);obtain⟨i8,hi8,hz8,hz81,hz82⟩:=info_parts infoLnk;clear FF FN b1;go_wp2_with fail;go_loopw [12,66] (fun v ii wr'=> ∃(a:Nat) (u:Value) (L:List Lnk),a≤j∧ii = .int .i64 a∧u=v∧Ext W1 wr'∧MapOf encF evE wr' M mm∧wr'.ownsRow (M+1) 110 1 (.slice PA j pc) j (plC gs (klen ks bs) j)∧PB ks bs wr' gs j∧wr'.ownsRow (M+1) 135 5 u L.length (L.map Lnk.cs).flatten∧Got ks bs a 0 L∧L.length≤a*48) (fun _ ii _=>j-(intOf ii).toNat)
   case atStart=>exact⟨0,_,[],by omega,rfl,rfl,Er,MM,own,hPB,World.ownsRow_nil _ _ _ _,Got.nil,by simp⟩
   case round =>
    clear own hPB Er MM;obtain⟨a,v,L,ha,rfl,rfl,Er,MM,own,hPB,ownL,hG,hLl⟩:=hrel;by_cases hat:a<j
    ·obtain⟨PG,hPG,cPG,-⟩:=ownAt own hat (Hgs.out a hat);subst hPG;obtain⟨n,hn⟩:=nm (klen ks bs a);obtain⟨ga,hga⟩:=nm (gs a);rw[hn,hga] at cPG;have Hkl:=h_ hn;have Hga:=h_ hga;have Hn48:=h_ (show n≤48 by rw[←hn];exact HF.out.klen (by rw[Hnb.out];exact hat));have a0:(0:Int)≤a:=by omega
     have a1:(a:Int)<j:=by omega
     clear hn hga;go_wp2_with fail;clear cPG;go_loopw [12,73] (fun v ii wr'=> ∃(i:Nat) (u:Value) (L:List Lnk),i≤n∧ii = .int .i64 i∧u=v∧Ext W1 wr'∧MapOf encF evE wr' M mm∧wr'.ownsRow (M+1) 110 1 (.slice (some ⟨PG,0,none⟩) j pc) j (plC gs (klen ks bs) j)∧PB ks bs wr' gs j∧wr'.ownsRow (M+1) 135 5 u L.length (L.map Lnk.cs).flatten∧Got ks bs a i L∧L.length≤a*48+i) (fun _ ii _=>n-(intOf ii).toNat)
     case atStart=>exact⟨0,_,L,by omega,rfl,rfl,Er,MM,own,hPB,ownL,hG,by omega⟩
     case round =>
      clear own hPB Er MM ownL hG hLl;obtain⟨i,v,L,hi,rfl,rfl,Er,MM,own,hPB,ownL,hG,hLl⟩:=hrel;have hn48:=Hn48.out;by_cases hit:i<n
      ·obtain⟨c0,c1,c2,c3,c4⟩:=hPB.at_ (i:=a) (q:=i) hat (by rw[Hkl.out];exact hit);rw[Hga.out] at c0 c1 c2 c3 c4;have hM:=HF.out.meets (j:=a) (q:=i) (by rw[Hnb.out];exact hat) (by show i<klen ks bs a;rw[Hkl.out];exact hit);have Hsa:=h_ (show sortAt ks bs a i=(knbAt (bknobs ks (brkAt bs a)) i).sort from rfl);have Hfar:=h_ (show farAt ks bs a i=(addP (knbAt (bknobs ks (brkAt bs a)) i).at_ (stepS (knbAt (bknobs ks (brkAt bs a)) i).dir.toNat),oppD (knbAt (bknobs ks (brkAt bs a)) i).dir) from rfl);obtain⟨kq,hkq⟩:=nm (knbAt (bknobs ks (brkAt bs a)) i);rw[hkq] at c0 c1 c2 c3 c4 hM Hfar Hsa;clear hkq;obtain⟨x,y,z,d,s,rfl,hM⟩:=hM.nat;simp only at c0 c1 c2 c3 c4 Hfar Hsa;have hd6:d<6:=by have:=hM.d5;simp only at this;omega
       have hs1:1≤s:=hM.s1;have hs6:s≤6:=hM.s6;obtain⟨od,hod⟩:=nm (oppD d);have Hx:=h_ ((oppD_xor hd6).trans hod);have CS:=h_ (fun W=>step_c d hd6 W);obtain⟨⟨s1,s2,s3⟩,hst⟩:=nm (stepS d);have hso:=stepS_ok d;rw[Int.toNat_natCast,hst,hod] at Hfar;rw[hst] at CS hso;have CP:=h_ (fun W=>plus_c x y z s1 s2 s3 W hM.ok hso);unfold addP at Hfar;simp only at CS Hfar;obtain⟨o,ho⟩:=nm (getK mm (farAt ks bs a i));have LK:=h_ (fun W (h:MapOf encF evE W M mm)=>look_face h (x+s1) (y+s2) (z+s3) od);rw[←Hfar.out,ho] at LK;have Ho:=h_ ho;obtain⟨o1,ho1⟩: ∃q:Int,(((o.getD (0,0)).1:Nat):Int)=q:=⟨_,rfl⟩;obtain⟨o2,ho2⟩: ∃q:Int,(((o.getD (0,0)).2:Nat):Int)=q:=⟨_,rfl⟩;obtain⟨is,his⟩:=nm o.isSome;rw[ho1,ho2,his] at LK;have Hos:=h_ (And.intro ho1 (And.intro ho2 his));have w1:=h_ (show IntKind.i64.wrap (d:Int)=d from IntWalk.i64_in _ (by omega));obtain⟨W8,hW8,E8,B8,hz8⟩:=mk_ wr #[.int .i64 x,.int .i64 y,.int .i64 z,.int .u8 d,.int .u8 s] 137;obtain⟨X,hX⟩:=nm wr.heap.size;rw[hX] at B8;have HX':=h_ hX;have HM8:=h_ (MM.ext E8);have HB8:=h_ B8;have i0:(0:Int)≤i:=by omega
       have i1:(i:Int)<n:=by omega
       have Er8:=Er.trans E8;have own8:=own_ext own E8;have PB8:=hPB.ext E8;have ownL8:=own_ext ownL E8;have HEr8:=h_ Er8;have Hown8:=h_ own8;have HPB8:=h_ PB8;have HownL8:=h_ ownL8;clear hod hst hso ho ho1 ho2 his hz8 hX hM MM own hPB ownL Er E8 B8 own8 PB8 ownL8 Er8
       go_upto_region 20 with(fail)
       rw[HX'.out];clear c0 c1 c2 c3 c4 hW8;refine wp_region_by (Ls20 W8 M X x y z s1 s2 s3 o1 o2 d od is) (by kernel_rfl) (by kernel_rfl) (by kernel_rfl) (fun us=>⟨(Ext.refl _).drew,(nofun),(nofun),(nofun),(nofun),(nofun),(nofun),(nofun),(nofun),(nofun),(nofun),(nofun),(nofun),(nofun),(nofun),(nofun),(nofun),(nofun),(nofun),(nofun),(nofun),(nofun)⟩) ⟨?_,?_,?_,?_,?_,?_,?_,?_,?_,?_,?_,?_,?_,?_,?_,?_,?_,?_,?_,trivial⟩ ?_
       any_goals (intro L' us wx K a ha hp hd hun hI hK;replace hp:=h_ hp;replace hd:=h_ hd;simp only[putAll,Act.put,zs,Nat.reduceAdd] at ha;subst ha;simp only[Act.put,zs] at hK)
       ·go_simp;exact hK _ _ {hI with f0:=fun _=>rfl}
       ·go_simp;exact hK _ _ {hI with f1:=fun _=>rfl}
       ·have bb:=(HB8.out.ext hI.x).cell;rw[hI.f1 (h_p hp 1)] at hK ⊢;go_simp;exact hK _ _ {hI with f2:=fun _=>rfl}
       ·go_simp;exact hK _ _ {hI with f3:=fun _=>rfl}
       ·have bb:=(HB8.out.ext hI.x).cell;rw[hI.f3 (h_p hp 3)] at hK ⊢;go_simp;exact hK _ _ {hI with f4:=fun _=>rfl}
       ·rw[hI.f4 (h_p hp 4)] at hK ⊢;go_simp;refine hK _ _ ?_;refine {hI with f5:= ?_}<;>(first|exact fun _=>rfl|skip);exact fun _=>congrArg (Value.int .i64) w1.out
       ·rw[hI.f5 (h_p hp 5)] at hK ⊢;go_simp;go_at_call 122;refine(CS.out _).mono ?_;rintro e wn ⟨rfl,En⟩;go_simp;refine hK _ _ ?_;refine {hI with x:=hI.x.trans En,g0:= ?_,g1:= ?_,f6:= ?_,f17:= ?_}<;>(first|exact hI.g0.ext En|exact fun h=>(hI.g0 h).ext En|exact fun h h2=>(hI.g0 h h2).ext En|exact fun h=>own_ext (hI.g0 h) En|exact hI.g0|exact hI.g1.ext En|exact fun h=>(hI.g1 h).ext En|exact fun h h2=>(hI.g1 h h2).ext En|exact fun h=>own_ext (hI.g1 h) En|exact hI.g1|exact fun h=>(hI.f17 h).ext En|exact fun h=>own_ext (hI.f17 h) En|exact fun _=>rfl|skip)
       ·rw[hI.f2 (h_p hp 2),hI.f6 (h_p hp 6)] at hK ⊢;go_simp;go_at_call 117;refine(CP.out _).mono ?_;rintro e wn ⟨rfl,En⟩;go_simp;refine hK _ _ ?_;refine {hI with x:=hI.x.trans En,g0:= ?_,g1:= ?_,f7:= ?_,f17:= ?_}<;>(first|exact hI.g0.ext En|exact fun h=>(hI.g0 h).ext En|exact fun h h2=>(hI.g0 h h2).ext En|exact fun h=>own_ext (hI.g0 h) En|exact hI.g0|exact hI.g1.ext En|exact fun h=>(hI.g1 h).ext En|exact fun h h2=>(hI.g1 h h2).ext En|exact fun h=>own_ext (hI.g1 h) En|exact hI.g1|exact fun h=>(hI.f17 h).ext En|exact fun h=>own_ext (hI.f17 h) En|exact fun _=>rfl|skip)
       ·go_simp;exact hK _ _ {hI with f8:=fun _=>rfl}
       ·have bb:=(HB8.out.ext hI.x).cell;rw[hI.f8 (h_p hp 8)] at hK ⊢;go_simp;exact hK _ _ {hI with f9:=fun _=>rfl}
       ·rw[hI.f9 (h_p hp 9)] at hK ⊢;go_simp;refine hK _ _ ?_;refine {hI with f10:= ?_}<;>(first|exact fun _=>rfl|skip);exact fun _=>congrArg (Value.int .u8) Hx.out
       ·rw[hI.f7 (h_p hp 7),hI.f10 (h_p hp 10)] at hK ⊢;go_simp;exact hK _ _ {hI with f11:=fun _=>rfl}
       ·have lk:=LK.out wx (HM8.out.ext hI.x);rw[hI.f0 (h_p hp 0),hI.f11 (h_p hp 11)] at hK ⊢;go_simp;exact hK _ _ {hI with f12:=fun _=>rfl}
       ·rw[hI.f12 (h_p hp 12)] at hK ⊢;go_simp;exact hK _ _ {hI with f13:=fun _=>rfl}
       ·rw[hI.f13 (h_p hp 13)] at hK ⊢;go_simp;exact hK _ _ {hI with f14:=fun _=>rfl}
       ·rw[hI.f13 (h_p hp 13)] at hK ⊢;go_simp;exact hK _ _ {hI with f15:=fun _=>rfl}
       ·have h17:L' 17=false:=bfl (hd.out 17 16 · (by kernel_rfl)) hun;go_simp;refine hK _ _ ?_;refine⟨hI.x.alloc _,(fun _=>hI.x.size),(fun _ _=>Blk.new _ _ _),?_,?_,?_,?_,?_,?_,?_,?_,?_,?_,?_,?_,?_,?_,?_,?_,?_,?_,?_⟩
        all_goals (first|exact hI.f0|exact hI.f1|exact hI.f2|exact hI.f3|exact hI.f4|exact hI.f5|exact hI.f6|exact hI.f7|exact hI.f8|exact hI.f9|exact hI.f10|exact hI.f11|exact hI.f12|exact hI.f13|exact hI.f14|exact hI.f15|exact hI.f18|exact fun _=>rfl|exact fun h=>absurd (show L' 17=true from h) (by rw[h17];decide))
       ·have u16:=hI.f16 (h_p hp 16);have hb:=hI.g1 (h_p hp 16) hun;have hg:=hI.g0 (h_p hp 16);obtain⟨gs_,hgs⟩:=nm (bk (us 16));rw[hgs] at u16 hb hg;have cb:=hb.cell;have fb:=hb.frozen;obtain⟨V,hV⟩:=nm ((wx.setCell ⟨gs_,0,none⟩ (.int .i64 o1)).setCell ⟨gs_,1,none⟩ (.int .i64 o2));have BV:Blk V (bk (us 16)) 215 #[.int .i64 o1,.int .i64 o2]:=by rw[hgs,←hV];exact(hb.set_ 0 _).set_ 1 _
        have EV:Ext W8 V:=by rw[←hV];exact(hI.x.setCell hg _).setCell hg _
        replace hgs:=h_ hgs;rw[hI.f14 (h_p hp 14),u16] at hK ⊢;go_simp;refine hK undef _ ?_;refine⟨EV,hI.g0,(fun _ h=>nomatch (show true=false from h)),?_,?_,?_,?_,?_,?_,?_,?_,?_,?_,?_,?_,?_,?_,?_,?_,?_,?_,?_⟩
        all_goals (first|exact hI.f0|exact hI.f1|exact hI.f2|exact hI.f3|exact hI.f4|exact hI.f5|exact hI.f6|exact hI.f7|exact hI.f8|exact hI.f9|exact hI.f10|exact hI.f11|exact hI.f12|exact hI.f13|exact hI.f14|exact hI.f15|exact hI.f16|exact hI.f18|exact fun _=>BV)
       ·rw[hI.f15 (h_p hp 15)] at hK ⊢;go_simp;exact hK _ _ {hI with f18:=fun _=>rfl}
       intro L' us wx hall hI;have e16:=hI.f16 (hall 16 (by simp));have e18:=hI.f18 (hall 18 (by simp));have BE:=hI.f17 (hall 17 (by simp));have EX:=hI.x;obtain⟨S,hS⟩:=nm (bk (us 16));rw[hS] at e16 BE;simp only[putAll,Act.put,zs,Nat.reduceAdd,e16,e18];clear hall hI e16 e18 hS CS CP LK Hx w1;have ErX:=HEr8.out.trans EX;have ownX:=own_ext Hown8.out EX;have PBX:=HPB8.out.ext EX;have ownLX:=own_ext HownL8.out EX;have MX:=HM8.out.ext EX;have BX:=HB8.out.ext EX;have be:=BE.cell;clear Hown8 HPB8 HownL8 HM8 HB8 EX HEr8;cases o with
       | none =>
        obtain⟨-,-,rfl⟩:=Hos.out;go_wp2_with fail;go_roundw
        case rel=>exact⟨i+1,v,L,by omega,by go_num,rfl,ErX,MX,ownX,PBX,ownLX,hG.skip (HFN.out.none_ Ho.out),by omega⟩
        case measure=>simp only[intOf];omega
       | some bk' =>
        obtain⟨b,k⟩:=bk';obtain⟨rfl,rfl,rfl⟩:=Hos.out;simp only[Option.getD_some,Option.isSome_some] at be BE ⊢;have hbk:=HFN.out.lt Ho.out;rw[Hnb.out] at hbk;by_cases hba:b≤a
        ·have hba':(b:Int)≤a:=by omega
         go_wp2_with fail;go_roundw
         case rel=>exact⟨i+1,v,L,by omega,by go_num,rfl,ErX,MX,ownX,PBX,ownLX,hG.skip (HFN.out.skip1 Ho.out hba),by omega⟩
         case measure=>simp only[intOf];omega
        ·have hba': ¬(b:Int)≤a:=by omega
         obtain⟨PG',hPG',cb,-⟩:=ownAt ownX hbk.1 (Hgs.out b hbk.1);cases hPG';have cs:=(PBX.at_ hbk.1 hbk.2).2.2.2.2;have hMb:=HF.out.meets (j:=b) (q:=k) (by rw[Hnb.out];exact hbk.1) hbk.2;have Hsb:=h_ (show sortAt ks bs b k=(knbAt (bknobs ks (brkAt bs b)) k).sort from rfl);have hlb:=HF.out.klen (j:=b) (by rw[Hnb.out];exact hbk.1);have hkb:=hbk.2;unfold klen at hkb;obtain⟨gb,hgb⟩:=nm (gs b);obtain⟨lb,hlbe⟩:=nm (klen ks bs b);unfold klen at hlbe;rw[hlbe] at hlb hkb;rw[hgb] at cb cs;rw[show klen ks bs b=lb from hlbe] at cb;obtain⟨kb,hkbe⟩: ∃k',knbAt (bknobs ks (brkAt bs b)) k=k':=⟨_,rfl⟩;rw[hkbe] at cs hMb Hsb;obtain⟨xb,yb,zb,db,sb,rfl,hMb⟩:=hMb.nat;simp only at cs Hsb;have hsb1:1≤sb:=hMb.s1;have hsb6:sb≤6:=hMb.s6;have b0:(0:Int)≤b:=by omega
         have b1:(b:Int)<j:=by omega
         have k0:(0:Int)≤k:=by omega
         have k1:(k:Int)<lb:=by omega
         have Hbk:=h_ hbk;clear hgb hlbe hkbe hMb hbk
         go_upto_region 22 with(fail)
         refine w_g ?_
         repeat (go_big_quiet_step (fail))
         refine wpQuiet_nil ?_;intro W9 hW9;have E9:Ext wx W9:=by
          obtain⟨x,rfl⟩:=hW9;exact(Ext.refl _).grow x
         clear hW9;obtain⟨hcW9,hfW9,hzW9⟩:=ext_facts E9;clear hcW9 hfW9 hzW9 cb cs be;have be:=(BE.ext E9).cell;have bx:=(BX.ext E9).cell;have Er9:=ErX.trans E9;have own9:=own_ext ownX E9;have PB9:=PBX.ext E9;have ownL9:=own_ext ownLX E9;have M9:=MX.ext E9;clear ownX PBX ownLX MX BX BE;obtain⟨q1,hq1⟩:=nm ((s+1).tdiv 2);obtain⟨q2,hq2⟩:=nm ((sb+1).tdiv 2);have Hfit:=h_ (show fitS s sb=(decide (q1=q2)&&decide (s≠sb)) by
          rw[←hq1,←hq2];unfold fitS
          rw[Int.tdiv_eq_ediv_of_nonneg (by omega),Int.tdiv_eq_ediv_of_nonneg (by omega)])
         have hq3:=Int.tdiv_eq_ediv_of_nonneg (a:=s+1) (b:=2) (by omega);have hq4:=Int.tdiv_eq_ediv_of_nonneg (a:=sb+1) (b:=2) (by omega);rw[hq1] at hq3;rw[hq2] at hq4;have g1:0≤q1:=by omega
         have g2:q1≤3:=by omega
         have g3:0≤q2:=by omega
         have g4:q2≤3:=by omega
         clear hq3 hq4;by_cases hqq:q1=q2;rotate_left
         ·have t1:(q1==q2)=false:=by simpa using hqq
          have HS2:=h_ (HFN.out.skip2 HF.out (by rw[Hnb.out];exact hat) (by rw[Hkl.out];exact hit) Ho.out (by rw[Hsa.out,Hsb.out,Hfit.out,decide_eq_false hqq];rfl));clear hqq;go_wp2_with fail;go_roundw
          case rel=>exact⟨i+1,v,L,by omega,by go_num,rfl,Er9,M9,own9,PB9,ownL9,hG.skip (HS2.out),by omega⟩
          case measure=>simp only[intOf];omega
         have t1:(q1==q2)=true:=by simpa using hqq
         have Hqq:=h_ hqq;clear hqq;by_cases hss:s=sb
         ·have t2:(s != sb)=false:=by simpa using hss
          have HS2:=h_ (HFN.out.skip2 HF.out (by rw[Hnb.out];exact hat) (by rw[Hkl.out];exact hit) Ho.out (by rw[Hsa.out,Hsb.out,Hfit.out,decide_eq_true Hqq.out,decide_eq_false (by simpa using hss)];rfl));clear hss;go_wp2_with fail;go_roundw
          case rel=>exact⟨i+1,v,L,by omega,by go_num,rfl,Er9,M9,own9,PB9,ownL9,hG.skip (HS2.out),by omega⟩
          case measure=>simp only[intOf];omega
         ·have t2:(s != sb)=true:=by simpa using hss
          have HIT:=HFN.out.hit HF.out (by rw[Hnb.out];exact hat) (by rw[Hkl.out];exact hit) Ho.out (by omega) (by rw[Hsa.out,Hsb.out,Hfit.out,decide_eq_true Hqq.out,decide_eq_true hss];rfl);rw[Hsa.out,Hsb.out] at HIT;have HIT':=h_ HIT;have hlX:L.length+1≤maxLen:=by unfold maxLen;omega
          have hby:(L.length+1)*40≤140737488355328:=by omega
          have hTx:M+1≤W9.heap.size:=by have:=M9.lt;omega
          clear hss HIT;go_wp2_with (at_builtin;refine wpList_append_one #[.int .i64 a,.int .i64 b,.int .i64 i,.int .i64 k,.int .u8 (min s sb)] rfl (.tmp 126) (.tmp 138) 131 rfl (M+1) 135 135 i8 _ 5 40 Tryz.underlying131 hi8 hz8 hz81 hz82 rfl (by decide) _ _ _ _ rfl ownL9 rfl rfl (by simp[Value.oneCell']) hlX hby hTx ?_;intro g7 cap7 w7 own7 hg7);go_roundw
          case rel =>
           have EA:=(Ext.refl W9).alloc (.cells #[.int .i64 a,.int .i64 b,.int .i64 i,.int .i64 k,.int .u8 (min s sb)] 135);have ownA:=own_ext ownL9 EA;have ownP:=own_ext own9 EA;refine⟨i+1,_,L ++ [⟨a,b,i,k,min s sb⟩],by omega,by go_num,rfl,(Er9.alloc _).grown hg7 (fun r hr=>by have:=(ownA.lt r hr).1;have:=HM.out;omega),(M9.ext EA).grown hg7 (ownMap ownA (M9.ext EA)),ownGrown ownP hg7 (ownApart ownP ownA (by decide)),(PB9.ext EA).grown ownA hg7 (by decide),?_,hG.add HF.out HIT'.out rfl rfl,?_⟩
           ·rw[List.length_append,List.map_append,List.flatten_append];exact own7
           ·rw[List.length_append,List.length_singleton];omega
          case measure=>simp only[intOf];omega
      ·obtain rfl:i=n:=by omega
       go_wp2_with fail;go_roundw
       case rel =>
        refine⟨a+1,v,L,by omega,by go_num,rfl,Er,MM,own,hPB,ownL,Got.next ?_,by omega⟩;rw[show(bknobs ks (brkAt bs a)).length=i from Hkl.out];exact hG
       case measure=>simp only[intOf];omega
    ·obtain rfl:a=j:=by omega
     rw[←Hnb.out] at hG;have HG2:=h_ hG;obtain⟨LA,lc,rfl⟩:=ownForm ownL;clear hG;have hL2:L.length≤1920:=by omega
     have HE2:=HE.out.trans Er;have HM1:=h_ (show T+1=M from HZ.out.symm.trans HM.out);have hfin: ∀(w':World) (L':List Lnk),L'.Perm L→(L'.Pairwise fun x y=>ltK y x=false)→L'=linkL ks bs:=fun w' L' h1 h2=>sorted_linkL HF.out (h1.trans HG2.out.perm) h2;have Hfin:=h_ hfin;have HEw:=h_ HE2;clear hfin HE2;rcases ownL.2 with⟨hv,h0⟩|⟨g,cap,cur,hv,hg⟩
     ·simp only[Value.slice.injEq] at hv;obtain⟨rfl,-,rfl⟩:=hv;obtain rfl:=List.eq_nil_of_length_eq_zero h0;have HO:=h_ own;have HP:=h_ hPB;clear own hPB ownL h0 MM;go_wp2_with fail;refine(sortNilK_c _ _).mono ?_;rintro e w9 ⟨rfl,rfl⟩;go_wp2_with fail;go_ret2;have e0:=Hfin.out w [] (List.Perm.refl _) List.Pairwise.nil;refine⟨none,0,PA,pc,gs,by rw[←e0];rfl,by rw[←e0];exact links_nil _,own_base HO.out (by have:=HT.out;have:=HM1.out;omega),HP.out,HEw.out⟩
     ·simp only[Value.slice.injEq] at hv;obtain⟨rfl,-,hv⟩:=hv;subst hv;obtain⟨RX,hg1,hc1,hc2⟩:=RowX.of_own (rows:=L.map Lnk.cs) ownL;have SC:=sortK_c L g lc wr RX (by omega);have Hg:=h_ hg1;have Hc:=h_ (And.intro hc1 hc2);have HO:=h_ own;have HP:=h_ hPB;have HL:=h_ ownL;clear own hPB ownL hg hg1 hc1 hc2 RX MM;go_wp2_with fail;refine SC.mono ?_;rintro e w9 ⟨rfl,L',hp,hs,RY,g9⟩;go_wp2_with fail;go_ret2;have hl:=hp.length_eq;obtain rfl:=Hfin.out w L' hp hs;have g9':wr.grownBy w9 (Value.slice (some ⟨g,0,none⟩) L.length lc).ownBlock:=g9;refine⟨some ⟨g,0,none⟩,lc,PA,pc,gs,by rw[hl];rfl,RY.slice (lnk_wide _) (by rw[List.length_map]) (by rw[hl];exact Hc.out.1) Hc.out.2,own_base (ownGrown HO.out g9' (ownApart HO.out HL.out (by decide))) (by have:=HT.out;have:=HM1.out;omega),HP.out.grown HL.out g9' (by decide),HEw.out.grown g9 (fun k hk=>by have:=Option.some.inj hk;have:=Hg.out;have:=HT.out;have:=HM1.out;omega)⟩
end Go.Proofs.YtojolpbpjimfgaaGreatDoor
