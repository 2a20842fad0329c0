/- Texts of the proof: Push. -/
import Derived.Test.YtojolpbpjimfgaaGreatDoorZy17
import Derived.Test.YtojolpbpjimfgaaGreatDoorZy22
import Derived.Test.YtojolpbpjimfgaaGreatDoorZy25
import Derived.Test.YtojolpbpjimfgaaGreatDoorZy33
import Derived.Test.YtojolpbpjimfgaaGreatDoorZy34
set_option maxHeartbeats 16000000
set_option maxRecDepth 100000
namespace Go.Proofs.YtojolpbpjimfgaaGreatDoor
open Go.RowKit
theorem vsA_const(n:Nat)(v:Value):madeCells #[v] (n*1)=vsA n fun _=>v:=by
 rw[rowsA_made (sz:=1) rfl (by decide)];unfold rowsA vsA;congr 1
 induction n with
 | zero=>rfl
 | succ n ih=>rw[List.replicate_succ',List.flatten_append,ih,List.range_succ,List.map_append];rfl
theorem zeroA_vs(n:Nat):zeroA n=vsA n fun _=> .int .i64 0:=by
 unfold zeroA vsA;congr 1;rw[List.map_replicate];exact(List.eq_replicate_iff.2 ⟨by simp,fun b hb=>by obtain⟨y,-,rfl⟩:=List.mem_map.1 hb;rfl⟩).symm
theorem infoBoolW:(Tryz.prog.info? 4).map (fun i=>(i.zero,i.size,i.bytes))=some (some (.bool false),1,1):=by kernel_rfl
theorem make_bls(n:Nat)(hn:n≤1000)(w:World):(Instr.makeSlice 114 (.int .i64 (n:Int)) (.int .i64 (n:Int))).run Tryz.prog w = .ok (.slice (some ⟨w.heap.size,0,none⟩) n n) (w.alloc (.cells (vsA n fun _=> .bool false) 4)):=by
 obtain⟨i0,hi,hz0,hz1,hz2⟩:=info_parts infoBoolW;have h:=run_make (P:=Tryz.prog) w 114 4 i0 (.bool false) Tryz.underlying114 hi hz0 .i64 .i64 (n:Int) (n:Int) (by omega) (Int.le_refl _) (by rw[hz2];omega) (by omega);rw[h];have e:madeCells (Value.cells (.bool false)) ((n:Int).toNat*i0.size)=vsA n fun _=> .bool false:=by
  rw[hz1,Int.toNat_natCast];exact vsA_const n _
 rw[e];simp
theorem NRow.num{w:World}{g n:Nat}{d:Nat→Int}(h:NRow w g n d):NumX w g ((List.range n).map d):=by
 refine⟨#[],?_⟩;have e:(((List.range n).map d).map numC).toArray ++ #[]=vsA n fun k=>Value.int .i64 (d k):=by
  unfold vsA;rw[Array.append_empty,List.map_map];rfl
 rw[e];exact h
theorem NRow.new(n:Nat)(w:World):NRow (w.alloc (.cells (zeroA n) 3)) w.heap.size n fun _=>0:=by
 rw[zeroA_vs];exact Blk.new _ _ _
def PK(SB DB GP LB b:Nat):Prop:=b=SB∨b=DB∨b=GP∨b=LB
def PushPost(ks:List Knd)(bs:List Brk)(gl:List Bool)(n:Nat)(w:World)(e:Ending)(w':World):Prop :=
 ∃GP DB A c put d l S,e = .returned (.tuple #[.pointer (some ⟨GP,0,none⟩),.slice (some ⟨DB,0,none⟩) n n,.slice A (fallL n S).length c])∧MatB w' GP put∧NRow w' DB n d∧IntsZ w' A c (fallL n S) ∧
  Flow n (capV ks bs) (grF gl) (wtOf ks bs) put d l∧IsFall n (capV ks bs) (grF gl) put l S∧Ext w w'
theorem ints_own{w:World}{b:Nat}{e:TypeId}{v:Value}{n:Nat}{l:List Int}(hn:l.length=n)(h:w.ownsRow b e 1 v n (l.map (Value.int .i64))): ∃A cap,v = .slice A n cap∧IntsZ w A cap l∧(∀q,A=some q→b≤q.block):=by
 obtain⟨A,cap,e1,h1,h2⟩:=own_slice0 (rows:=l.map fun b=> [.int .i64 b]) (sz:=1) (n:=n) (fun r hr=>by obtain⟨v,-,rfl⟩:=List.mem_map.1 hr;rfl) (by rw[List.length_map];exact hn) (by
  have e:(l.map fun b=> [Value.int .i64 b]).flatten=l.map (Value.int .i64):=by
   clear hn h
   induction l with
   | nil=>rfl
   | cons a l ih=>rw[List.map_cons,List.flatten_cons,ih];rfl
  rw[e]
  exact h)
 subst hn;exact⟨A,cap,e1,h1,h2⟩
structure Pu3(W0:World)(n:Nat)(L:Nat→Bool)(us:Nat→Value)(w:World):Prop where
 x:Ext W0 w
 g1:L 1=true→W0.heap.size≤bk (us 1)∧NRow w (bk (us 1)) n fun _=>0
 g2:L 3=true→W0.heap.size≤bk (us 3)∧NRow w (bk (us 3)) n fun _=>0
 g3:L 4=true→L 5=false→W0.heap.size≤bk (us 4)∧Blk w (bk (us 4)) 26 #[.slice none 0 0]
 g4:L 5=true→W0.heap.size≤bk (us 4)∧Blk w (bk (us 4)) 26 #[.slice (some ⟨bk (us 1),0,none⟩) n n]
 g5:L 1=true→L 3=true→bk (us 1)≠bk (us 3)
 f0:L 0=true→us 0 = .int .i64 n
 f1:L 1=true→us 1 = .slice (some ⟨bk (us 1),0,none⟩) n n
 f2:L 2=true→us 2 = .int .i64 n
 f3:L 3=true→us 3 = .slice (some ⟨bk (us 3),0,none⟩) n n
 f4:L 4=true→us 4 = .pointer (some ⟨bk (us 4),0,none⟩)
 f6:L 6=true→us 6 = .slice (some ⟨bk (us 3),0,none⟩) n n
theorem push_c(X:Nat)(qs:List (Knd×KAt))(QA:Option Addr)(qc:Nat)(bs:List Brk)(B:Option Addr)(cb:Nat)(CA:Option Addr)(cc M:Nat)(JA:Option Addr)(jc:Nat)(gs cp:Nat→Nat)(mm:List (Pt×Int))(GA:Option Addr)(gc:Nat)(gl:List Bool)(w:World)(h:BuiltAt w X qs QA qc bs B cb CA cc M JA jc gs cp mm)(hk:Kinds w QA qc qs)(hb:Bricks w B cb bs)(hf:Fit (qs.map (·.1)) bs)(hg:BoolsZ w GA gc gl)(hgl:gl.length=bs.length) :
  Calls Tryz.prog 95 #[.pointer (some ⟨X,0,none⟩),.slice GA bs.length gc] w (PushPost (qs.map (·.1)) bs gl bs.length w):=by
 have hnb:=hf.n;have hcs:=fun i k=>capV_small hf i k;have hw9: ∀i,i<bs.length→0≤wtOf (qs.map (·.1)) bs i∧wtOf (qs.map (·.1)) bs i≤100:=fun i hi=>by
  obtain⟨m,k,p,-,-,-,e,h1,h2⟩:=wt_parts hf hi;omega
 have HWT:=h_ (fun(i:Nat) (hi:i<bs.length) (W:World) (E:Ext w W)=>weight_c X qs QA qc bs B cb CA cc M JA jc gs cp mm W (h.ext E) (hk.ext E) (hb.ext E) hf i hi);obtain⟨n,hn⟩:=nm bs.length;obtain⟨W1,hW1,E1,B1,hz1⟩:=mk_ w #[.slice GA n gc] 114;obtain⟨W2,hW2,E2,B2,hz2⟩:=mk_ W1 #[.int .i64 n] 3;obtain⟨R,hR⟩:=nm w.heap.size;rw[hR] at B1 hz1;rw[hz1] at B2 hz2;have E:=E1.trans E2;have CC:=capacities_c X qs QA qc bs B cb CA cc M JA jc gs cp mm W2 (h.ext E) hf;have b1:=B1.cell;have hmk:=make_nums n (by omega);have HR:=h_ hR;have HZ1:=h_ hz1;have Hgl:=h_ hgl;have Hg:=h_ hg;rw[hn] at HWT hnb Hgl hw9 ⊢;obtain⟨i9,hi9,hz9,hz91,hz92⟩:=info_parts infoInt2;have Hw9:=h_ hw9;have Hcs:=h_ hcs;have Hn:=h_ hn;clear h hk hb hf hR hg hgl hz1 hw9 hcs hn;go_enter Tryz.func95,Tryz.ntmps95
 go_upto_region 1 with(fail)
 rw[HR.out];clear hW1
 go_upto_region 2 with(fail)
 clear hW2 b1;have b2:=B2.cell;go_wp2_with fail;refine CC.mono ?_;rintro e W5 ⟨G,f,rfl,hG,hM,hfv,E5⟩;clear b2 CC
 go_upto_region 3 with(fail)
 obtain⟨W6,hW6,E6,B6,hz6⟩:=mk_ W5 Tryz.zeroCells226 226;obtain⟨W7,hW7,E7,B7,hz7⟩:=mk_ W6 #[.pointer (some ⟨G,0,none⟩)] 179;obtain⟨GP,hGP⟩:=nm W5.heap.size;rw[hGP] at B6 hz6;rw[hz6] at B7 hz7;obtain⟨W8,hW8,E8,B8,hz8⟩:=mk_ W7 #[.pointer (some ⟨GP,0,none⟩)] 179;rw[hz7] at B8;have HGP:=h_ hGP;have HZ8:=h_ hz8;rw[hz7] at hz8;have HZ8b:=h_ hz8;have HG:=h_ hG;clear hz6 hz7 hz8 hGP;rw[hW6,hW7,HGP.out,hW8,HZ1.out];clear hW6 hW7 hW8;have E58:=(E6.trans E7).trans E8;have BN8:=((B2.ext E5).ext E58);refine wp_region_byF (Pu3 W8 n) (by intro us;simp only[putAll,Act.put,zs,Nat.reduceAdd];rfl) (by kernel_rfl) (by kernel_rfl) (by kernel_rfl) ⟨(Ext.refl W8).drew,(nofun),(nofun),(nofun),(nofun),(nofun),(nofun),(nofun),(nofun),(nofun),(nofun),(nofun)⟩ ⟨?_,?_,?_,?_,?_,?_,?_,trivial⟩ ?_
 any_goals (intro L us wx K a ha hp hd hun hI hK;replace hp:=h_ hp;replace hd:=h_ hd;dsimp only at ha;subst ha;simp only[Act.put,zs] at hK)
 ·have bn:=(BN8.ext hI.x).cell;go_simp;exact hK _ _ {hI with f0:=fun _=>rfl}
 ·have hmk1:=hmk wx;have h5:L 5=false:=bfl (hd.out 5 1 · (by kernel_rfl)) hun;have EW:Ext wx (wx.alloc (.cells (zeroA n) 3)):=(Ext.refl wx).alloc _;have NW:=NRow.new n wx;have hsz:=hI.x.size;rw[hI.f0 (h_p hp 0)] at hK ⊢;go_simp;exact hK _ _ ⟨hI.x.trans EW,(fun _=>⟨hsz,NW⟩),(fun h=>⟨(hI.g2 h).1,(hI.g2 h).2.ext EW⟩),(fun h h'=>⟨(hI.g3 h h').1,(hI.g3 h h').2.ext EW⟩),(fun h=>absurd (show L 5=true from h) (by rw[h5];decide)),(fun _ h3 e=>by have h7:=Blk.lt (hI.g2 h3).2;have e':wx.heap.size=bk (us 3):=e;omega),hI.f0,(fun _=>rfl),hI.f2,hI.f3,hI.f4,hI.f6⟩
 ·have bn:=(BN8.ext hI.x).cell;go_simp;exact hK _ _ {hI with f2:=fun _=>rfl}
 ·have hmk1:=hmk wx;have h6:L 6=false:=bfl (hd.out 6 3 · (by kernel_rfl)) hun;have EW:Ext wx (wx.alloc (.cells (zeroA n) 3)):=(Ext.refl wx).alloc _;have NW:=NRow.new n wx;have hsz:=hI.x.size;rw[hI.f2 (h_p hp 2)] at hK ⊢;go_simp;exact hK _ _ ⟨hI.x.trans EW,(fun h=>⟨(hI.g1 h).1,(hI.g1 h).2.ext EW⟩),(fun _=>⟨hsz,NW⟩),(fun h h'=>⟨(hI.g3 h h').1,(hI.g3 h h').2.ext EW⟩),(fun h=>⟨(hI.g4 h).1,(hI.g4 h).2.ext EW⟩),(fun h1 _ e=>by have h7:=Blk.lt (hI.g1 h1).2;have e':bk (us 1)=wx.heap.size:=e;omega),hI.f0,hI.f1,hI.f2,(fun _=>rfl),hI.f4,(fun h=>absurd (show L 6=true from h) (by rw[h6];decide))⟩
 ·have h5:L 5=false:=bfl (hd.out 5 4 · (by kernel_rfl)) hun;have EW:Ext wx (wx.alloc (.cells #[.slice none 0 0] 26)):=(Ext.refl wx).alloc _;have hsz:=hI.x.size;go_simp;exact hK _ _ ⟨hI.x.trans EW,(fun h=>⟨(hI.g1 h).1,(hI.g1 h).2.ext EW⟩),(fun h=>⟨(hI.g2 h).1,(hI.g2 h).2.ext EW⟩),(fun _ _=>⟨hsz,Blk.new _ _ _⟩),(fun h=>absurd (show L 5=true from h) (by rw[h5];decide)),hI.g5,hI.f0,hI.f1,hI.f2,hI.f3,(fun _=>rfl),hI.f6⟩
 ·have h4:=h_p hp 4;have u1:=hI.f1 (h_p hp 1);have u4:=hI.f4 h4;obtain⟨hge,hb⟩:=hI.g3 h4 hun;have hn1: ∀h1,bk (us 1)≠bk (us 4):=fun h1 e=>by have h7:=(hI.g1 h1).2;rw[e] at h7;exact absurd (Blk.types h7 hb) (by decide)
  have hn3: ∀h3,bk (us 3)≠bk (us 4):=fun h3 e=>by have h7:=(hI.g2 h3).2;rw[e] at h7;exact absurd (Blk.types h7 hb) (by decide)
  obtain⟨g4,hg4⟩:=nm (bk (us 4));obtain⟨g1,hg1⟩:=nm (bk (us 1));rw[hg4] at u4 hge hb hn1 hn3;rw[hg1] at u1 hn1;have cb:=hb.cell;have fb:=hb.frozen;have BV:=hb.set_ 0 (.slice (some ⟨g1,0,none⟩) n n);have EV:=hI.x.setCell (p:=⟨g4,0,none⟩) (by simp only;omega) (.slice (some ⟨g1,0,none⟩) n n);have A1:=fun h=>Blk.far (hI.g1 h).2 (p:=⟨g4,0,none⟩) (by rw[hg1];exact hn1 h) (.slice (some ⟨g1,0,none⟩) n n);have A3:=fun h=>Blk.far (hI.g2 h).2 (p:=⟨g4,0,none⟩) (hn3 h) (.slice (some ⟨g1,0,none⟩) n n);obtain⟨V,hV⟩:=nm (wx.setCell ⟨g4,0,none⟩ (.slice (some ⟨g1,0,none⟩) n n));rw[hV] at BV EV A1 A3;have BV':W8.heap.size≤bk (us 4)∧Blk V (bk (us 4)) 26 #[.slice (some ⟨bk (us 1),0,none⟩) n n]:=by
   rw[hg4,hg1];exact⟨hge,BV⟩
  rw[u1,u4] at hK ⊢;clear hg4 hg1 u1 u4 hge hb hn1 hn3 BV;go_simp;exact hK undef _ ⟨EV,(fun h=>⟨(hI.g1 h).1,A1 h⟩),(fun h=>⟨(hI.g2 h).1,A3 h⟩),(fun _ h=>nomatch (show true=false from h)),(fun _=>BV'),hI.g5,hI.f0,hI.f1,hI.f2,hI.f3,hI.f4,hI.f6⟩
 ·have u3:=hI.f3 (h_p hp 3);obtain⟨g3,hg3⟩:=nm (bk (us 3));rw[hg3] at u3;rw[u3] at hK ⊢;have U3:=h_ hg3;clear u3 hg3;go_simp;exact hK _ _ ⟨hI.x,hI.g1,hI.g2,hI.g3,hI.g4,hI.g5,hI.f0,hI.f1,hI.f2,hI.f3,hI.f4,(fun _=>congrArg (fun b:Nat=>Value.slice (some ⟨b,0,none⟩) n n) U3.out.symm)⟩
 intro L us W9 hall hI;have D1:=hI.g1 (hall 1 (by simp));have D3:=hI.g2 (hall 3 (by simp));have D5:=hI.g4 (hall 5 (by simp));have hne:=hI.g5 (hall 1 (by simp)) (hall 3 (by simp));have u1:=hI.f1 (hall 1 (by simp));have u3:=hI.f3 (hall 3 (by simp));have u4:=hI.f4 (hall 4 (by simp));have u6:=hI.f6 (hall 6 (by simp));have E89:=hI.x;obtain⟨DB,hDB⟩:=nm (bk (us 1));obtain⟨LB,hLB⟩:=nm (bk (us 3));obtain⟨D,hD⟩:=nm (bk (us 4));rw[hDB] at D1 D5 hne u1;rw[hLB] at D3 hne u3 u6;rw[hD] at D5 u4;simp only[u1,u3,u4,u6];clear hall hI hDB hLB hD u1 u3 u4 u6;have E9:=(E2.trans E5).trans (E58.trans E89);have BR9:=B1.ext E9;have BN9:=BN8.ext E89;have BM9:=(B7.ext E8).ext E89;have BP9:=B8.ext E89;have M9:MatB W9 G f:=hM.ext (E58.trans E89);have P9:MatB W9 GP (fun _ _=>0):=by
  have:=((B6.ext E7).ext E8).ext E89;rw[zeroM] at this;exact this
 have hmkb:=make_bls n (by omega);have bn:=BN9.cell
 go_upto_region 7 with(fail)
 obtain⟨W10,hW10,E10,B10,hz10⟩:=mk_ W9 (vsA n fun _=> .bool false) 4;obtain⟨SB,hSB⟩:=nm W9.heap.size;rw[hSB] at B10 hz10;obtain⟨W11,hW11,E11,B11,hz11⟩:=mk_ W10 #[.slice (some ⟨SB,0,none⟩) n n] 114;rw[hz10] at B11 hz11;obtain⟨W12,hW12,E12,B12,hz12⟩:=mk_ W11 #[wayV (SB+1) R D (R+1) (GP+1) (GP+1+1) (SB+1+1)] 221;rw[hz11] at B12;unfold wayV at hW12;rw[hW10,hSB,hW11,hW12];have hGl:=Blk.lt hM;have hsz5:=HGP.out;have hz2':=hz2;have hz8:=HZ8b.out;have hDBl:=Blk.lt D1.2;have hLBl:=Blk.lt D3.2;have hDl:=Blk.lt D5.2;have hDDB:D≠DB:=fun e=>absurd (Blk.types (e▸D5.2) D1.2) (by decide);have hDLB:D≠LB:=fun e=>absurd (Blk.types (e▸D5.2) D3.2) (by decide);have hGA: ∀q,GA=some q→0<gl.length→q.block<R:=fun q hq h0=>by
  obtain⟨b,off,p,h1,-,h2,-⟩:=Hg.out.at_ h0;rw[hq] at h1;cases h1;rw[←HR.out];exact h2
 have hK1: ∀b,PK SB DB GP LB b→WApart b (SB+1) R D (R+1) (GP+1) (GP+1+1) (SB+1+1) G GA gl.length:=by
  have h1:=D1.1;have h3:=D3.1;have h5:=D5.1;have hG':=HG.out;rintro b (rfl|rfl|rfl|rfl) <;> refine⟨by omega,by omega,by omega,by omega,by omega,by omega,by omega,by omega,fun q hq h0=>by have:=hGA q hq h0;omega⟩
 have hPw: ∀b,PK SB DB GP LB b→w.heap.size≤b:=by
  have h1:=D1.1;have h3:=D3.1;have:=HR.out;have:=HG.out;rintro b (rfl|rfl|rfl|rfl) <;> omega
 have h9:=(E10.trans E11).trans E12;have env0:WEnv W12 (SB+1) R D (R+1) (GP+1) (GP+1+1) (SB+1+1) SB DB G GP GA gc n gl f :=
  ⟨B11.ext E12,BR9.ext h9,D5.2.ext h9,BN9.ext h9,BM9.ext h9,BP9.ext h9,B12,Hg.out.ext ((E1.trans E9).trans h9),M9.ext h9,fun b hb=>hK1 b (by unfold PK;omega),by have:=D1.1;omega,by omega,by have:=D1.1;omega⟩
 have st0:WSt W12 SB DB GP n (fun _=>false) (fun _=>0) (fun _ _=>0):=⟨(B10.ext E11).ext E12,D1.2.ext h9,P9.ext h9⟩;have nl0:NRow W12 LB n fun _=>0:=D3.2.ext h9;have hLS:LB≠SB:=by omega
 have hLP:LB≠GP:=by have:=D3.1;omega
 have hcap: ∀a,a<n → ∀b,b<n→0≤f a b∧f a b≤1073741824:=fun a ha b hb=>by
  rw[hfv a (by rw[Hn.out];exact ha) b (by rw[Hn.out];exact hb)];have:=Hcs.out a b;omega
 have hp0:=PushP.start (n:=n) (cap:=f) (ground:=grF gl) (wt:=wtOf (qs.map (·.1)) bs) (fun i hi k hk=>(hcap i hi k hk).1);have WY:=h_ (way_c (SB+1) R D (R+1) (GP+1) (GP+1+1) (SB+1+1) SB DB G GP GA gc n gl f hnb Hgl.out hcap);have HP0:=h_ hp0;have Henv:=h_ env0;have HK1:=h_ hK1;have HPw:=h_ hPw;have HEw:=h_ ((E1.trans E9).trans h9);have Hne:=h_ hne;have HLS:=h_ hLS;have HLP:=h_ hLP;have Hfv:=h_ hfv;have HST:=h_ st0;have HNL:=h_ nl0;have bn:=env0.n_.cell;obtain⟨wt,hwt⟩:=nm (wtOf (qs.map (·.1)) bs);rw[hwt] at HWT Hw9 HP0;have Hwt:=h_ hwt;have HM12:=h_ (env0.mb);clear hW10 hW11 hW12 hSB hz10 hz11 hz12 hGl hsz5 hz2' hz8 hDBl hLBl hDl hDDB hDLB hGA hK1 hPw h9 env0 st0 nl0 hLS hLP hcap hp0 hne hfv E1 E2 E5 E58 E89 E9 E10 E11 E12 B1 B2 B6 B7 B8 B10 B11 B12 BR9 BN8 BN9 BM9 BP9 M9 P9 D1 D3 D5 hwt hz2 hM hG E hmk hmkb HG HZ8 HZ8b HGP;go_wp2_with fail;clear bn;go_loopw [33] (fun ii wr=> ∃(j:Nat) (put:Nat→Nat→Int) (d l:Nat→Int) (s:Nat→Bool),j≤n∧ii = .int .i64 j∧Hid (PushP n f (grF gl) wt j put d l)∧Hid (∀v,v<n→l v≤100)∧WSt wr SB DB GP n s d put∧NRow wr LB n l∧Only (PK SB DB GP LB) W12 wr) (fun ii _=>n-(intOf ii).toNat)
 case atStart=>exact⟨0,_,_,_,_,by omega,rfl,HP0,h_ (fun _ _=>by omega),HST.out,HNL.out,Only.refl _ _⟩
 case round =>
  obtain⟨j,put,d,l,s,hj,rfl,hP,hL,ST,NL,O⟩:=hrel;have Ew:Ext w wr:=Only.below HEw.out O HPw.out;by_cases hjn:j<n
  ·have WT:=HWT.out j hjn _ Ew;obtain⟨wj,hwj⟩:=nm (wt j);rw[hwj] at WT;have hw:=Hw9.out j hjn;rw[hwj] at hw;have HQ:=hP.out.next hjn (fun i hi=>(Hw9.out i hi).1);rw[hwj] at HQ;have HQ0:=h_ HQ;have HL0:=h_ (show ∀v,v<n→setN l j wj v≤100 from fun v hv=>by
    unfold setN
    split
    ·exact hw.2
    ·exact hL.out v hv)
   have HS:=h_ ST;have HN:=h_ NL;have HO:=h_ O;have j0:(0:Int)≤j:=by omega
   have j1:(j:Int)<n:=by omega
   clear HQ hw hwj Ew ST NL O hP hL;go_wp2_with fail;refine WT.mono ?_;rintro e W20 ⟨rfl,E20⟩;have NL20:=HN.out.ext E20;have cl:=NL20.cell hjn;have fl:=Blk.frozen NL20 j;have S20:=HS.out.ext E20;have HN21:=h_ (NL20.set_ j wj);have HS21:=h_ (WSt.mk (Blk.far S20.s (p:=⟨LB,j,none⟩) HLS.out.symm (.int .i64 wj)) (Blk.far S20.d (p:=⟨LB,j,none⟩) Hne.out (.int .i64 wj)) (Blk.far S20.p (p:=⟨LB,j,none⟩) HLP.out.symm (.int .i64 wj)));have HO21:=h_ ((HO.out.ext E20).setCell (p:=⟨LB,j,none⟩) (fun _=>Or.inr (Or.inr (Or.inr rfl))) (.int .i64 wj));clear NL20 S20 E20 WT;go_wp2_with fail;clear cl fl;go_loopw [15] (fun _ wr=> ∃(put:Nat→Nat→Int) (d l:Nat→Int) (s:Nat→Bool),Hid (PushQ n f (grF gl) wt j put d l)∧Hid (∀v,v<n→l v≤100)∧WSt wr SB DB GP n s d put∧NRow wr LB n l∧Only (PK SB DB GP LB) W12 wr) (fun _ wr=>cellN wr ⟨LB,j,none⟩)
   case atStart=>exact⟨put,d,_,s,HQ0,HL0,HS21.out,HN21.out,HO21.out⟩
   case round =>
    clear HQ0 HL0 HS21 HN21 HO21 HS HN HO;obtain⟨put,d,l,s,hQ,hL,ST,NL,O⟩:=hrel;have cl:=NL.cell hjn;obtain⟨lj,hlj⟩:=nm (l j);have h0:=hQ.out.f.l0 j hjn;have h1:=hL.out j hjn;rw[hlj] at cl h0 h1;have Hlj:=h_ hlj;have HN:=h_ NL;have HO:=h_ O;have HS:=h_ ST;have hmeas:=h_ (cellN_row NL hjn);clear hlj NL O;by_cases hpos:0<lj
    ·have envr:=Henv.out.onlyK HO.out HK1.out;have cs:=envr.s.cell;obtain⟨W22,hcl,S22,O22⟩:=clear_row ST.s;have O22':=O22.mono (K':=fun b=>b=SB∨b=DB∨b=GP) (fun _ _ h=>Or.inl h);have env22:=envr.only O22';have NL22:NRow W22 LB n l:=Blk.only HN.out O22 HLS.out;have ST22:WSt W22 SB DB GP n (fun _=>false) d put:=⟨S22,Blk.only ST.d O22 envr.sd.symm,Blk.only ST.p O22 envr.sp.symm⟩;have HO22:=h_ (HO.out.trans O22 (fun i _ h=>Or.inl h));have cl22:=NL22.cell hjn;rw[Hlj.out] at cl22;have cv:=env22.v.cell;unfold wayV at cv;have HE22:=h_ env22;have HS22:=h_ ST22;have HN22:=h_ NL22;clear envr S22 O22 O22' env22 NL22 ST22 ST HS
     go_upto_region 13 with(fail)
     clear cs cl hcl;refine wp_region_tail 6 (by kernel_rfl) (by kernel_rfl) ?_;simp only[List.take_succ_cons,List.take_zero,List.drop_succ_cons,List.drop_zero]
     repeat (go_big_quiet_step (fail))
     refine wpQuiet_nil ?_;intro W23 hW23;have E23:Ext W22 W23:=by
      obtain⟨x,rfl⟩:=hW23;exact(Ext.refl _).grow x
     clear hW23;obtain⟨hcW23,hfW23,hzW23⟩:=ext_facts E23;clear hcW23 hfW23 hzW23 cl22 cv;have hput: ∀a,a<n → ∀b,b<n→0≤put a b∧put a b≤f a b:=fun a ha b hb=>⟨hQ.out.f.lo a ha b hb,hQ.out.f.hi a ha b hb⟩;have hd: ∀v,v<n→0≤d v∧d v≤4294967296:=fun v hv=>⟨hQ.out.f.dn v hv,by
      have:=hQ.out.f.down_le (B:=100) (fun i hi=>uptoW_le (by omega) (Hw9.out i hi).2) hv
      omega⟩
     have WW:=WY.out (n+1) j lj (fun _=>false) d put W23 (by have:=unseen_le n (fun _=>false);omega) hjn rfl hpos (by omega) hput hd (HE22.out.ext E23) (HS22.out.ext E23);have HN23:=h_ (HN22.out.ext E23);have HO23:=h_ (HO22.out.ext E23);clear hput hd E23;go_wp2_with fail;refine WW.mono ?_;rintro e W24 ⟨got,s2,d2,p2,rfl,ST2,O2,hpost⟩;have HN24:=h_ (show NRow W24 LB n l from Blk.only HN23.out O2 (fun e=>by have:=HLS.out;have:=HLP.out;have:=Hne.out;omega));have HO24:=h_ (HO23.out.trans O2 (fun i _ h=>by unfold PK;omega));have HS24:=h_ ST2;clear WW ST2 O2;rcases hpost with⟨rfl,rfl,rfl,hno⟩|⟨hgot,hok⟩
     ·have HP2:=h_ (hQ.out.stuck hno);clear hno;go_wp2_with fail;go_roundw
      case rel=>exact⟨j+1,_,_,l,s2,by omega,by go_num,HP2,hL,HS24.out,HN24.out,HO24.out⟩
      case measure=>simp only[intOf];omega
     ·have hle:=hok.le;have HQ2:=hQ.out.ok hjn (by rw[Hlj.out];exact hok);rw[Hlj.out] at HQ2;have HQ3:=h_ HQ2;have HL3:=h_ (show ∀v,v<n→setN l j (lj-got) v≤100 from fun v hv=>by
       unfold setN
       split
       ·omega
       ·exact hL.out v hv)
      have cl:=HN24.out.cell hjn;rw[Hlj.out] at cl;have fl:=Blk.frozen HN24.out j;have HN25:=h_ (HN24.out.set_ j (lj-got));have HS25:=h_ (WSt.mk (Blk.far HS24.out.s (p:=⟨LB,j,none⟩) HLS.out.symm (.int .i64 (lj-got))) (Blk.far HS24.out.d (p:=⟨LB,j,none⟩) Hne.out (.int .i64 (lj-got))) (Blk.far HS24.out.p (p:=⟨LB,j,none⟩) HLP.out.symm (.int .i64 (lj-got))));have HO25:=h_ (HO24.out.setCell (p:=⟨LB,j,none⟩) (fun _=>Or.inr (Or.inr (Or.inr rfl))) (.int .i64 (lj-got)));have hm2:=h_ (cellN_row HN25.out hjn);have hgne:(got==0)=false:=by simp;omega
      clear hok HQ2;go_wp2_with fail;go_roundw
      case rel=>exact⟨p2,d2,_,s2,HQ3,HL3,HS25.out,HN25.out,HO25.out⟩
      case measure =>
       rw[hm2.out,hmeas.out,Hlj.out];unfold setN;rw[if_pos rfl];omega
    ·have HP2:=h_ (hQ.out.zero (by rw[Hlj.out];omega));clear ST;go_wp2_with fail;go_roundw
     case rel=>exact⟨j+1,put,d,l,s,by omega,by go_num,HP2,hL,HS.out,HN.out,HO.out⟩
     case measure=>simp only[intOf];omega
  ·obtain rfl:j=n:=by omega
   have envr:=Henv.out.onlyK O HK1.out;have cs:=envr.s.cell;have cn:=envr.n_.cell;obtain⟨W30,hcl,S30,O30⟩:=clear_row ST.s;have O30':=O30.mono (K':=fun b=>b=SB∨b=DB∨b=GP) (fun _ _ h=>Or.inl h);have env30:=envr.only O30';have cn30:=env30.n_.cell;have HE30:=h_ env30;have HN30:=h_ (show NRow W30 LB j l from Blk.only NL O30 HLS.out);have HS30:=h_ (WSt.mk S30 (Blk.only ST.d O30 envr.sd.symm) (Blk.only ST.p O30 envr.sp.symm));have HO30:=h_ (O.trans O30 (fun i _ h=>Or.inl h));have HF0:=h_ (FallP.start (n:=j) (cap:=f) (ground:=grF gl) (put:=put) (left:=l));have hput: ∀a,a<j → ∀b,b<j→0≤put a b∧put a b≤f a b:=fun a ha b hb=>⟨hP.out.f.lo a ha b hb,hP.out.f.hi a ha b hb⟩;have hd: ∀v,v<j→0≤d v∧d v≤4294967296:=fun v hv=>⟨hP.out.f.dn v hv,by
    have:=hP.out.f.down_le (B:=100) (fun i hi=>uptoW_le (by omega) (Hw9.out i hi).2) hv
    omega⟩
   have Hput:=h_ hput;have Hd:=h_ hd;clear envr S30 O30 O30' env30 NL O ST Ew hput hd;go_wp2_with fail;clear cs cn hcl cn30;have HS0:=HS30.out;go_loopw [67] (fun ii wr=> ∃(t:Nat) (s':Nat→Bool),t≤j∧ii = .int .i64 t∧Hid (FallP j f (grF gl) put l t s')∧WSt wr SB DB GP j s' d put∧Only (fun b=>b=SB∨b=DB∨b=GP) W30 wr) (fun ii _=>j-(intOf ii).toNat)
   case atStart=>exact⟨0,_,by omega,rfl,HF0,HS0,Only.refl _ _⟩
   case round =>
    clear HS0;obtain⟨t,s',ht,rfl,hF,ST,O⟩:=hrel;have HS:=h_ ST;have HO:=h_ O;have HE:=h_ (HE30.out.only O);have HN:=h_ (show NRow wr LB j l from Blk.only HN30.out O (fun e=>by have:=HLS.out;have:=HLP.out;have:=Hne.out;omega));clear O;by_cases htj:t<j
    ·obtain⟨bt,hbt⟩:=nm (s' t);obtain⟨lt,hlt⟩:=nm (l t);have h0:=hP.out.f.l0 t htj;have h1:=hL.out t htj;have cl:=HN.out.cell htj;have cb:=ST.s.cell htj;have cs:=HE.out.s.cell;rw[hlt] at cl h0 h1;rw[hbt] at cb;have Hlt:=h_ hlt;have Hbt:=h_ hbt;have t0:(0:Int)≤t:=by omega
     have t1:(t:Int)<j:=by omega
     clear hlt hbt ST;by_cases hpos:0<lt
     ·have hgt:lt>0:=hpos;cases bt
      ·have cv:=HE.out.v.cell;unfold wayV at cv
       go_upto_region 22 with(fail)
       clear cb cs;refine wp_region_tail 6 (by kernel_rfl) (by kernel_rfl) ?_;simp only[List.take_succ_cons,List.take_zero,List.drop_succ_cons,List.drop_zero]
       repeat (go_big_quiet_step (fail))
       refine wpQuiet_nil ?_;intro W31 hW31;have E31:Ext wr W31:=by
        obtain⟨x,rfl⟩:=hW31;exact(Ext.refl _).grow x
       clear hW31;obtain⟨hcW31,hfW31,hzW31⟩:=ext_facts E31;clear hcW31 hfW31 hzW31 cl cv;have WW:=WY.out (j+1) t lt s' d put W31 (by have:=unseen_le j s';omega) htj Hbt.out hpos (by omega) Hput.out Hd.out (HE.out.ext E31) (HS.out.ext E31);have HO31:=h_ (HO.out.ext E31);clear E31;go_wp2_with fail;refine WW.mono ?_;rintro e W32 ⟨got,s2,d2,p2,rfl,ST2,O2,hpost⟩;have HO32:=h_ (HO31.out.trans O2 (fun _ _ h=>h));rcases hpost with⟨rfl,rfl,rfl,hno⟩|⟨hgot,hok⟩
       ·have HF2:=h_ (hF.out.look htj (by rw[Hlt.out];exact hpos) hno);have HS2:=h_ ST2;clear WW ST2 O2 hno;go_wp2_with fail;go_roundw
        case rel=>exact⟨t+1,s2,by omega,by go_num,HF2,HS2.out,HO32.out⟩
        case measure=>simp only[intOf];omega
       ·exact(hP.out.never htj (by rw[Hlt.out];exact hpos) hok).elim
      ·have Hsk:=h_ (hF.out.skip (by rw[Hlt.out,Hbt.out];exact Or.inl rfl));go_wp2_with fail;go_roundw
       case rel=>exact⟨t+1,s',by omega,by go_num,Hsk,HS.out,HO.out⟩
       case measure=>simp only[intOf];omega
     ·have hgt: ¬lt>0:=hpos;have Hsk:=h_ (hF.out.skip (by rw[Hlt.out,Hbt.out];exact Or.inr hpos));go_wp2_with fail;go_roundw
      case rel=>exact⟨t+1,s',by omega,by go_num,Hsk,HS.out,HO.out⟩
      case measure=>simp only[intOf];omega
    ·obtain rfl:t=j:=by omega
     have HFA:=h_ hF.out.all;have HFl:=h_ hP.out.flow;have cs:=HE.out.s.cell;have hUs:=HS.out;have Ext9:Ext w wr:=Only.below HEw.out (HO30.out.trans HO.out (fun i _ h=>by unfold PK;omega)) HPw.out;have HX9:=h_ Ext9;obtain⟨U,hU⟩:=nm wr.heap.size;have HU:=h_ hU;obtain⟨wo,hwo⟩: ∃wo:World,wo=wr:=⟨_,rfl⟩;clear hU Ext9 hUs ST hF;go_wp2_with fail;clear cs;go_loopw [17,92] (fun v ii wr=> ∃(q:Nat) (u:Value),q≤t∧ii = .int .i64 q∧v=u∧Ext wo wr∧wr.ownsRow U 3 1 u (fallL q s').length ((fallL q s').map (Value.int .i64))) (fun _ ii _=>t-(intOf ii).toNat)
     case atStart=>exact⟨0,_,by omega,rfl,rfl,hwo▸Ext.refl _,World.ownsRow_nil _ _ _ _⟩
     case round =>
      subst hwo;obtain⟨q,v,hq,rfl,rfl,Er,own⟩:=hrel;by_cases hqt:q<t
      ·obtain⟨bq,hbq⟩:=nm (s' q);have cb:=(HS.out.ext Er).s.cell hqt;rw[hbq] at cb;have hfl:=fallL_succ q s';rw[hbq] at hfl;have hln:=fallL_len q s';have q0:(0:Int)≤q:=by omega
       have q1:(q:Int)<t:=by omega
       cases bq
       ·have hf2:fallL (q+1) s'=fallL q s':=by rw[hfl];exact List.append_nil _
        rw[←hf2] at own;have Hown:=h_ own;clear own hfl hln hbq;go_wp2_with fail;go_roundw
        case rel=>exact⟨q+1,_,by omega,by go_num,rfl,Er,Hown.out⟩
        case measure=>simp only[intOf];omega
       ·have hf2:fallL (q+1) s'=fallL q s' ++ [(q:Int)]:=by rw[hfl];rfl
        have hU4:U≤wr.heap.size:=by have:=HU.out;have:=Er.size;omega
        have Hf2:=h_ hf2;have hjl:(fallL q s').length+1≤maxLen:=by unfold maxLen;omega
        obtain⟨fl,hfe⟩:=nm (fallL q s');rw[hfe] at own hjl hln Hf2;obtain⟨fn,hfn⟩:=nm fl.length;rw[hfn] at own hjl hln;have Hfn:=h_ hfn;clear hfl hf2 hfe hfn hbq;go_wp2_with (at_builtin;refine wpList_append_one #[.int .i64 q] rfl (.tmp 98) (.tmp 100) 26 rfl U 3 3 i9 _ 1 8 Tryz.underlying26 hi9 hz9 hz91 hz92 rfl (by decide) _ fn _ _ rfl own rfl rfl (by simp[Value.oneCell']) hjl (by omega) hU4 ?_;intro g7 cap7 w7 own7 hg7);go_roundw
        case rel =>
         refine⟨q+1,_,by omega,by go_num,rfl,(Er.alloc _).grown hg7 (fun k hk=>by have:=(own.lt k hk).1;have:=HU.out;omega),?_⟩;rw[Hf2.out,List.map_append,List.length_append,Hfn.out];exact own7
        case measure=>simp only[intOf];omega
      ·obtain rfl:q=t:=by omega
       obtain⟨FA,fc,rfl,hFI,-⟩:=ints_own rfl own;have HFI:=h_ hFI;have HS9:=h_ (HS.out.ext Er);have cp:=(HE.out.ext Er).p.cell;have cd:=(HE.out.ext Er).d.cell;have HEr:=h_ (HX9.out.trans Er);clear hFI own Er
       go_upto_region 31 with(fail)
       refine w_g ?_
       repeat (go_big_quiet_step (fail))
       refine wpQuiet_nil ?_;intro W50 hW50;have E50:Ext wr W50:=by
        obtain⟨x,rfl⟩:=hW50;exact(Ext.refl _).grow x
       clear hW50;obtain⟨hcW50,hfW50,hzW50⟩:=ext_facts E50;clear hcW50 hfW50 hzW50 cp cd;have HE50:=h_ E50;clear E50;go_wp2_with fail;have hcc: ∀i,i<q → ∀k,k<q→f i k=capV (qs.map (·.1)) bs i k:=fun i hi k hk=>Hfv.out i (by rw[Hn.out];exact hi) k (by rw[Hn.out];exact hk);refine bodyPost_ret (v:= .tuple #[.pointer (some ⟨GP,0,none⟩),.slice (some ⟨DB,0,none⟩) q q,.slice FA (fallL q s').length fc]) (by simp[results,Tryz.results95,go_sem]) rfl ⟨GP,DB,FA,fc,put,d,l,s',rfl,(HS9.out.ext HE50.out).p,(HS9.out.ext HE50.out).d,HFI.out.ext HE50.out,?_,?_,HEr.out.trans HE50.out⟩
       ·rw[Hwt.out];exact HFl.out.congr_cap hcc
       ·exact HFA.out.congr_cap hcc
end Go.Proofs.YtojolpbpjimfgaaGreatDoor
