/- Texts of the proof: OpenM, OpenR, LoadS, OpenF, OpenS, Tied6. -/
import Derived.Test.YtojolpbpjimfgaaGreatDoorZy3
import Derived.Test.YtojolpbpjimfgaaGreatDoorZy6
import Derived.Test.YtojolpbpjimfgaaGreatDoorZy18
import Derived.Test.YtojolpbpjimfgaaGreatDoorZy26
import Derived.Test.YtojolpbpjimfgaaGreatDoorZy51
import Derived.Test.YtojolpbpjimfgaaGreatDoorTie
import Derived.Test.YtojolpbpjimfgaaGreatDoorCards
import Derived.ProofKit
import Derived.LaidMore
import Derived.Lib.LaidTab
set_option maxRecDepth 100000
namespace Go.Proofs.YtojolpbpjimfgaaGreatDoor
open Go.ChangeAt Go.ChangeShapes Go.Deep Go.Joins Go.RowKit Go.WideShapes
theorem cells_sbrick:Tryz.prog.cellsOf 23=1:=by kernel_rfl
section
variable {H:Type} {enc:TypeId×Value→H} {w:World} {base:Nat} {spare:Nat→Bool} {held:Bool}
theorem model_open{r:Reach}{b0:Nat}{v:Value}{d:DataW H}{p:List MemPlace}(hv:Value.okWide Tryz.prog w r b0 25 v)(h:DataW.Trod enc Tryz.prog w base spare held 25 v d p) :
  ∃A cap bs,v = .agg #[.slice A bs.length cap]∧Bricks w A cap bs∧(A=none→cap=0):=by
 obtain⟨cs,rfl,hsz⟩:=okWide_struct Tryz.underlying25 hv;rw[show Tryz.prog.cellsOf 25=1 by kernel_rfl] at hsz;obtain⟨l⟩:=cs;simp only[List.size_toArray] at hsz
 match l,hsz with
 | [c0],_ =>
  obtain⟨fuel,hf⟩:=h;have hf':DataW.trod enc Tryz.prog w base spare held fuel 25 [c0]=some (d,p):=by simpa [Value.cells] using hf
  obtain⟨zs,m'',_,_,_,hzl,hg⟩:=DataW.trod_struct Tryz.underlying25 hf';have g0:=hg 0 _ rfl
  match zs,hzl with
  | [z0],_ =>
   change DataW.trod enc _ _ _ _ _ _ _ (List.take (Tryz.prog.cellsOf 23) [c0])=_ at g0;rw[cells_sbrick] at g0;change DataW.trod enc _ _ _ _ _ _ _ [c0]=_ at g0;obtain⟨A,n,ca,rfl,hA⟩:=slice_form' Tryz.underlying23 g0;obtain⟨bs,rfl,hb⟩:=bricks_of_trod g0;exact⟨A,ca,bs,rfl,hb,hA⟩
end
theorem cells_sint:Tryz.prog.cellsOf 26=1:=by kernel_rfl
section
variable {H:Type} {enc:TypeId×Value→H} {w:World} {base:Nat} {spare:Nat→Bool} {held:Bool}
theorem ints_of_trod{fuel n cap:Nat}{A:Option Addr}{x:DataW H×List MemPlace}
  (h:DataW.trod enc Tryz.prog w base spare held fuel 26 [.slice A n cap]=some x): ∃l:List Int,l.length=n∧IntsZ w A cap l:=by
 obtain⟨rows,hS,hr⟩:=rows_of_trod Tryz.underlying26 cells_int (by omega) h;obtain⟨l,hl,hp⟩:=list_of (fun i (p:Int)=>rows[i]? = some [Value.int .i64 p]) n (fun i hi=>by
  have hi':i<rows.length:=by rw[hS.len];exact hi
  have hget:rows[i]? = some rows[i]:=List.getElem?_eq_getElem hi';obtain⟨m,y,hy⟩:=hr _ (List.mem_of_getElem? hget);obtain⟨k,h1,_,_⟩:=DataW.trod_int Tryz.underlying3 hy
  exact⟨k,by rw[hget,h1]⟩)
 refine⟨l,hl,?_⟩;have:=rows_map (fun p:Int=> [Value.int .i64 p]) (hl.trans hS.len.symm) hp;unfold IntsZ;rw[←this,hl];exact hS
theorem rest_open{r:Reach}{b0:Nat}{v:Value}{d:DataW H}{p:List MemPlace}(hv:Value.okWide Tryz.prog w r b0 28 v)(h:DataW.Trod enc Tryz.prog w base spare held 28 v d p) :
  ∃tab A cap hs,v = .agg #[.int .i64 tab,.slice A hs.length cap]∧IntsZ w A cap hs:=by
 obtain⟨cs,rfl,hsz⟩:=okWide_struct Tryz.underlying28 hv;rw[show Tryz.prog.cellsOf 28=2 by kernel_rfl] at hsz;obtain⟨l⟩:=cs;simp only[List.size_toArray] at hsz
 match l,hsz with
 | [c0,c1],_ =>
  obtain⟨fuel,hf⟩:=h;have hf':DataW.trod enc Tryz.prog w base spare held fuel 28 [c0,c1]=some (d,p):=by simpa [Value.cells] using hf
  obtain⟨zs,m'',_,_,_,hzl,hg⟩:=DataW.trod_struct Tryz.underlying28 hf';have g0:=hg 0 _ rfl;have g1:=hg 1 _ rfl
  match zs,hzl with
  | [z0,z1],_ =>
   obtain⟨tab,h1,_,_⟩:=DataW.trod_int Tryz.underlying3 g0;change List.take (Tryz.prog.cellsOf 3) [c0,c1]=_ at h1;rw[cells_int] at h1;simp at h1;subst h1;change DataW.trod enc _ _ _ _ _ _ _ (List.take (Tryz.prog.cellsOf 26) [c1])=_ at g1;rw[cells_sint] at g1;change DataW.trod enc _ _ _ _ _ _ _ [c1]=_ at g1;obtain⟨A,n,ca,rfl,hA⟩:=slice_form' Tryz.underlying26 g1;obtain⟨hs,rfl,hb⟩:=ints_of_trod g1;exact⟨tab,A,ca,hs,rfl,hb⟩
end
section
variable {H:Type} {enc:TypeId×Value→H} {P:Program} {w:World} {base:Nat} {spare:Nat→Bool} {held:Bool}
theorem trodAll_five{t t' t'' t3 t4:TypeId}{args:Array Value}{ds:List (DataW H)}{ps:List MemPlace}(h:DataW.TrodAll enc P w base spare held [t,t',t'',t3,t4] args.toList ds ps) :
  ∃v v' v'' v3 v4 d d' d'' d3 d4 p p' p'' p3 p4,args = #[v,v',v'',v3,v4]∧ds = [d,d',d'',d3,d4]∧ps=p++p'++p''++p3++p4∧DataW.Trod enc P w base spare held t v d p∧DataW.Trod enc P w base spare held t' v' d' p'∧DataW.Trod enc P w base spare held t'' v'' d'' p''∧DataW.Trod enc P w base spare held t3 v3 d3 p3∧DataW.Trod enc P w base spare held t4 v4 d4 p4:=by
 obtain⟨v,vs,d,ds',p,q,hargs,rfl,rfl,hd,hrest⟩:=trodAll_cons h;obtain⟨v',vs',d',ds'',p',q',rfl,rfl,rfl,hd',hrest'⟩:=trodAll_cons hrest;obtain⟨v'',vs'',d'',ds''',p'',q'',rfl,rfl,rfl,hd'',hrest''⟩:=trodAll_cons hrest';obtain⟨v3,vs3,d3,ds3,p3,q3,rfl,rfl,rfl,hd3,hrest3⟩:=trodAll_cons hrest'';obtain⟨v4,vs4,d4,ds4,p4,q4,rfl,rfl,rfl,hd4,hrest4⟩:=trodAll_cons hrest3;obtain⟨rfl,rfl,rfl⟩:=trodAll_nil hrest4;exact⟨v,v',v'',v3,v4,d,d',d'',d3,d4,p,p',p'',p3,p4,by cases args;simp_all,rfl,by simp,hd,hd',hd'',hd3,hd4⟩
end
end Go.Proofs.YtojolpbpjimfgaaGreatDoor
namespace Go.Proofs.YtojolpbpjimfgaaGreatDoor
open Go.RowKit
structure Ld where
 src:Int
 dst:Int
 amt:Int
def Ld.cs(x:Ld):List Value:= [.int .i64 x.src,.int .i64 x.dst,.int .i64 x.amt]
def Lds(w:World)(A:Option Addr)(cap:Nat)(l:List Ld):Prop:=SliceIs w A l.length cap 3 (l.map Ld.cs)
def ldAt(l:List Ld)(i:Nat):Ld:=l.getD i ⟨0,0,0⟩
theorem ldAt_eq{l:List Ld}{i:Nat}{x:Ld}(h:l[i]? = some x):ldAt l i=x:=by
 unfold ldAt;rw[List.getD_eq_getElem?_getD,h];rfl
theorem ldAt_get{l:List Ld}{i:Nat}(h:i<l.length):l[i]? = some (ldAt l i):=by
 rw[ldAt_eq (List.getElem?_eq_getElem h)];exact List.getElem?_eq_getElem h
section
variable {w w':World} {A:Option Addr} {cap:Nat} {l:List Ld}
theorem Lds.ext(h:Lds w A cap l)(E:Ext w w'):Lds w' A cap l:=SliceIs.ext h E
theorem Lds.len(h:Lds w A cap l):l.length≤maxLen:=Nat.le_trans h.le h.small
theorem Lds.at_(h:Lds w A cap l){k:Nat}(hk:k<l.length): ∃b off,A=some ⟨b,off,none⟩∧b<w.heap.size∧w.cell? ⟨b,off+k*3,none⟩=some (.int .i64 (ldAt l k).src)∧w.cell? ⟨b,off+k*3+1,none⟩=some (.int .i64 (ldAt l k).dst)∧w.cell? ⟨b,off+k*3+2,none⟩=some (.int .i64 (ldAt l k).amt):=by
 obtain⟨b,off,hA,hb,hc⟩:=SliceIs.cells h (by omega);have hr:(l.map Ld.cs)[k]? = some (ldAt l k).cs:=by rw[List.getElem?_map,ldAt_get hk];rfl
 exact⟨b,off,hA,hb,hc k _ hr 0 _ rfl,hc k _ hr 1 _ rfl,hc k _ hr 2 _ rfl⟩
end
def ldB(n:Nat)(x:Ld):Bool:=inB 0 ((n:Int)-1) x.src&&inB (-1) ((n:Int)-1) x.dst && !(x.dst==x.src)&&inB 1 1073741824 x.amt
def ordB(y x:Ld):Bool:=decide (y.src<x.src)||(decide (y.src=x.src)&&decide (y.dst<x.dst))
def mayB(gr:Nat→Bool)(cap:Nat→Nat→Int)(x:Ld):Bool:=if x.dst = -1 then gr x.src.toNat else decide (x.amt≤cap x.src.toNat x.dst.toNat)
def ldOk(n:Nat)(gr:Nat→Bool)(cap:Nat→Nat→Int)(l:List Ld)(i:Nat):Bool:=ldB n (ldAt l i)&&(decide (i=0)||ordB (ldAt l (i-1)) (ldAt l i))&&mayB gr cap (ldAt l i)
def ldStep(f:Nat→Int)(x:Ld):Nat→Int:=if x.dst = -1 then setN f x.src.toNat (f x.src.toNat-x.amt) else setN (setN f x.src.toNat (f x.src.toNat-x.amt)) x.dst.toNat (setN f x.src.toNat (f x.src.toNat-x.amt) x.dst.toNat+x.amt)
def sumsK(wt:Nat→Int)(l:List Ld):Nat→Nat→Int
 | 0=>wt
 | k+1=>ldStep (sumsK wt l k) (ldAt l k)
def carryB(n:Nat)(gr:Nat→Bool)(cap:Nat→Nat→Int)(wt:Nat→Int)(l:List Ld):Bool:=allR l.length (ldOk n gr cap l)&&allR n fun v=>sumsK wt l l.length v==0
section
variable {n:Nat} {gr:Nat→Bool} {cap:Nat→Nat→Int} {wt:Nat→Int} {l:List Ld} {i:Nat}
end
open Go.ChangeAt Go.ChangeShapes Go.Deep Go.Joins Go.WideShapes
section
variable {H:Type} {enc:TypeId×Value→H} {w:World} {base:Nat} {spare:Nat→Bool} {held:Bool}
end
theorem cells_put:Tryz.prog.cellsOf 89=2:=by kernel_rfl
theorem cells_step:Tryz.prog.cellsOf 84=2:=by kernel_rfl
theorem cells_sput:Tryz.prog.cellsOf 82=1:=by kernel_rfl
section
variable {H:Type} {enc:TypeId×Value→H} {w:World} {base:Nat} {spare:Nat→Bool} {held:Bool}
theorem put_of_trod{fuel:Nat}{c0 c1:Value}{x:DataW H×List MemPlace}(h:DataW.trod enc Tryz.prog w base spare held fuel 89 [c0,c1]=some x): ∃p:PutV,[c0,c1]=p.cs∧p.byte:=by
 obtain⟨zs,m'',_,_,_,hzl,hg⟩:=DataW.trod_struct Tryz.underlying89 h;have g0:=hg 0 _ rfl;have g1:=hg 1 _ rfl
 match zs,hzl with
 | [z0,z1],_ =>
  obtain⟨x,h1,_,_⟩:=DataW.trod_int Tryz.underlying3 g0;obtain⟨y,h2,_,wy⟩:=DataW.trod_int Tryz.underlying5 g1;change List.take (Tryz.prog.cellsOf 3) [c0,c1]=_ at h1;change List.take (Tryz.prog.cellsOf 5) [c1]=_ at h2;rw[cells_int] at h1;rw[cells_u8] at h2;simp at h1 h2;subst h1 h2;exact⟨⟨x,y⟩,rfl,(bounds_u8 wy).1,Int.lt_of_le_of_lt (bounds_u8 wy).2 (by decide)⟩
theorem puts_of_trod{fuel n cap:Nat}{A:Option Addr}{x:DataW H×List MemPlace}
  (h:DataW.trod enc Tryz.prog w base spare held fuel 82 [.slice A n cap]=some x): ∃l:List PutV,l.length=n∧PutsZ w A cap l:=by
 obtain⟨rows,hS,hr⟩:=rows_of_trod Tryz.underlying82 cells_put (by omega) h;obtain⟨l,hl,hp⟩:=list_of (fun i (p:PutV)=>rows[i]? = some p.cs∧p.byte) n (fun i hi=>by
  have hi':i<rows.length:=by rw[hS.len];exact hi
  have hget:rows[i]? = some rows[i]:=List.getElem?_eq_getElem hi';obtain⟨m,y,hy⟩:=hr _ (List.mem_of_getElem? hget);have hlen:=hS.wide _ (List.mem_of_getElem? hget);generalize rows[i]=r at hget hy hlen
  match r,hlen with
  | [c0,c1],_ =>
   obtain⟨p,hp,hb⟩:=put_of_trod hy
   exact⟨p,by rw[hget,hp],hb⟩)
 refine⟨l,hl,?_,fun x hm=> ?_⟩
 ·have:=rows_map PutV.cs (hl.trans hS.len.symm) fun i x hx=>(hp i x hx).1;rw[←this,hl];exact hS
 ·obtain⟨i,hi⟩:=List.getElem?_of_mem hm;exact(hp i x hi).2
theorem step_of_trod{fuel:Nat}{c0 c1:Value}{x:DataW H×List MemPlace}(h:DataW.trod enc Tryz.prog w base spare held fuel 84 [c0,c1]=some x) :
  ∃(s:StpV) (a:SAt),[c0,c1]=s.cs a∧PutsZ w a.A a.c s.l∧s.byte∧(a.A=none→a.c=0):=by
 obtain⟨zs,m'',_,_,_,hzl,hg⟩:=DataW.trod_struct Tryz.underlying84 h;have g0:=hg 0 _ rfl;have g1:=hg 1 _ rfl
 match zs,hzl with
 | [z0,z1],_ =>
  change DataW.trod enc _ _ _ _ _ _ _ (List.take (Tryz.prog.cellsOf 82) [c0,c1])=_ at g0;rw[cells_sput] at g0;change DataW.trod enc _ _ _ _ _ _ _ [c0]=_ at g0;obtain⟨A,n,ca,rfl,hA⟩:=slice_form' Tryz.underlying82 g0;obtain⟨l,rfl,hc⟩:=puts_of_trod g0;obtain⟨v,h3,_,wv⟩:=DataW.trod_int Tryz.underlying5 g1;change List.take (Tryz.prog.cellsOf 5) [c1]=_ at h3;rw[cells_u8] at h3;simp at h3;subst h3;exact⟨⟨l,v⟩,⟨A,ca⟩,rfl,hc,⟨(bounds_u8 wv).1,Int.lt_of_le_of_lt (bounds_u8 wv).2 (by decide)⟩,hA⟩
theorem steps_of_trod{fuel n cap:Nat}{A:Option Addr}{x:DataW H×List MemPlace}
  (h:DataW.trod enc Tryz.prog w base spare held fuel 43 [.slice A n cap]=some x): ∃q:List (StpV×SAt),q.length=n∧StepsZ w A cap q ∧ ∀x∈q,x.2.A=none→x.2.c=0:=by
 obtain⟨rows,hS,hr⟩:=rows_of_trod Tryz.underlying43 cells_step (by omega) h;obtain⟨l,hl,hp⟩:=list_of (fun i (q:StpV×SAt)=>rows[i]? = some (q.1.cs q.2)∧(PutsZ w q.2.A q.2.c q.1.l∧q.1.byte)∧(q.2.A=none→q.2.c=0)) n (fun i hi=>by
  have hi':i<rows.length:=by rw[hS.len];exact hi
  have hget:rows[i]? = some rows[i]:=List.getElem?_eq_getElem hi';obtain⟨m,y,hy⟩:=hr _ (List.mem_of_getElem? hget);have hlen:=hS.wide _ (List.mem_of_getElem? hget);generalize rows[i]=r at hget hy hlen
  match r,hlen with
  | [c0,c1],_ =>
   obtain⟨s,a,hp,h1,h2,h3⟩:=step_of_trod hy
   exact⟨(s,a),by rw[hget,hp],⟨h1,h2⟩,h3⟩)
 refine⟨l,hl,⟨?_,fun q hm=> ?_⟩,fun q hm=> ?_⟩
 ·have:=rows_map (fun q:StpV×SAt=>q.1.cs q.2) (hl.trans hS.len.symm) fun i x hx=>(hp i x hx).1;rw[←this,hl];exact hS
 ·obtain⟨i,hi⟩:=List.getElem?_of_mem hm;exact(hp i q hi).2.1
 ·obtain⟨i,hi⟩:=List.getElem?_of_mem hm;exact(hp i q hi).2.2
theorem steps_open{r:Reach}{b0:Nat}{v:Value}{d:DataW H}{p:List MemPlace}(hv:Value.okWide Tryz.prog w r b0 43 v)(h:DataW.Trod enc Tryz.prog w base spare held 43 v d p) :
  ∃A cap q,v = .slice A q.length cap∧StepsZ w A cap q ∧ ∀x∈q,x.2.A=none→x.2.c=0:=by
 obtain⟨C,n1,cc,rfl⟩:=okWide_slice Tryz.underlying43 hv;obtain⟨fuel,hf⟩:=h;have hf':DataW.trod enc Tryz.prog w base spare held fuel 43 [.slice C n1 cc]=some (d,p):=by simpa [Value.cells] using hf
 obtain⟨q,rfl,hb⟩:=steps_of_trod hf';exact⟨_,_,q,rfl,hb⟩
end
end Go.Proofs.YtojolpbpjimfgaaGreatDoor
namespace Go.Proofs.YtojolpbpjimfgaaGreatDoor
open Go.ChangeAt Go.ChangeShapes Go.RowKit Go.WideShapes
theorem gTab : Tryz.prog.globalNamed "math/bits.deBruijn64tab" = some 0 := by kernel_rfl
theorem gTabType:(Tryz.prog.globals[0]?).map (·.type)=some 207:=by kernel_rfl
theorem cellsTab:Tryz.prog.cellsOf 207=64:=by kernel_rfl
theorem cellsTabE:Tryz.prog.cellsOf 5=1:=by kernel_rfl
def tabZ:List Int:=Lib.deBruijn64tab.map fun n:Nat=>(n:Int)
def laidTab : List (String × DataW Unit) := [("math/bits.deBruijn64tab", Rows.laid_math_bits_deBruijn64tab)]
theorem laidTab_eq : laidTab = [("math/bits.deBruijn64tab", Lib.tabData .u8 tabZ)] := rfl
theorem tz6_of_laid{W:World}(h:laidMetH Tryz.prog laidTab W):Tz6Tab W:=by
 rw[MakeChecks.laidMetH_plain _ _ _ (by kernel_rfl),laidTab_eq] at h;have hT:=Lib.tabIs_of_head gTab gTabType Tryz.underlying207 Tryz.underlying5 cellsTabE cellsTab h;intro j hj;have:=hT.cell gTab j (by simpa [tabZ] using hj);rw[this];congr 2;unfold tabZ;rw[List.getD_eq_getElem?_getD,List.getD_eq_getElem?_getD,List.getElem?_map,List.getElem?_eq_getElem hj];rfl
noncomputable def laidWorld(os:Os):World :=
 { World.holding Tryz.prog os ⟨#[],#[],[]⟩ with heap:=(World.holding Tryz.prog os ⟨#[],#[],[]⟩).heap.modify 0 fun
   | .cells _ t frozen=> .cells (tabZ.map fun z=>Value.int .u8 z).toArray t frozen
   | o=>o }
theorem laidWorld_met(os:Os)(args:Array Value):laidMetH Tryz.prog laidTab ((laidWorld os).forCall (fun _ _=>0) ⟨#[],args,[]⟩).memory:=by
 rw[MakeChecks.laidMetH_plain _ _ _ (by kernel_rfl)];exact laidMet_of_run' 8 (by kernel_rfl) (by kernel_rfl)
end Go.Proofs.YtojolpbpjimfgaaGreatDoor
