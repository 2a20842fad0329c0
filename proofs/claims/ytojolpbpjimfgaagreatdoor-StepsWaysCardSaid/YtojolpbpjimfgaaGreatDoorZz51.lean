/- Texts of the proof: OpenR, LoadS, OpenF, OpenW, Tied6. -/
import Derived.Test.YtojolpbpjimfgaaGreatDoorZz3
import Derived.Test.YtojolpbpjimfgaaGreatDoorZz7
import Derived.Test.YtojolpbpjimfgaaGreatDoorZz19
import Derived.Test.YtojolpbpjimfgaaGreatDoorZz50
import Derived.Test.YtojolpbpjimfgaaGreatDoorTie
import Derived.Test.YtojolpbpjimfgaaGreatDoorCards
import Derived.LaidByTextLater
import Derived.SevenTiedAt
import Derived.LaidSub
import Derived.LaidOnce
import GoSem.ClaimSeven
import Derived.ProofKit
import Derived.LaidMore
import Derived.Lib.LaidTab
namespace Go.Proofs.YtojolpbpjimfgaaGreatDoor
open Go.ChangeAt Go.ChangeShapes Go.Deep Go.Joins Go.RowKit Go.WideShapes
theorem cells_sint:Tryz.prog.cellsOf 26=1:=by kernel_rfl
section
variable {H:Type} {enc:TypeId×Value→H} {w:World} {base:Nat} {spare:Nat→Bool} {held:Bool}
set_option maxRecDepth 100000 in
theorem ints_of_trod{fuel n cap:Nat}{A:Option Addr}{x:DataW H×List MemPlace}
  (h:DataW.trod enc Tryz.prog w base spare held fuel 26 [.slice A n cap]=some x): ∃l:List Int,l.length=n∧IntsZ w A cap l:=by
 obtain⟨rows,hS,hr⟩:=rows_of_trod Tryz.underlying26 cells_int (by omega) h
 obtain⟨l,hl,hp⟩:=list_of (fun i (p:Int)=>rows[i]? = some [Value.int .i64 p]) n (fun i hi=>by
  have hi':i<rows.length:=by rw[hS.len];exact hi
  have hget:rows[i]? = some rows[i]:=List.getElem?_eq_getElem hi'
  obtain⟨m,y,hy⟩:=hr _ (List.mem_of_getElem? hget)
  obtain⟨k,h1,_,_⟩:=DataW.trod_int Tryz.underlying3 hy
  exact⟨k,by rw[hget,h1]⟩)
 refine⟨l,hl,?_⟩
 have:=rows_map (fun p:Int=> [Value.int .i64 p]) (hl.trans hS.len.symm) hp
 unfold IntsZ
 rw[←this,hl]
 exact hS
set_option maxRecDepth 100000 in
theorem rest_open{r:Reach}{b0:Nat}{v:Value}{d:DataW H}{p:List MemPlace}(hv:Value.okWide Tryz.prog w r b0 28 v)(h:DataW.Trod enc Tryz.prog w base spare held 28 v d p) :
  ∃tab A cap hs,v = .agg #[.int .i64 tab,.slice A hs.length cap]∧IntsZ w A cap hs:=by
 obtain⟨cs,rfl,hsz⟩:=okWide_struct Tryz.underlying28 hv
 rw[show Tryz.prog.cellsOf 28=2 by kernel_rfl] at hsz
 obtain⟨l⟩:=cs
 simp only[List.size_toArray] at hsz
 match l,hsz with
 | [c0,c1],_ =>
  obtain⟨fuel,hf⟩:=h
  have hf':DataW.trod enc Tryz.prog w base spare held fuel 28 [c0,c1]=some (d,p):=by simpa [Value.cells] using hf
  obtain⟨zs,m'',_,_,_,hzl,hg⟩:=DataW.trod_struct Tryz.underlying28 hf'
  have g0:=hg 0 _ rfl
  have g1:=hg 1 _ rfl
  match zs,hzl with
  | [z0,z1],_ =>
   obtain⟨tab,h1,_,_⟩:=DataW.trod_int Tryz.underlying3 g0
   change List.take (Tryz.prog.cellsOf 3) [c0,c1]=_ at h1
   rw[cells_int] at h1
   simp at h1
   subst h1
   change DataW.trod enc _ _ _ _ _ _ _ (List.take (Tryz.prog.cellsOf 26) [c1])=_ at g1
   rw[cells_sint] at g1
   change DataW.trod enc _ _ _ _ _ _ _ [c1]=_ at g1
   obtain⟨A,n,ca,rfl,hA⟩:=slice_form' Tryz.underlying26 g1
   obtain⟨hs,rfl,hb⟩:=ints_of_trod g1
   exact⟨tab,A,ca,hs,rfl,hb⟩
end
section
variable {H:Type} {enc:TypeId×Value→H} {P:Program} {w:World} {base:Nat} {spare:Nat→Bool} {held:Bool}
end
end Go.Proofs.YtojolpbpjimfgaaGreatDoor
namespace Go.Proofs.YtojolpbpjimfgaaGreatDoor
open Go.RowKit
structure Ld where
 src:Int
 dst:Int
 amt:Int
def Ld.cs(x:Ld):List Value:= [.int .i64 x.src,.int .i64 x.dst,.int .i64 x.amt]
def Lds(w:World)(A:Option Addr)(cap:Nat)(l:List Ld):Prop:=SliceIs w A l.length cap 3 (l.map Ld.cs)
def ldAt(l:List Ld)(i:Nat):Ld:=l.getD i ⟨0,0,0⟩
theorem ldAt_eq{l:List Ld}{i:Nat}{x:Ld}(h:l[i]? = some x):ldAt l i=x:=by
 unfold ldAt
 rw[List.getD_eq_getElem?_getD,h]
 rfl
theorem ldAt_get{l:List Ld}{i:Nat}(h:i<l.length):l[i]? = some (ldAt l i):=by
 rw[ldAt_eq (List.getElem?_eq_getElem h)]
 exact List.getElem?_eq_getElem h
section
variable {w w':World} {A:Option Addr} {cap:Nat} {l:List Ld}
theorem Lds.ext(h:Lds w A cap l)(E:Ext w w'):Lds w' A cap l:=SliceIs.ext h E
theorem Lds.len(h:Lds w A cap l):l.length≤maxLen:=Nat.le_trans h.le h.small
theorem Lds.at_(h:Lds w A cap l){k:Nat}(hk:k<l.length): ∃b off,A=some ⟨b,off,none⟩∧b<w.heap.size∧w.cell? ⟨b,off+k*3,none⟩=some (.int .i64 (ldAt l k).src)∧w.cell? ⟨b,off+k*3+1,none⟩=some (.int .i64 (ldAt l k).dst)∧w.cell? ⟨b,off+k*3+2,none⟩=some (.int .i64 (ldAt l k).amt):=by
 obtain⟨b,off,hA,hb,hc⟩:=SliceIs.cells h (by omega)
 have hr:(l.map Ld.cs)[k]? = some (ldAt l k).cs:=by rw[List.getElem?_map,ldAt_get hk];rfl
 exact⟨b,off,hA,hb,hc k _ hr 0 _ rfl,hc k _ hr 1 _ rfl,hc k _ hr 2 _ rfl⟩
end
def ldB(n:Nat)(x:Ld):Bool:=inB 0 ((n:Int)-1) x.src&&inB (-1) ((n:Int)-1) x.dst && !(x.dst==x.src)&&inB 1 1073741824 x.amt
def ordB(y x:Ld):Bool:=decide (y.src<x.src)||(decide (y.src=x.src)&&decide (y.dst<x.dst))
def mayB(gr:Nat→Bool)(cap:Nat→Nat→Int)(x:Ld):Bool:=if x.dst = -1 then gr x.src.toNat else decide (x.amt≤cap x.src.toNat x.dst.toNat)
def ldOk(n:Nat)(gr:Nat→Bool)(cap:Nat→Nat→Int)(l:List Ld)(i:Nat):Bool:=ldB n (ldAt l i)&&(decide (i=0)||ordB (ldAt l (i-1)) (ldAt l i))&&mayB gr cap (ldAt l i)
def ldStep(f:Nat→Int)(x:Ld):Nat→Int:=if x.dst = -1 then setN f x.src.toNat (f x.src.toNat-x.amt) else setN (setN f x.src.toNat (f x.src.toNat-x.amt)) x.dst.toNat (setN f x.src.toNat (f x.src.toNat-x.amt) x.dst.toNat+x.amt)
def sumsK(wt:Nat→Int)(l:List Ld):Nat→Nat→Int
 | 0=>wt
 | k+1=>ldStep (sumsK wt l k) (ldAt l k)
def carryB(n:Nat)(gr:Nat→Bool)(cap:Nat→Nat→Int)(wt:Nat→Int)(l:List Ld):Bool:=allR l.length (ldOk n gr cap l)&&allR n fun v=>sumsK wt l l.length v==0
section
variable {n:Nat} {gr:Nat→Bool} {cap:Nat→Nat→Int} {wt:Nat→Int} {l:List Ld} {i:Nat}
end
open Go.ChangeAt Go.ChangeShapes Go.Deep Go.Joins Go.WideShapes
section
variable {H:Type} {enc:TypeId×Value→H} {w:World} {base:Nat} {spare:Nat→Bool} {held:Bool}
end
section
variable {H:Type} {enc:TypeId×Value→H} {w:World} {base:Nat} {spare:Nat→Bool} {held:Bool}
set_option maxRecDepth 100000 in
theorem ints_open6{r:Reach}{b0:Nat}{v:Value}{d:DataW H}{p:List MemPlace}(hv:Value.okWide Tryz.prog w r b0 26 v)(h:DataW.Trod enc Tryz.prog w base spare held 26 v d p) :
  ∃A cap l,v = .slice A l.length cap∧IntsZ w A cap l∧(A=none→cap=0):=by
 obtain⟨C,n1,cc,rfl⟩:=okWide_slice Tryz.underlying26 hv
 obtain⟨fuel,hf⟩:=h
 have hf':DataW.trod enc Tryz.prog w base spare held fuel 26 [.slice C n1 cc]=some (d,p):=by simpa [Value.cells] using hf
 obtain⟨A,n,ca,e,hA⟩:=slice_form' Tryz.underlying26 hf'
 cases e
 obtain⟨l,rfl,hb⟩:=ints_of_trod hf'
 exact⟨_,_,l,rfl,hb,hA⟩
theorem trodAll_six{P:Program}{t t' t'' t3 t4 t5:TypeId}{args:Array Value}{ds:List (DataW H)}{ps:List MemPlace}(h:DataW.TrodAll enc P w base spare held [t,t',t'',t3,t4,t5] args.toList ds ps) :
  ∃v v' v'' v3 v4 v5 d d' d'' d3 d4 d5 p p' p'' p3 p4 p5,args = #[v,v',v'',v3,v4,v5]∧ds = [d,d',d'',d3,d4,d5]∧ps=p++p'++p''++p3++p4++p5∧DataW.Trod enc P w base spare held t v d p∧DataW.Trod enc P w base spare held t' v' d' p'∧DataW.Trod enc P w base spare held t'' v'' d'' p''∧DataW.Trod enc P w base spare held t3 v3 d3 p3∧DataW.Trod enc P w base spare held t4 v4 d4 p4∧DataW.Trod enc P w base spare held t5 v5 d5 p5:=by
 obtain⟨v,vs,d,ds',p,q,hargs,rfl,rfl,hd,hrest⟩:=trodAll_cons h
 obtain⟨v',vs',d',ds'',p',q',rfl,rfl,rfl,hd',hrest'⟩:=trodAll_cons hrest
 obtain⟨v'',vs'',d'',ds''',p'',q'',rfl,rfl,rfl,hd'',hrest''⟩:=trodAll_cons hrest'
 obtain⟨v3,vs3,d3,ds3,p3,q3,rfl,rfl,rfl,hd3,hrest3⟩:=trodAll_cons hrest''
 obtain⟨v4,vs4,d4,ds4,p4,q4,rfl,rfl,rfl,hd4,hrest4⟩:=trodAll_cons hrest3
 obtain⟨v5,vs5,d5,ds5,p5,q5,rfl,rfl,rfl,hd5,hrest5⟩:=trodAll_cons hrest4
 obtain⟨rfl,rfl,rfl⟩:=trodAll_nil hrest5
 exact⟨v,v',v'',v3,v4,v5,d,d',d'',d3,d4,d5,p,p',p'',p3,p4,p5,by cases args;simp_all,rfl,by simp,hd,hd',hd'',hd3,hd4,hd5⟩
end
end Go.Proofs.YtojolpbpjimfgaaGreatDoor
namespace Go.Proofs.YtojolpbpjimfgaaGreatDoor
open Go.ChangeAt Go.ChangeShapes Go.RowKit Go.WideShapes
theorem gTab : Tryz.prog.globalNamed "math/bits.deBruijn64tab" = some 0 := by kernel_rfl
theorem gTabType:(Tryz.prog.globals[0]?).map (·.type)=some 207:=by kernel_rfl
theorem cellsTab:Tryz.prog.cellsOf 207=64:=by kernel_rfl
theorem cellsTabE:Tryz.prog.cellsOf 5=1:=by kernel_rfl
def tabZ:List Int:=Lib.deBruijn64tab.map fun n:Nat=>(n:Int)
def laidTab : List (String × DataW Unit) := [("math/bits.deBruijn64tab", Rows.laid_math_bits_deBruijn64tab)]
theorem laidTab_eq : laidTab = [("math/bits.deBruijn64tab", Lib.tabData .u8 tabZ)] := rfl
theorem tz6_of_laid{W:World}(h:laidMetH Tryz.prog laidTab W):Tz6Tab W:=by
 rw[MakeChecks.laidMetH_plain _ _ _ (by kernel_rfl),laidTab_eq] at h
 have hT:=Lib.tabIs_of_head gTab gTabType Tryz.underlying207 Tryz.underlying5 cellsTabE cellsTab h
 intro j hj
 have:=hT.cell gTab j (by simpa [tabZ] using hj)
 rw[this]
 congr 2
 unfold tabZ
 rw[List.getD_eq_getElem?_getD,List.getD_eq_getElem?_getD,List.getElem?_map,List.getElem?_eq_getElem hj]
 rfl
noncomputable def laidWorld(os:Os):World :=
 { World.holding Tryz.prog os ⟨#[],#[],[]⟩ with heap:=(World.holding Tryz.prog os ⟨#[],#[],[]⟩).heap.modify 0 fun
   | .cells _ t frozen=> .cells (tabZ.map fun z=>Value.int .u8 z).toArray t frozen
   | o=>o }
theorem laidWorld_met(os:Os)(args:Array Value):laidMetH Tryz.prog laidTab ((laidWorld os).forCall (fun _ _=>0) ⟨#[],args,[]⟩).memory:=by
 rw[MakeChecks.laidMetH_plain _ _ _ (by kernel_rfl)]
 exact laidMet_of_run' 8 (by kernel_rfl) (by kernel_rfl)
end Go.Proofs.YtojolpbpjimfgaaGreatDoor
