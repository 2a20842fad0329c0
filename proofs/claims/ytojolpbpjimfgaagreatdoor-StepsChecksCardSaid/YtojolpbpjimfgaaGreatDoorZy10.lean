/- Texts of the proof: SortC, RSorted, CellsP. -/
import Derived.Test.YtojolpbpjimfgaaGreatDoorZy1
import Derived.Test.YtojolpbpjimfgaaGreatDoorZy3
import Derived.Test.YtojolpbpjimfgaaGreatDoorZy6
import Derived.Test.YtojolpbpjimfgaaGreatDoorZy8
import Derived.Test.YtojolpbpjimfgaaGreatDoorZy9
import Derived.Shelf.SlSortCmp.WholeK
import Derived.Sort.LotA
import Derived.Shelf.SlSortCmp.QuietGrown
import Derived.BigRegion
import Derived.ChangeAlike
set_option maxHeartbeats 16000000
set_option maxRecDepth 100000
namespace Go.Proofs.YtojolpbpjimfgaaGreatDoor
open Go.RowKit
instance:Inhabited Pt:=⟨⟨0,0,0⟩⟩
theorem wp_region_tailG{P:Program}{id:Nat}{Q:Exit→Act→World→Prop}{a:Act}{w:World}{l:List Oper}(n:Nat)(hm:P.follows .mixedOrders=true)(hB:Region.lexTailB .any l.toArray n=true)
  (h:wpQuiet P l.toArray (fun w'=> ∃p:Go.GrownBy,w'=Go.Sort.grow (w.drewN p.n) p.os) (fun a'=> ∀w',(∃p:Go.GrownBy,w'=Go.Sort.grow (w.drewN p.n) p.os)→wpList P l.toArray Q (l.drop n) a' w') (l.take n) a):(Code.region id l.toArray true).wp P Q a w:=by
 simp only[Region.lexTailB,Bool.and_eq_true,decide_eq_true_eq] at hB;obtain⟨⟨⟨⟨hsel,hn⟩,hs⟩,hc⟩,hlex⟩:=hB;have hn':n<l.length:=by simpa using hn
 have htl:(l.take n).length=n:=by simp;omega
 have hdl:(l.drop n).length=l.toArray.size-n:=by simp
 have inv0:HeadInv .any l.toArray n (Array.replicate l.toArray.size false) :=
  ⟨by simp,fun j oj _ hl=>(by rw[getD_replicate_false] at hl;cases hl),fun t _ ht=>getD_in (by simpa using ht) (getD_replicate_false _ _)⟩
 have H:=headQ_lex (P:=P) (C:=fun w'=> ∃p:Go.GrownBy,w'=Go.Sort.grow (w.drewN p.n) p.os) (md:= .any) (g:=l.toArray.size-n) hsel hs hc hn (l.take n) 0 _ a (fun j hj=>by
  rw[htl] at hj
  simp[hj]) (by simpa using htl) inv0 (by rw[htl];exact hlex) h
 refine wp_region_any hm ?_;have H2:=any_of_headQ (Q':=Q) (g:=l.toArray.size-n) (fun listed a' hL w' hw'=>by
  have:=wpAny_of_seq (md:= .any) (Q':=Q) (l.drop n) n listed a' w' (fun j=>by simp[List.getElem?_drop]) (by rw[hdl];exact hL.1) (hL.2 w' hw')
  rwa [hdl] at this) _ _ _ H { w with drawn:=w.drawn+1 } ⟨⟨1,#[]⟩,by rw[Go.Sort.grow_empty];rfl⟩
 rw[htl,show n+(l.toArray.size-n)=l.toArray.size from by omega] at H2;exact H2
def Grn(w w':World):Prop:= ∃q os,w'=Go.Sort.grow (w.drewN q) os
theorem Grn.refl(w:World):Grn w w:=⟨0,#[],by rw[Go.Sort.grow_empty];rfl⟩
theorem Grn.trans{a b c:World}(h:Grn a b)(k:Grn b c):Grn a c:=by
 obtain⟨q,os,rfl⟩:=h;obtain⟨q',os',rfl⟩:=k;exact⟨q+q',os++os',by
  show Go.Sort.grow (Go.Sort.grow ((a.drewN q).drewN q') os) os'=_
  rw[Go.Sort.grow_grow,World.drewN_drewN]⟩
theorem Grn.alloc{a b:World}(h:Grn a b)(o:Obj):Grn a (b.alloc o):=h.trans ⟨0,#[o],by
 show b.alloc o=Go.Sort.grow b #[o]
 unfold World.alloc Go.Sort.grow
 rw[Array.push_eq_append]⟩
theorem Grn.ext{a b:World}(h:Grn a b):Ext a b:=by
 obtain⟨q,os,rfl⟩:=h;exact grow_below a ⟨os,a.drawn+q⟩
theorem order_g(a b c d e f:Int)(w:World) :
  Calls Tryz.prog 120 #[.agg #[.int .i64 a,.int .i64 b,.int .i64 c],.agg #[.int .i64 d,.int .i64 e,.int .i64 f]] w fun v w'=>v = .returned (.int .i64 (ordP ⟨a,b,c⟩ ⟨d,e,f⟩))∧Grn w w':=by
 have hG:=((Grn.refl w).alloc (.cells #[.int .i64 a,.int .i64 b,.int .i64 c] 124)).alloc (.cells #[.int .i64 d,.int .i64 e,.int .i64 f] 124);obtain⟨W1,hW1,E1,B1,hz1⟩:=mk_ w #[.int .i64 a,.int .i64 b,.int .i64 c] 124;obtain⟨W2,hW2,E2,B2,hz2⟩:=mk_ W1 #[.int .i64 d,.int .i64 e,.int .i64 f] 124;rw[hW1,hW2] at hG;have B1':=B1.ext E2;rw[hz1] at B2;have a0:=Go.cell_grown B1'.lt (B1'.cell 0);have a1:=Go.cell_grown B1'.lt (B1'.cell 1);have a2:=Go.cell_grown B1'.lt (B1'.cell 2);have c0:=Go.cell_grown B2.lt (B2.cell 0);have c1:=Go.cell_grown B2.lt (B2.cell 1);have c2:=Go.cell_grown B2.lt (B2.cell 2);go_enter Tryz.func120,Tryz.ntmps120
 go_upto_region 1 with(fail)
 clear hW1 hW2 hz1 hz2 B1 E1 E2 B1' B2;refine wp_region_tailG 15 (by kernel_rfl) (by kernel_rfl) ?_;simp only[List.take_succ_cons,List.take_zero,List.drop_succ_cons,List.drop_zero]
 repeat (go_big_quiet_step ((go_at_call 126;exact(cmpZ_c _ _ _).mono fun _ _ ⟨he,hw⟩=>⟨he,_,hw.symm⟩)))
 refine wpQuiet_nil ?_;intro W3 hW3;have hG3:Grn w W3:=by
  obtain⟨p,rfl⟩:=hW3;exact hG.trans ⟨p.n,p.os,rfl⟩
 clear hW3 hG a0 a1 a2 c0 c1 c2;go_wp2_with fail;refine(or3_c _ _ _ _ _).mono ?_;rintro v w4 ⟨rfl,rfl⟩;go_wp2_with fail;go_ret;exact⟨rfl,hG3.alloc _⟩
/-! The sort. -/
def sortP(l:List Pt):List Pt:=l.mergeSort fun x y=> !ltP y x
def ptsA(l:List Pt):Array Value:=rowsA (l.map Pt.cs)
theorem pts_wide(l:List Pt): ∀r∈l.map Pt.cs,r.length=3:=fun r h=>by
 obtain⟨p,_,rfl⟩:=List.mem_map.1 h;rfl
theorem ltOf_ordP:ltOf ordP=ltP:=by
 funext x y;unfold ltOf;rw[Bool.eq_iff_iff,decide_eq_true_eq,ordP_neg]
theorem swoP:Go.Sort.SWO ltP where
 irrefl:=ltP_irrefl
 trans _ _ _:=ltP_trans
 ntrans x y z h k:=by
  rw[ltP_not] at *
  omega
theorem ltP_total(x y:Pt)(h:ltP x y=false)(k:ltP y x=false):x=y:=by
 rcases ordP_cases x y with⟨e,_⟩|⟨e,_⟩|⟨e,_⟩
 ·rw[h] at e;cases e
 ·exact e
 ·rw[k] at e;cases e
theorem flatK_pts(l:List Pt):Go.Sort.flatK Pt.cs 3 l.toArray=ptsA l:=by
 refine rowsA_ext (pts_wide l) (by simp) fun i j r u hr hu=> ?_;rw[List.getElem?_map] at hr;obtain⟨p,hp,rfl⟩:=Option.map_eq_some_iff.1 hr;obtain⟨hi,hpi⟩:=List.getElem?_eq_some_iff.1 hp;have hj:j<3:=(List.getElem?_eq_some_iff.1 hu).1;have hlt:i*3+j<l.toArray.size*3:=by simp;omega
 rw[Array.getElem?_eq_getElem (by simpa using hlt),←getElem!_pos,Go.Sort.get_flatK _ _ _ _ hlt,show(i*3+j) / 3=i by omega,show(i*3+j) % 3=j by omega,getElem!_pos l.toArray i (by simpa using hi)];have e1:l.toArray[i]'(by simpa using hi)=p:=by simpa using hpi
 rw[e1,←hu];rw[List.getElem!_eq_getElem?_getD,hu];rfl
theorem putPts{w:World}{g n:Nat}{os:Array Obj}{l l':List Pt}{t:TypeId}(hl:l'.length=l.length)(hb:Blk w g t (ptsA l)) :
  Blk (sortWorldK Pt.cs 3 w g 0 n l'.toArray os) g t (ptsA l')∧w.grownBy (sortWorldK Pt.cs 3 w g 0 n l'.toArray os) (some g):=by
 have hg:=hb.lt;constructor
 ·unfold sortWorldK Go.Sort.putRowK;rw[flatK_pts];show(Go.Sort.grow _ _).heap[g]? = _
  rw[Go.Sort.heap_grow_old _ _ (by simpa using hg)];have hb':w.heap[g]? = some (.cells (ptsA l) t (0,0)):=hb;have e:Go.Sort.putCells id 0 (ptsA l') (ptsA l)=ptsA l':=by
   apply Array.ext_getElem?;intro k;have hs:(ptsA l').size=(ptsA l).size:=by unfold ptsA;rw[rowsA_size (pts_wide l),rowsA_size (pts_wide l')];simp[hl]
   rcases Nat.lt_or_ge k (ptsA l).size with hk|hk
   ·have hk':k<(ptsA l').size:=by omega
    simp[Go.Sort.putCells,hk,hk']
   ·rw[Array.getElem?_eq_none (by simpa [Go.Sort.putCells] using hk),Array.getElem?_eq_none (by omega)]
  simp[Go.Sort.putRow,Go.Sort.mapBlock,Go.Sort.ahead,Array.getElem?_modify,hb',Go.Sort.onCells,e]
 ·refine⟨rfl,rfl,rfl,by simp[sortWorldK,Go.Sort.putRowK],fun k hk hne=> ?_⟩;unfold sortWorldK Go.Sort.putRowK;rw[Go.Sort.heap_grow_old _ _ (by simpa using hk)];have:g≠k:=fun e=>hne (by rw[e]);simp[Go.Sort.putRow,Go.Sort.mapBlock,Go.Sort.ahead,Array.getElem?_modify,this]
theorem sortFunc_c(l:List Pt)(g:Nat)(w:World)(hB:Blk w g 124 (ptsA l))(hn:l.length≤100000) :
  Calls Tryz.prog 119 #[.slice (some ⟨g,0,none⟩) l.length l.length,.func (.func 120) #[] #[]] w fun e w'=>e = .returned (.tuple #[])∧Blk w' g 124 (ptsA (sortP l))∧w.grownBy w' (some g):=by
 have hH:Go.Sort.HoldsK Pt.cs 3 w g 0 l.toArray:=by
  unfold Go.Sort.HoldsK;rw[flatK_pts];intro j hj;refine⟨?_,by rw[Nat.zero_add];exact hB.frozen j⟩;rw[Nat.zero_add,hB.cell,Array.getElem?_eq_getElem hj,getElem!_pos (ptsA l) j hj];rfl
 have hcmp:CmpLays Tryz.prog 120 #[] Pt.cs 3 ordP g 0 l.toArray.size w:=fun m os dk _ x y=>(order_g x.x x.y x.z y.x y.y y.z _).mono fun _ _ ⟨he,q,os',hw⟩=>⟨he,q,os',hw⟩;have h:=AnyQ.slices_SortFunc sortCells 3 Tryz.isAgg124 Tryz.sizeOf124 Pt.cs (fun _=>rfl) (fun x v hv=>by
   simp only[Pt.cs,List.mem_cons,List.not_mem_nil,or_false] at hv
   rcases hv with rfl|rfl|rfl <;> rfl) ordP (by rw[ltOf_ordP];exact swoP) 120 #[] g 0 l.length l.toArray w (enters_of Tryz.func120 (by kernel_rfl) rfl) hcmp hH hB.lt (by simp;omega)
 rw[ltOf_ordP] at h;refine(show Calls Tryz.prog 119 _ _ _ from h).mono ?_;rintro e w' ⟨rfl,d',n,os,hp,hs,rfl⟩;obtain rfl:d'=(sortP l).toArray:=Array.ext' (Go.Sort.sorted_unique_holds swoP ltP_total l.toArray d' hp hs);exact⟨rfl,putPts (List.length_mergeSort l) hB⟩
theorem sortP_pairs(l:List Pt):(sortP l).Pairwise fun p q=>ltP q p=false:=by
 have h:=List.pairwise_mergeSort (le:=fun x y=> !ltP y x) (fun a b c h k=>by
  simp only[Bool.not_eq_true',ltP_not] at *
  omega) (fun a b=>by
  cases h:ltP b a
  ·rfl
  ·rw[ltP_anti h]
   rfl) l
 exact h.imp fun h=>by simpa using h
theorem sortP_perm(l:List Pt):(sortP l).Perm l:=List.mergeSort_perm _ _
theorem sortP_len(l:List Pt):(sortP l).length=l.length:=List.length_mergeSort _
theorem sortP_is{l l':List Pt}(hp:l'.Perm l)(hs:l'.Pairwise fun p q=>ltP q p=false):l'=sortP l :=
 List.Perm.eq_of_pairwise (fun a b _ _ h k=>ltP_total a b k h) hs (sortP_pairs l) (hp.trans (sortP_perm l).symm)
structure Ins(l:List Pt)(j k:Nat)(A:List Pt)(x:Pt)(B C:List Pt):Prop where
 k:A.length=k
 j:A.length+B.length=j
 perm:(A++x::(B++C)).Perm l
 sorted:(A++B).Pairwise fun p q=>ltP q p=false
 less: ∀b∈B,ltP x b=true
theorem Ins.step{l:List Pt}{j k:Nat}{A:List Pt}{a x:Pt}{B C:List Pt}(h:Ins l j (k+1) (A ++ [a]) x B C)(hx:ltP x a=true):Ins l j k A x (a::B) C:=by
 obtain⟨h1,h2,h3,h4,h5⟩:=h;simp only[List.length_append,List.length_cons,List.length_nil] at h1 h2;refine⟨by omega,by simp only[List.length_cons];omega,?_,?_,fun b hb=> ?_⟩
 ·refine List.Perm.trans ?_ h3;rw[List.append_assoc];exact List.Perm.append_left _ (List.Perm.swap _ _ _)
 ·rw[List.append_assoc] at h4;exact h4
 ·rcases List.mem_cons.1 hb with rfl|hb
  ·exact hx
  ·exact h5 b hb
theorem Ins.stop{l:List Pt}{j k:Nat}{A:List Pt}{x:Pt}{B C:List Pt}(h:Ins l j k A x B C)(hx: ∀a A',A=A' ++ [a]→ltP x a=false):((A++x::(B++C)).take (j+1)).Pairwise fun p q=>ltP q p=false:=by
 obtain⟨h1,h2,h3,h4,h5⟩:=h;have e:(A++x::(B++C)).take (j+1)=A++x::B:=by
  rw[show A++x::(B++C)=(A++x::B)++C by simp,List.take_append_of_le_length (by simp;omega),List.take_of_length_le (by simp;omega)]
 rw[e];rw[List.pairwise_append] at h4 ⊢;obtain⟨p1,p2,p3⟩:=h4;refine⟨p1,List.pairwise_cons.2 ⟨fun b hb=>ltP_anti (h5 b hb),p2⟩,fun a ha b hb=> ?_⟩;rcases List.mem_cons.1 hb with rfl|hb
 ·rcases List.eq_nil_or_concat A with rfl|⟨A',a',hA⟩
  ·cases ha
  ·rw[List.concat_eq_append] at hA;have q:=hx a' A' hA;subst hA;rcases List.mem_append.1 ha with h|h
   ·have r:=(List.pairwise_append.1 p1).2.2 a h a' (List.mem_singleton_self _);rw[ltP_not] at *
    omega
   ·rw[List.mem_singleton.1 h];exact q
 ·exact p3 a ha b hb
theorem Ins.start{l L:List Pt}{j:Nat}{x:Pt}(hp:L.Perm l)(hs:(L.take j).Pairwise fun p q=>ltP q p=false)(hx:L[j]? = some x):Ins l j j (L.take j) x [] (L.drop (j+1))∧L=L.take j++x::([]++L.drop (j+1)):=by
 obtain⟨hj,hxj⟩:=List.getElem?_eq_some_iff.1 hx;have e:L=L.take j++x::([]++L.drop (j+1)):=by
  rw[List.nil_append,←hxj,←List.drop_eq_getElem_cons hj,List.take_append_drop]
 exact⟨⟨by rw[List.length_take];omega,by rw[List.length_take];simp;omega,by rw[←e];exact hp,by rw[List.append_nil];exact hs,fun b hb=>by cases hb⟩,e⟩
theorem pt_one{c:List Pt}: ∀u∈(c.map Pt.cs).flatten,u.oneCell'=true:=by
 intro u hu;rw[List.mem_flatten] at hu;obtain⟨r,hr,hu⟩:=hu;obtain⟨x,_,rfl⟩:=List.mem_map.1 hr;unfold Pt.cs at hu;simp only[List.mem_cons,List.not_mem_nil,or_false] at hu;rcases hu with rfl|rfl|rfl <;> rfl
theorem infoPt3:(Tryz.prog.info? 124).map (fun i=>(i.zero,i.size,i.bytes))=some (some (.agg #[.int .i64 0,.int .i64 0,.int .i64 0]),3,24):=by kernel_rfl
def RCellsPost(l:List Pt)(n:Nat)(w:World)(e:Ending)(w':World):Prop:= ∃g cap,w.heap.size≤g∧e = .returned (.slice (some ⟨g,0,none⟩) n cap)∧n≤cap∧cap≤maxLen∧RowX w' g 124 (l.map Pt.cs)∧Ext w w'
theorem RowX.swap3{w:World}{g:Nat}{t:TypeId}{rows:List (List Value)}(h:RowX w g t rows)(hw: ∀r∈rows,r.length=3){k m:Nat}(hk:k<rows.length)(hm:m<rows.length)(a b c d e f:Value) :
  ∃w2,(((((w.setCell ⟨g,k*3,none⟩ a).setCell ⟨g,k*3+1,none⟩ b).setCell ⟨g,k*3+2,none⟩ c).setCell ⟨g,m*3,none⟩ d).setCell ⟨g,m*3+1,none⟩ e).setCell ⟨g,m*3+2,none⟩ f=w2∧RowX w2 g t ((rows.set k [a,b,c]).set m [d,e,f])∧(∀w0,Ext w0 w→w0.heap.size≤g→Ext w0 w2):=by
 refine⟨_,rfl,?_,fun w0 hE hg=>setsW_ext [d,e,f] (m*3) (setsW_ext [a,b,c] (k*3) hE hg) hg⟩;exact(h.store hw hk [a,b,c] rfl).store (fun r hr=>by
  rcases List.mem_or_eq_of_mem_set hr with h|h
  ·exact hw r h
  ·rw[h]
   rfl) (by rw[List.length_set];exact hm) [d,e,f] rfl
theorem rSorted_c(l:List Pt)(A:Option Addr)(cap:Nat)(w:World)(hs:Cells w A cap l)(hn:0<l.length)(hl:l.length≤1000) :
  Calls Tryz.prog 98 #[.slice A l.length cap] w (RCellsPost (sortP l) l.length w):=by
 obtain⟨b,off,rfl,hcells⟩:=SliceIs.adds hs hn (by decide);obtain⟨iL,hiL,zL0,zL1,zL2⟩:=info_parts infoPt3;have hfl:(l.map Pt.cs).flatten.length=l.length*3:=by rw[rowsF_len (pts_wide l),List.length_map]
 obtain⟨xs,hxs⟩:=nm ((l.map Pt.cs).flatten);have hone: ∀u∈xs,u.oneCell'=true:=by rw[←hxs];exact pt_one
 obtain⟨n,hnn⟩:=nm l.length;rw[hxs] at hcells hfl;rw[hnn] at hfl hn hl ⊢;have Hnn:=h_ hnn;have Hxs:=h_ hxs;have Hcells:=h_ hcells;have Hone:=h_ hone;have Hfl:=h_ hfl;have m1:0+n≤maxLen:=by unfold maxLen;omega
 have m2:(0+n)*24≤140737488355328:=by omega
 clear hxs hone hcells hfl hs hnn;go_enter Tryz.func98,Tryz.ntmps98;go_wp2_with (at_builtin;refine wpList_append_own _ rfl (.tmp 6) (.tmp 7) 109 rfl w.heap.size 124 iL _ 3 24 Tryz.underlying109 hiL zL0 zL1 zL2 rfl (by decide) _ 0 [] rfl (World.ownsRow_made w #[] 0 (Nat.le_refl _) (by unfold maxLen;omega) rfl) ⟨b,off,none⟩ n cap xs rfl Hfl.out (fun j u hu=>((Ext.refl w).alloc _).cell (Hcells.out j u hu)) Hone.out m1 m2 (by simp) ?_;intro v' w4 own4 hg4 h4;obtain⟨g,cp,rfl⟩:=own_form own4 (by omega));have E4:=((Ext.refl w).alloc (.cells #[] 124)).grown hg4 (fun r e=>by cases e;exact Nat.le_refl _);rw[Nat.zero_add,List.nil_append,←Hxs.out] at own4;obtain⟨X4,hg,q1,q2⟩:=RowX.of_own own4;clear own4 hg4 h4 zL0 zL1 zL2 hiL m1 m2;go_loopw [4] (fun i wr=> ∃(j:Nat) (L:List Pt),j≤n∧i = .int .i64 j∧Ext w wr∧RowX wr g 124 (L.map Pt.cs)∧L.Perm l∧Hid ((L.take j).Pairwise fun p q=>ltP q p=false)) (fun i _=>n-(intOf i).toNat)
 case atStart=>exact⟨0,l,by omega,rfl,E4,X4,List.Perm.refl _,h_ List.Pairwise.nil⟩
 case round =>
  clear E4 X4;obtain⟨j,L,hj,rfl,E,X,hp,Hs⟩:=hrel;have hLn:L.length=n:=hp.length_eq.trans Hnn.out;have Hp:=h_ hp;have HLn:=h_ hLn;clear hp hLn;by_cases hlt:j<n
  ·obtain⟨x,hx⟩: ∃x,L[j]? = some x:=⟨_,List.getElem?_eq_getElem (by rw[HLn.out];exact hlt)⟩;obtain⟨hI,hL⟩:=Ins.start Hp.out Hs.out hx;rw[hL] at X;clear hx hL;go_wp2_with fail;obtain⟨wo,hwo⟩: ∃wo:World,wo=wr:=⟨_,rfl⟩;clear hwo;go_loopw [5] (fun i wr=> ∃(k:Nat) (A:List Pt) (x:Pt) (B C:List Pt),k≤j∧i = .int .i64 k∧Ext w wr∧RowX wr g 124 ((A++x::(B++C)).map Pt.cs)∧Ins l j k A x B C) (fun i _=>(intOf i).toNat)
   case atStart=>exact⟨j,_,_,_,_,Nat.le_refl _,rfl,E,X,hI⟩
   case round =>
    clear E X hI Hs Hp HLn;obtain⟨k,A,x,B,C,hkj,rfl,E,X,hI⟩:=hrel;have hlen:(A++x::(B++C)).length=n:=hI.perm.length_eq.trans Hnn.out;have hAk:=hI.k;have hxk:((A++x::(B++C)).map Pt.cs)[k]? = some (Pt.cs x):=by
     rw[List.getElem?_map,List.getElem?_append_right (by omega),hAk,Nat.sub_self];rfl
    have x0:=X.cell (pts_wide _) hxk (j:=0) rfl;have x1:=X.cell (pts_wide _) hxk (j:=1) rfl;have x2:=X.cell (pts_wide _) hxk (j:=2) rfl;simp only[Nat.add_zero] at x0;have HAk:=h_ hAk;have Hlen:=h_ hlen;clear hxk hAk hlen;by_cases hk0:k=0
    ·have z1:decide ((0:Int)<(k:Int))=false:=by simp;omega
     have z2:decide (0<k)=false:=by simp;omega
     have hstop: ∀a A',A=A' ++ [a]→ltP x a=false:=fun a A' h=>by
      have:=HAk.out;rw[h] at this;simp at this;omega
     have Hstop:=h_ hstop;clear hstop hk0
     go_upto_region 6 with(fail)
     refine w_g ?_
     repeat (go_big_quiet_step (fail))
     refine wpQuiet_nil ?_;intro W5 hW5;have E5:Ext wr W5:=by
      obtain⟨x,rfl⟩:=hW5;exact(Ext.refl _).grow x
     clear hW5;obtain⟨hcW5,hfW5,hzW5⟩:=ext_facts E5;have EZ:=E.trans E5;have XZ:=X.ext E5;have hstop:=Hstop.out;clear hcW5 hfW5 hzW5 x0 x1 x2;go_wp2_with fail;go_roundw
     case rel=>exact⟨j+1,_,by omega,by go_num,EZ,XZ,hI.perm,h_ (hI.stop hstop)⟩
     case measure=>simp only[intOf];omega
    ·obtain⟨A',a,rfl⟩: ∃A' a,A=A' ++ [a]:=by
      rcases List.eq_nil_or_concat A with h|⟨A',a,h⟩
      ·have:=HAk.out;rw[h] at this;simp at this;omega
      ·exact⟨A',a,by rw[h,List.concat_eq_append]⟩
     have hA':A'.length=k-1:=by
      have:=HAk.out;simp at this;omega
     have hak:(((A' ++ [a])++x::(B++C)).map Pt.cs)[k-1]? = some (Pt.cs a):=by
      rw[List.getElem?_map,List.append_assoc,List.getElem?_append_right (by omega),hA',Nat.sub_self];rfl
     have a0:=X.cell (pts_wide _) hak (j:=0) rfl;have a1:=X.cell (pts_wide _) hak (j:=1) rfl;have a2:=X.cell (pts_wide _) hak (j:=2) rfl;simp only[Nat.add_zero] at a0;have HA':=h_ hA';clear hak hA';have z1:decide ((0:Int)<(k:Int))=true:=by simp;omega
     have z2:decide (0<k)=true:=by simp;omega
     have hkc:(((k-1:Nat):Nat):Int)=(k:Int)-1:=by omega
     have ht:((k:Int)-1).toNat=k-1:=by omega
     have hk1:(1:Int)≤k:=by omega
     have hkn:(k:Int)<n:=by omega
     go_upto_region 6 with(fail)
     refine w_g ?_
     repeat (go_big_quiet_step (((go_at_call 132;exact quiet_ext (rBefore_c x.x x.y x.z a.x a.y a.z _)))))
     refine wpQuiet_nil ?_;intro W5 hW5;have E5:Ext wr W5:=by
      obtain⟨x,rfl⟩:=hW5;exact(Ext.refl _).grow x
     clear hW5;obtain⟨hcW5,hfW5,hzW5⟩:=ext_facts E5;obtain⟨r,hr⟩:=nm (ltP ⟨x.x,x.y,x.z⟩ ⟨a.x,a.y,a.z⟩);rw[hr];have Hr:=h_ hr;clear hr;have EZ:=E.trans E5;have XZ:=X.ext E5;clear hcW5 hfW5 hzW5 x0 x1 x2 a0 a1 a2;cases r
     ·have hstop: ∀a' A'',A' ++ [a]=A'' ++ [a']→ltP x a'=false:=fun a' A'' h=>by
       have:=(List.append_inj' h rfl).2;cases this;exact Hr.out
      have Hstop:=h_ hstop;clear hstop;go_wp2_with fail;go_roundw
      case rel=>exact⟨j+1,_,by omega,by go_num,EZ,XZ,hI.perm,h_ (hI.stop Hstop.out)⟩
      case measure=>simp only[intOf];omega
     ·have hlen6:(((A' ++ [a])++x::(B++C)).map Pt.cs).length=n:=by rw[List.length_map];exact Hlen.out
      have hxk:(((A' ++ [a])++x::(B++C)).map Pt.cs)[k]? = some (Pt.cs x):=by
       rw[List.getElem?_map,List.getElem?_append_right (by have:=HAk.out;omega),HAk.out,Nat.sub_self];rfl
      have hak:(((A' ++ [a])++x::(B++C)).map Pt.cs)[k-1]? = some (Pt.cs a):=by
       rw[List.getElem?_map,List.append_assoc,List.getElem?_append_right (by have:=HA'.out;omega),HA'.out,Nat.sub_self];rfl
      have x0:=XZ.cell (pts_wide _) hxk (j:=0) rfl;have x1:=XZ.cell (pts_wide _) hxk (j:=1) rfl;have x2:=XZ.cell (pts_wide _) hxk (j:=2) rfl;have a0:=XZ.cell (pts_wide _) hak (j:=0) rfl;have a1:=XZ.cell (pts_wide _) hak (j:=1) rfl;have a2:=XZ.cell (pts_wide _) hak (j:=2) rfl;simp only[Nat.add_zero] at x0 a0;have fz:=XZ.frozen;obtain⟨W6,hW6,X6,ext6⟩:=XZ.swap3 (pts_wide _) (k:=k) (m:=k-1) (by omega) (by omega) (.int .i64 a.x) (.int .i64 a.y) (.int .i64 a.z) (.int .i64 x.x) (.int .i64 x.y) (.int .i64 x.z);have hrows:((((A' ++ [a])++x::(B++C)).map Pt.cs).set k [.int .i64 a.x,.int .i64 a.y,.int .i64 a.z]).set (k-1) [.int .i64 x.x,.int .i64 x.y,.int .i64 x.z]=(A'++x::((a::B)++C)).map Pt.cs:=by
       have e1:(((A' ++ [a])++x::(B++C)).map Pt.cs).set k (Pt.cs a)=((A' ++ [a])++a::(B++C)).map Pt.cs:=by
        rw[←List.map_set,List.set_append_right _ _ (by have:=HAk.out;omega),HAk.out,Nat.sub_self];rfl
       have e2:(((A' ++ [a])++a::(B++C)).map Pt.cs).set (k-1) (Pt.cs x)=(A'++x::((a::B)++C)).map Pt.cs:=by
        rw[←List.map_set,List.append_assoc,List.set_append_right _ _ (by have:=HA'.out;omega),HA'.out,Nat.sub_self];rfl
       show((((A' ++ [a])++x::(B++C)).map Pt.cs).set k (Pt.cs a)).set (k-1) (Pt.cs x)=_
       rw[e1,e2]
      rw[hrows] at X6;have hI':Ins l j (k-1) A' x (a::B) C:=by
       have:=hI;rw[show k=(k-1)+1 by omega] at this;exact this.step Hr.out
      clear hrows hxk hak hlen6
      go_upto_region 8 with(fail)
      go_region
      go_wp2_with fail;go_roundw
      case rel=>exact⟨k-1,A',x,a::B,C,by omega,by rw[hkc],(ext6 _ EZ hg).drew,X6.drew,hI'⟩
      case measure=>simp only[intOf];omega
  ·obtain rfl:n=j:=by omega
   have hfin:L=sortP l:=sortP_is Hp.out (by
    have:=Hs.out
    rwa [List.take_of_length_le (by rw[HLn.out];exact Nat.le_refl _)] at this)
   subst hfin;go_wp2_with fail;go_ret;exact⟨g,cp,hg,rfl,q1,q2,X,E⟩
def placeP(cells:List Pt)(n:Nat)(p:Pt):List Pt:=cells.map fun c=>addP (turnS c n) p
theorem placeP_len(cells:List Pt)(n:Nat)(p:Pt):(placeP cells n p).length=cells.length:=List.length_map _
def partL{α:Type}(z:α)(l:List α)(j:Nat):List α:=l.take j++List.replicate (l.length-j) z
theorem partL_zero{α:Type}(z:α)(l:List α):partL z l 0=List.replicate l.length z:=by simp[partL]
theorem partL_all{α:Type}(z:α)(l:List α):partL z l l.length=l:=by simp[partL]
theorem partL_len{α:Type}(z:α)(l:List α){j:Nat}(hj:j≤l.length):(partL z l j).length=l.length:=by simp[partL];omega
theorem partL_set{α:Type}(z:α)(l:List α){j:Nat}{x:α}(hx:l[j]? = some x):(partL z l j).set j x=partL z l (j+1):=by
 have hj:j<l.length:=(List.getElem?_eq_some_iff.1 hx).1;unfold partL;rw[List.take_add_one,hx,List.set_append_right _ _ (by rw[List.length_take];omega)];have e:l.length-j=(l.length-(j+1))+1:=by omega
 rw[e,List.replicate_succ];simp[Nat.min_eq_left (Nat.le_of_lt hj)]
theorem partL_at{α:Type}(z:α)(l:List α){j:Nat}(hj:j<l.length):(partL z l j)[j]? = some z:=by
 unfold partL;rw[List.getElem?_append_right (by rw[List.length_take];omega),List.length_take,Nat.min_eq_left (Nat.le_of_lt hj),Nat.sub_self,List.getElem?_replicate,if_pos (by omega)]
theorem infoPt:(Tryz.prog.info? 124).map (fun i=>(i.zero,i.size,i.bytes))=some (some (.agg #[.int .i64 0,.int .i64 0,.int .i64 0]),3,24):=by kernel_rfl
theorem make_pts(n:Nat)(hn:n≤1000)(w:World):(Instr.makeSlice 109 (.int .i64 (n:Int)) (.int .i64 (n:Int))).run Tryz.prog w = .ok (.slice (some ⟨w.heap.size,0,none⟩) n n) (w.alloc (.cells (ptsA (List.replicate n ⟨0,0,0⟩)) 124)):=by
 obtain⟨i0,hi,hz0,hz1,hz2⟩:=info_parts infoPt;have h:=run_make (P:=Tryz.prog) w 109 124 i0 (.agg #[.int .i64 0,.int .i64 0,.int .i64 0]) Tryz.underlying109 hi hz0 .i64 .i64 (n:Int) (n:Int) (by omega) (Int.le_refl _) (by rw[hz2];omega) (by omega);rw[h];have e:madeCells (Value.cells (.agg #[.int .i64 0,.int .i64 0,.int .i64 0])) ((n:Int).toNat*i0.size)=ptsA (List.replicate n ⟨0,0,0⟩):=by
  rw[hz1,Int.toNat_natCast,rowsA_made (sz:=3) rfl (by omega)];unfold ptsA;rw[List.map_replicate];rfl
 rw[e];simp
def CellsPost(l:List Pt)(n:Nat)(w:World)(e:Ending)(w':World):Prop:= ∃g,w.heap.size≤g∧e = .returned (.slice (some ⟨g,0,none⟩) n n)∧Blk w' g 124 (ptsA l)∧Ext w w'
theorem cells_c(cells:List Pt)(m cb:Nat)(wt:Int)(A:Option Addr)(ca:Nat)(B:Option Addr)(n:Nat)(x y z:Int)(w:World)(hc:Cells w A ca cells)(hl:cells.length≤1000)(hok: ∀p∈cells,p.ok)(hn:n<24)(hp:Pt.ok ⟨x,y,z⟩) :
  Calls Tryz.prog 91 #[.agg #[.slice A cells.length ca,.slice B m cb,.int .i64 wt],.int .i64 n,.agg #[.int .i64 x,.int .i64 y,.int .i64 z]] w (CellsPost (sortP (placeP cells n ⟨x,y,z⟩)) cells.length w):=by
 have hmk:=make_pts cells.length (by omega);obtain⟨W1,hW1,E1,B1,hz1⟩:=mk_ w #[.slice A cells.length ca,.slice B m cb,.int .i64 wt] 112;obtain⟨W2,hW2,E2,B2,hz2⟩:=mk_ W1 #[.int .i64 x,.int .i64 y,.int .i64 z] 124;obtain⟨W3,hW3,E3,B3,hz3⟩:=mk_ W2 (ptsA (List.replicate cells.length ⟨0,0,0⟩)) 124;rw[hz1] at B2;rw[hz2,hz1] at B3;have B1':=B1.ext E2;have b1:=B1'.cell;have b3:=(B1'.ext E3).cell;have E13:=(E1.trans E2).trans E3;go_enter Tryz.func91,Tryz.ntmps91;go_wp2_with fail;have BK:=B1'.ext E3;have BP:=B2.ext E3;rw[←placeP_len cells n ⟨x,y,z⟩,←partL_zero] at B3;clear hW1 hW2 hW3 hz1 hz2 hz3 b1 b3 B1 B1' B2 hmk E1 E2 E3;have Hpl:=h_ (placeP_len cells n ⟨x,y,z⟩);obtain⟨S,hS⟩:=nm w.heap.size;rw[hS] at B3 BK BP ⊢;have HS:=h_ hS;clear hS;go_loopw [17] (fun i wr=> ∃j:Nat,j≤cells.length∧i = .int .i64 j∧Ext w wr∧Blk wr S 112 #[.slice A cells.length ca,.slice B m cb,.int .i64 wt]∧Blk wr (S+1) 124 #[.int .i64 x,.int .i64 y,.int .i64 z]∧Blk wr (S+1+1) 124 (ptsA (partL ⟨0,0,0⟩ (placeP cells n ⟨x,y,z⟩) j))) (fun i _=>cells.length-(intOf i).toNat)
 case atStart=>exact⟨0,by omega,rfl,E13,BK,BP,B3⟩
 case round =>
  clear B3 BK BP E13;obtain⟨j,hj,rfl,E,BK,BP,BO⟩:=hrel;by_cases hlt:j<cells.length
  ·obtain⟨g,off,⟨qx,qy,qz⟩,rfl,hq,hg,c0,c1,c2⟩:=hc.at_ hlt;simp only at c0 c1 c2;have d0:=E.cell c0;have d1:=E.cell c1;have d2:=E.cell c2;clear c0 c1 c2;have hqo:=hok _ (List.mem_of_getElem? hq);have hset:(placeP cells n ⟨x,y,z⟩)[j]? = some (addP (turnS ⟨qx,qy,qz⟩ n) ⟨x,y,z⟩):=by
    unfold placeP;rw[List.getElem?_map,hq];rfl
   have Hset:=h_ hset;clear hq hset;have i1:(0:Int)≤j:=by omega
   have i2:(j:Int)<cells.length:=by omega
   obtain⟨W4,hW4,E4,B4,hz4⟩:=mk_ wr #[.int .i64 qx,.int .i64 qy,.int .i64 qz] 124;have b4:=B4.cell;have b2:=(BP.ext E4).cell
   go_upto_region 5 with(fail)
   refine wp_region_tail 8 (by kernel_rfl) (by kernel_rfl) ?_;simp only[List.take_succ_cons,List.take_zero,List.drop_succ_cons,List.drop_zero]
   repeat (go_big_quiet_step ((first|(go_at_call 118;exact quiet_ext (turn_c qx qy qz n _ hn hqo))|(go_at_call 117;exact quiet_ext (plus_c _ _ _ _ _ _ _ (turnS_ok hqo n) hp)))))
   refine wpQuiet_nil ?_;intro W5 hW5;have E5:Ext W4 W5:=by
    obtain⟨x,rfl⟩:=hW5;exact(Ext.refl _).grow x
   clear hW5;obtain⟨hcW5,hfW5,hzW5⟩:=ext_facts E5;have BO':=(BO.ext E4).ext E5;unfold ptsA at BO';obtain⟨W6,hW6,B6,far6,ext6,hz6⟩:=BO'.row3 (pts_wide _) (k:=j) (by rw[List.length_map,partL_len _ _ (by rw[Hpl.out];omega),Hpl.out];omega) (.int .i64 ((turnS ⟨qx,qy,qz⟩ n).x+x)) (.int .i64 ((turnS ⟨qx,qy,qz⟩ n).y+y)) (.int .i64 ((turnS ⟨qx,qy,qz⟩ n).z+z));have f6:=BO'.frozen;have hz0:((partL (⟨0,0,0⟩:Pt) (placeP cells n ⟨x,y,z⟩) j).map Pt.cs)[j]? = some (Pt.cs ⟨0,0,0⟩):=by rw[List.getElem?_map,partL_at _ _ (by rw[Hpl.out];exact hlt)];rfl
   have y0:=(BO'.cell (j*3+0)).trans (rowsA_get (pts_wide _) hz0 (j:=0) rfl);have y1:=(BO'.cell (j*3+1)).trans (rowsA_get (pts_wide _) hz0 (j:=1) rfl);have y2:=(BO'.cell (j*3+2)).trans (rowsA_get (pts_wide _) hz0 (j:=2) rfl);simp only[Nat.add_zero] at y0;clear hz0;go_wp2_with fail;go_roundw
   case rel=>exact⟨j+1,by omega,by go_num,ext6 _ ((E.trans E4).trans E5) (by have:=HS.out;omega),far6 _ _ _ (by omega) ((BK.ext E4).ext E5),far6 _ _ _ (by omega) ((BP.ext E4).ext E5),by
    rw[←partL_set _ _ Hset.out];unfold ptsA;rw[List.map_set]
    exact B6⟩
   case measure=>simp only[intOf];omega
  ·obtain rfl:cells.length=j:=by omega
   have hpa:partL ⟨0,0,0⟩ (placeP cells n ⟨x,y,z⟩) cells.length=placeP cells n ⟨x,y,z⟩:=by
    have:=partL_all ⟨0,0,0⟩ (placeP cells n ⟨x,y,z⟩);rwa [Hpl.out] at this
   rw[hpa] at BO;have SF:=sortFunc_c (placeP cells n ⟨x,y,z⟩) (S+1+1) wr BO (by rw[Hpl.out];omega);rw[Hpl.out] at SF;clear hpa;go_wp2_with fail;refine SF.mono ?_;rintro v w2 ⟨rfl,B2,G2⟩;go_wp2_with fail;go_ret;exact⟨S+1+1,by have:=HS.out;omega,rfl,B2,E.grown G2 (fun k hk=>by cases hk;have:=HS.out;omega)⟩
end Go.Proofs.YtojolpbpjimfgaaGreatDoor
