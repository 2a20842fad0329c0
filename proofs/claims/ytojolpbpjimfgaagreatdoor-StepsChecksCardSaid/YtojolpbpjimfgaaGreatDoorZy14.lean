/- Texts of the proof: Sort2, OvM, LinkS, SortNil, Overlaps. -/
import Derived.Test.YtojolpbpjimfgaaGreatDoorZy8
import Derived.Test.YtojolpbpjimfgaaGreatDoorZy10
import Derived.Test.YtojolpbpjimfgaaGreatDoorZy11
import Derived.Test.YtojolpbpjimfgaaGreatDoorZy12
import Derived.Test.YtojolpbpjimfgaaGreatDoorZy13
set_option maxHeartbeats 1600000
set_option maxRecDepth 100000
namespace Go.Proofs.YtojolpbpjimfgaaGreatDoor
open Go.RowKit
def ltR(x y:Int×Int):Bool:=decide (x.1<y.1)||(decide (x.1=y.1)&&decide (x.2<y.2))
def ordR(x y:Int×Int):Int:=if ordZ x.1 y.1=0 then ordZ x.2 y.2 else ordZ x.1 y.1
theorem ltR_iff{x y:Int×Int}:ltR x y=true↔x.1<y.1∨(x.1=y.1∧x.2<y.2):=by
 simp[ltR]
theorem ltR_not{x y:Int×Int}:ltR x y=false ↔ ¬(x.1<y.1∨(x.1=y.1∧x.2<y.2)):=by
 rw[←Bool.not_eq_true,ltR_iff]
theorem ordR_neg(x y:Int×Int):ordR x y<0↔ltR x y=true:=by
 rw[ltR_iff];unfold ordR ordZ
 repeat' split
 all_goals omega
theorem ltOf_ordR:ltOf ordR=ltR:=by
 funext x y;unfold ltOf;rw[Bool.eq_iff_iff,decide_eq_true_eq,ordR_neg]
theorem swoR:Go.Sort.SWO ltR where
 irrefl x:=by rw[ltR_not];omega
 trans x y z h k:=by rw[ltR_iff] at *;omega
 ntrans x y z h k:=by rw[ltR_not] at *;omega
theorem ltR_total(x y:Int×Int)(h:ltR x y=false)(k:ltR y x=false):x=y:=by
 rw[ltR_not] at h k;exact Prod.ext (by omega) (by omega)
theorem compare2_c(g h:Nat)(a b c d:Int)(w:World)(a0:w.cell? ⟨g,0,none⟩=some (.int .i64 a))(a1:w.cell? ⟨g,1,none⟩=some (.int .i64 b))(c0:w.cell? ⟨h,0,none⟩=some (.int .i64 c))(c1:w.cell? ⟨h,1,none⟩=some (.int .i64 d)) :
  Calls Tryz.prog 110 #[.slice (some ⟨g,0,none⟩) 2 2,.slice (some ⟨h,0,none⟩) 2 2] w fun e w'=>e = .returned (.int .i64 (ordR (a,b) (c,d)))∧w=w':=by
 have C1:=cmpZ_c a c w;have C2:=cmpZ_c b d w;obtain⟨r,hr⟩:=nm (ordZ a c);obtain⟨s,hs⟩:=nm (ordZ b d);have Hres:=h_ (show ordR (a,b) (c,d)=if r=0 then s else r by unfold ordR;rw[hr,hs]);rw[hr] at C1;rw[hs] at C2;clear hr hs;go_enter Tryz.func110,Tryz.ntmps110;go_wp2_with fail;go_loopw [11] (fun i wr=> ∃k:Nat,k≤2∧i = .int .i64 k∧wr=w∧(0<k→r=0)∧(1<k→s=0)) (fun i _=>2-(intOf i).toNat)
 case atStart=>exact⟨0,by omega,rfl,rfl,fun h=>absurd h (by omega),fun h=>absurd h (by omega)⟩
 case round =>
  obtain⟨k,hk,rfl,rfl,h1,h2⟩:=hrel;have hk3:k=0∨k=1∨k=2:=by omega
  rcases hk3 with rfl|rfl|rfl
  ·clear h1 h2;by_cases h0:r=0
   ·have hb:(r != 0)=false:=by simpa using h0
    go_wp2_with fail;refine C1.mono ?_;rintro e w1 ⟨rfl,rfl⟩;go_wp2_with fail;go_roundw
    case rel=>exact⟨1,by omega,by go_num,trivial,fun _=>h0,fun h=>absurd h (by omega)⟩
    case measure=>simp only[intOf];omega
   ·have hb:(r != 0)=true:=by simpa using h0
    have Hv:=h_ (Hres.out.trans (if_neg h0));clear h0;go_wp2_with fail;refine C1.mono ?_;rintro e w1 ⟨rfl,rfl⟩;go_wp2_with fail;go_ret;exact⟨by rw[Hv.out];rfl,rfl⟩
  ·have hr0:=h1 (by omega);have Hs:=h_ (Hres.out.trans (if_pos hr0));clear h1 h2;by_cases h0:s=0
   ·have hb:(s != 0)=false:=by simpa using h0
    go_wp2_with fail;refine C2.mono ?_;rintro e w1 ⟨rfl,rfl⟩;go_wp2_with fail;go_roundw
    case rel=>exact⟨2,by omega,by go_num,trivial,fun _=>hr0,fun _=>h0⟩
    case measure=>simp only[intOf];omega
   ·have hb:(s != 0)=true:=by simpa using h0
    clear h0 hr0;go_wp2_with fail;refine C2.mono ?_;rintro e w1 ⟨rfl,rfl⟩;go_wp2_with fail;go_ret;exact⟨by rw[Hs.out];rfl,rfl⟩
  ·have Hv:=h_ (Hres.out.trans ((if_pos (h1 (by omega))).trans (h2 (by omega))));clear h1 h2;go_wp2_with fail;go_ret;exact⟨by rw[Hv.out];rfl,rfl⟩
theorem less_g(a b c d:Int)(w:World) :
  Calls Tryz.prog 109 #[.agg #[.int .i64 a,.int .i64 b],.agg #[.int .i64 c,.int .i64 d]] w fun v w'=>v = .returned (.int .i64 (ordR (a,b) (c,d)))∧Grn w w':=by
 have hG:=((Grn.refl w).alloc (.cells #[.int .i64 a,.int .i64 b] 198)).alloc (.cells #[.int .i64 c,.int .i64 d] 198);obtain⟨W1,hW1,E1,B1,hz1⟩:=mk_ w #[.int .i64 a,.int .i64 b] 198;obtain⟨W2,hW2,E2,B2,hz2⟩:=mk_ W1 #[.int .i64 c,.int .i64 d] 198;rw[hW1,hW2] at hG;have B1':=B1.ext E2;rw[hz1] at B2;have a0:=Go.cell_grown B1'.lt (B1'.cell 0);have a1:=Go.cell_grown B1'.lt (B1'.cell 1);have c0:=Go.cell_grown B2.lt (B2.cell 0);have c1:=Go.cell_grown B2.lt (B2.cell 1);go_enter Tryz.func109,Tryz.ntmps109
 go_upto_region 1 with(fail)
 clear hW1 hW2 hz1 hz2 B1 E1 E2 B1' B2;refine wp_region_tailG 2 (by kernel_rfl) (by kernel_rfl) ?_;simp only[List.take_succ_cons,List.take_zero,List.drop_succ_cons,List.drop_zero]
 repeat (go_big_quiet_step (fail))
 refine wpQuiet_nil ?_;intro W3 hW3;obtain⟨p,hp⟩:=hW3;have hG3:Grn w W3:=by
  subst hp;exact hG.trans ⟨p.n,p.os,rfl⟩
 have CC:=compare2_c w.heap.size (w.heap.size+1) a b c d W3 (by rw[hp,a0];rfl) (by rw[hp,a1];rfl) (by rw[hp,c0];rfl) (by rw[hp,c1];rfl);clear hp hG a0 a1 c0 c1;go_wp2_with fail;refine CC.mono ?_;rintro e w4 ⟨rfl,rfl⟩;go_wp2_with fail;go_ret;exact⟨rfl,hG3⟩
theorem prs_wide(l:List (Int×Int)): ∀r∈l.map prC,r.length=2:=fun r h=>by
 obtain⟨p,_,rfl⟩:=List.mem_map.1 h;rfl
def sortR(l:List (Int×Int)):List (Int×Int):=l.mergeSort fun x y=> !ltR y x
theorem flatK_prs(l:List (Int×Int)):Go.Sort.flatK prC 2 l.toArray=rowsA (l.map prC):=by
 refine rowsA_ext (prs_wide l) (by simp) fun i j r u hr hu=> ?_;rw[List.getElem?_map] at hr;obtain⟨p,hp,rfl⟩:=Option.map_eq_some_iff.1 hr;obtain⟨hi,hpi⟩:=List.getElem?_eq_some_iff.1 hp;have hj:j<2:=(List.getElem?_eq_some_iff.1 hu).1;have hlt:i*2+j<l.toArray.size*2:=by simp;omega
 rw[Array.getElem?_eq_getElem (by simpa using hlt),←getElem!_pos,Go.Sort.get_flatK _ _ _ _ hlt,show(i*2+j) / 2=i by omega,show(i*2+j) % 2=j by omega,getElem!_pos l.toArray i (by simpa using hi)];have e1:l.toArray[i]'(by simpa using hi)=p:=by simpa using hpi
 rw[e1,←hu];rw[List.getElem!_eq_getElem?_getD,hu];rfl
theorem putPrs{w:World}{g n:Nat}{os:Array Obj}{l l':List (Int×Int)}{t:TypeId}(hl:l'.length=l.length)(hb:RowX w g t (l.map prC)) :
  RowX (sortWorldK prC 2 w g 0 n l'.toArray os) g t (l'.map prC)∧w.grownBy (sortWorldK prC 2 w g 0 n l'.toArray os) (some g):=by
 obtain⟨ex,hb⟩:=hb;have hg:=hb.lt;constructor
 ·refine⟨ex,?_⟩;unfold sortWorldK Go.Sort.putRowK;rw[flatK_prs];show(Go.Sort.grow _ _).heap[g]? = _
  rw[Go.Sort.heap_grow_old _ _ (by simpa using hg)];have hb':w.heap[g]? = some (.cells (rowsA (l.map prC)++ex) t (0,0)):=hb;have hs:(rowsA (l'.map prC)).size=(rowsA (l.map prC)).size:=by rw[rowsA_size (prs_wide l),rowsA_size (prs_wide l')];simp[hl]
  have e:Go.Sort.putCells id 0 (rowsA (l'.map prC)) (rowsA (l.map prC)++ex)=rowsA (l'.map prC)++ex:=by
   apply Array.ext_getElem?;intro k;rcases Nat.lt_or_ge k (rowsA (l.map prC)).size with hk|hk
   ·have hk':k<(rowsA (l'.map prC)).size:=by omega
    rw[Array.getElem?_append_left hk'];have:k<(rowsA (l.map prC)++ex).size:=by simp;omega
    simp[Go.Sort.putCells,hk'];exact⟨_,Array.getElem?_eq_getElem this⟩
   ·rw[Array.getElem?_append_right (by omega),hs];rcases Nat.lt_or_ge k (rowsA (l.map prC)++ex).size with h2|h2
    ·have h3: ¬k<(rowsA (l'.map prC)).size:=by omega
     have h4:(rowsA (l.map prC)++ex)[k]? = ex[k-(rowsA (l.map prC)).size]? := Array.getElem?_append_right hk;rw[←h4];simp[Go.Sort.putCells,h3]
    ·rw[Array.getElem?_eq_none (by simpa [Go.Sort.putCells] using h2),Array.getElem?_eq_none (by simp at h2;omega)]
  simp[Go.Sort.putRow,Go.Sort.mapBlock,Go.Sort.ahead,Array.getElem?_modify,hb',Go.Sort.onCells,e]
 ·refine⟨rfl,rfl,rfl,by simp[sortWorldK,Go.Sort.putRowK],fun k hk hne=> ?_⟩;unfold sortWorldK Go.Sort.putRowK;rw[Go.Sort.heap_grow_old _ _ (by simpa using hk)];have:g≠k:=fun e=>hne (by rw[e]);simp[Go.Sort.putRow,Go.Sort.mapBlock,Go.Sort.ahead,Array.getElem?_modify,this]
theorem sort2_c(l:List (Int×Int))(g cap:Nat)(w:World)(hB:RowX w g 198 (l.map prC))(hn:l.length≤100000) :
  Calls Tryz.prog 108 #[.slice (some ⟨g,0,none⟩) l.length cap,.func (.func 109) #[] #[]] w fun e w'=>e = .returned (.tuple #[])∧RowX w' g 198 ((sortR l).map prC)∧w.grownBy w' (some g):=by
 have hH:Go.Sort.HoldsK prC 2 w g 0 l.toArray:=by
  obtain⟨ex,hb⟩:=hB;unfold Go.Sort.HoldsK;rw[flatK_prs];intro j hj;refine⟨?_,by rw[Nat.zero_add];exact hb.frozen j⟩;rw[Nat.zero_add,hb.cell,Array.getElem?_append_left hj,Array.getElem?_eq_getElem hj,getElem!_pos (rowsA (l.map prC)) j hj];rfl
 have hcmp:CmpLays Tryz.prog 109 #[] prC 2 ordR g 0 l.toArray.size w:=fun m os dk _ x y=>(less_g x.1 x.2 y.1 y.2 _).mono fun _ _ ⟨he,q,os',hw⟩=>⟨he,q,os',hw⟩;have h:=AnyQ.slices_SortFunc sortPairs 2 Tryz.isAgg198 Tryz.sizeOf198 prC (fun _=>rfl) (fun x v hv=>by
   simp only[prC,List.mem_cons,List.not_mem_nil,or_false] at hv
   rcases hv with rfl|rfl <;> rfl) ordR (by rw[ltOf_ordR];exact swoR) 109 #[] g 0 cap l.toArray w (enters_of Tryz.func109 (by kernel_rfl) rfl) hcmp hH hB.lt (by simp;omega)
 rw[ltOf_ordR] at h;refine(show Calls Tryz.prog 108 _ _ _ from h).mono ?_;rintro e w' ⟨rfl,d',n,os,hp,hs,rfl⟩;obtain rfl:d'=(sortR l).toArray:=Array.ext' (Go.Sort.sorted_unique_holds swoR ltR_total l.toArray d' hp hs);exact⟨rfl,putPrs (List.length_mergeSort l) hB⟩
theorem ownMap{K V:Type}{enc:K→Value}{ev:V→Value}{w:World}{b:Nat}{e:TypeId}{sz:Nat}{v:Value}{n:Nat}{xs:List Value}{M:Nat}{m:List (K×V)}(h:w.ownsRow b e sz v n xs)(h':MapOf enc ev w M m):some M≠v.ownBlock:=by
 intro e1;rcases h.2 with⟨rfl,_⟩|⟨g,cap,cur,rfl,_,hg,_⟩
 ·cases e1
 ·simp only[Value.ownBlock,Option.some.injEq] at e1;subst e1;obtain⟨es,clock,hm,_⟩:=h';rw[hg] at hm;cases hm
theorem MapOf.far2{K V:Type}{enc:K→Value}{ev:V→Value}{w:World}{M:Nat}{m:List (K×V)}(h:MapOf enc ev w M m){p:Addr}(hp:M≠p.block)(u:Value):MapOf enc ev (w.setCell p u) M m:=by
 obtain⟨es,clock,hm,r⟩:=h;exact⟨es,clock,by rw[Below.heap_setCell _ _ _ _ hp];exact hm,r⟩
theorem MapOf.blk_ne{K V:Type}{enc:K→Value}{ev:V→Value}{w:World}{M:Nat}{m:List (K×V)}(h:MapOf enc ev w M m){g:Nat}{t:TypeId}{cs:Array Value}(hb:Blk w g t cs):M≠g:=by
 rintro rfl;obtain⟨es,clock,hm,_⟩:=h;unfold Blk at hb;rw[hm] at hb;cases hb
def numC(x:Int):Value:= .int .i64 x
abbrev nilV:Value:= .slice none 0 0
structure InM(w:World)(T M:Nat)(m:List (Pt×Value))(f:Pt→List Int):Prop where
 map:MapOf encPt id w M m
 row: ∀c v,getK m c=some v→w.ownsRow T 3 1 v (f c).length ((f c).map numC)
 nil: ∀c,getK m c=none→f c = []
 sep: ∀c d u v,c≠d→getK m c=some u→getK m d=some v → ∀r,u.ownBlock=some r→v.ownBlock≠some r
theorem InM.own{w:World}{T M:Nat}{m:List (Pt×Value)}{f:Pt→List Int}(h:InM w T M m f)(c:Pt):w.ownsRow T 3 1 ((getK m c).getD nilV) (f c).length ((f c).map numC):=by
 cases hc:getK m c with
 | none =>
  rw[h.nil c hc];exact World.ownsRow_nil _ _ _ _
 | some v=>exact h.row c v hc
theorem InM.ext{w w':World}{T M:Nat}{m:List (Pt×Value)}{f:Pt→List Int}(h:InM w T M m f)(E:Ext w w'):InM w' T M m f :=
 ⟨h.map.ext E,fun c v hc=>own_ext (h.row c v hc) E,h.nil,h.sep⟩
theorem InM.grown{w w':World}{T M:Nat}{m:List (Pt×Value)}{f:Pt→List Int}(h:InM w T M m f){row:Option Nat}(g:w.grownBy w' row)(h1:some M≠row)(h2: ∀c v,getK m c=some v→v.ownBlock=none∨v.ownBlock≠row):InM w' T M m f :=
 ⟨h.map.grown g h1,fun c v hc=>ownGrown (h.row c v hc) g (h2 c v hc),h.nil,h.sep⟩
theorem InM.other{K V:Type}{enc:K→Value}{ev:V→Value}{w w':World}{T M M2:Nat}{m:List (Pt×Value)}{f:Pt→List Int}{m2:List (K×V)}(h:InM w T M m f)(h':MapOf enc ev w M2 m2)(hne:M≠M2)(g:w.grownBy w' (some M2)):InM w' T M m f :=
 h.grown g (by simpa using hne) (fun c v hc=>Or.inr fun e=>ownMap (h.row c v hc) h' e.symm)
theorem InM.made(w:World)(T:Nat):InM (w.alloc (.map #[] 0)) T w.heap.size [] (fun _=> []) :=
 ⟨MapOf.made w,fun _ v hc=>(nomatch (show(none:Option Value)=some v from hc)),fun _ _=>rfl,fun _ _ u _ _ hc _=>(nomatch (show(none:Option Value)=some u from hc))⟩
theorem InM.congr{w:World}{T M:Nat}{m:List (Pt×Value)}{f f':Pt→List Int}(h:InM w T M m f)(e: ∀c,f' c=f c):InM w T M m f':=by
 have:f'=f:=funext e;subst this;exact h
theorem InM.step{wa wb wc wd:World}{T M:Nat}{m:List (Pt×Value)}{f:Pt→List Int}{c:Pt}{j:Int}{v':Value}(h:InM wa T M m f)(g1:wa.grownBy wb (some M))
  (hf:Fate wb wc T 3 1 ((getK m c).getD nilV) v' (f c).length ((f c).map numC) [numC j]) (g2:wc.grownBy wd (some M)) (hM:MapOf encPt id wd M (putK m c v')) (hMb: ∃m',MapOf encPt (id:Value→Value) wb M m') (hMc: ∃m',MapOf encPt (id:Value→Value) wc M m') :
  InM wd T M (putK m c v') (fun d=>if d=c then f c ++ [j] else f d):=by
 obtain⟨mb,hMb⟩:=hMb;obtain⟨mc,hMc⟩:=hMc;have rb: ∀d v,getK m d=some v→wb.ownsRow T 3 1 v (f d).length ((f d).map numC):=fun d v hd=>ownGrown (h.row d v hd) g1 (Or.inr fun e=>ownMap (h.row d v hd) h.map e.symm);have key: ∀d v,d≠c→getK m d=some v → ∀r,v.ownBlock=some r→v'.ownBlock≠some r:=by
  intro d v hd hv r hr;obtain⟨-,g,cap,rfl,hh⟩:=hf;intro e;simp only[Value.ownBlock,Option.some.injEq] at e;subst e;rcases hh with⟨hu,-⟩|⟨hu,-⟩
  ·cases hc:getK m c with
   | none =>
    rw[hc] at hu;cases hu
   | some u =>
    rw[hc] at hu;change u=_ at hu;subst hu;exact h.sep d c _ _ hd hv hc g hr rfl
  ·have:=(own_typed (rb d v hv) hr);obtain⟨cs,hb⟩:=this;have:=hb.lt;omega
 have rc: ∀d v,d≠c→getK m d=some v→wc.ownsRow T 3 1 v (f d).length ((f d).map numC):=by
  intro d v hd hv;have k:=key d v hd hv;obtain⟨-,g,cap,rfl,hh⟩:=hf;rcases hh with⟨-,hg⟩|⟨-,hg⟩
  ·refine ownGrown (rb d v hv) hg ?_;cases ho:v.ownBlock with
   | none=>exact Or.inl rfl
   | some r =>
    right;intro e;exact k r ho e.symm
  ·refine ownGrown (rb d v hv) hg ?_;cases ho:v.ownBlock with
   | none=>exact Or.inl rfl
   | some r =>
    right;intro e;cases e
 refine⟨hM,?_,?_,?_⟩
 ·intro d v hd;rw[getK_putK] at hd;by_cases e:d=c
  ·rw[if_pos e] at hd ⊢;cases hd;have:=hf.1;have o2:=ownGrown this g2 (Or.inr fun e1=>ownMap this hMc e1.symm);rw[List.length_append,List.map_append];exact o2
  ·rw[if_neg e] at hd ⊢;have:=rc d v e hd;exact ownGrown this g2 (Or.inr fun e1=>ownMap this hMc e1.symm)
 ·intro d hd;rw[getK_putK] at hd;by_cases e:d=c
  ·rw[if_pos e] at hd;cases hd
  ·rw[if_neg e] at hd ⊢;exact h.nil d hd
 ·intro a b u v hab hu hv r hr;rw[getK_putK] at hu hv;by_cases ea:a=c
  ·rw[if_pos ea] at hu;cases hu;have eb:b≠c:=fun e=>hab (ea.trans e.symm);rw[if_neg eb] at hv;intro e;exact key b v eb hv r e hr
  ·rw[if_neg ea] at hu;by_cases eb:b=c
   ·rw[if_pos eb] at hv;cases hv;exact key a u ea hu r hr
   ·rw[if_neg eb] at hv;exact h.sep a b u v hab hu hv r hr
/-! ### the pairs that are keys -/
def Keys(m:List ((Int×Int)×Bool))(p:Int×Int→Prop):Prop:=(m.map (·.1)).Nodup ∧ ∀x,x∈m.map (·.1)↔p x
theorem getK_mem{K V:Type}[DecidableEq K](m:List (K×V))(x:K):x∈m.map (·.1)↔(getK m x).isSome=true:=by
 induction m with
 | nil=>simp[getK]
 | cons p m ih =>
  rw[List.map_cons,List.mem_cons];unfold getK;by_cases h:x=p.1
  ·simp[h]
  ·rw[if_neg h,←ih];simp[h]
theorem Keys.nil{p:Int×Int→Prop}(h: ∀x,¬p x):Keys [] p:=⟨List.nodup_nil,fun x=>by simp[h x]⟩
theorem Keys.put{m:List ((Int×Int)×Bool)}{p q:Int×Int→Prop}(h:Keys m p)(x:Int×Int)(b:Bool)(hq: ∀y,q y↔p y∨y=x):Keys (putK m x b) q:=by
 refine⟨putK_keys m x b h.1,fun y=> ?_⟩;rw[getK_mem,getK_putK,hq];by_cases e:y=x
 ·simp[e]
 ·rw[if_neg e,←getK_mem,h.2];simp[e]
theorem Keys.congr{m:List ((Int×Int)×Bool)}{p q:Int×Int→Prop}(h:Keys m p)(hq: ∀y,q y↔p y):Keys m q:=⟨h.1,fun y=>by rw[h.2,hq]⟩
theorem overL_asc(ks:List Knd)(bs:List Brk)(n:Nat):(overL ks bs n).Pairwise fun x y=>ltR x y=true:=by
 have inner: ∀k m,(rowO ks bs k m).Pairwise fun x y=>ltR x y=true:=by
  intro k m;unfold rowO;rw[List.pairwise_map];refine List.Pairwise.imp ?_ (List.Pairwise.filter _ List.pairwise_lt_range);intro a b hab;rw[ltR_iff];exact Or.inr ⟨rfl,Int.ofNat_lt.2 hab⟩
 unfold overL;rw[List.pairwise_flatMap];refine⟨fun k _=>inner _ _,?_⟩;refine List.Pairwise.imp ?_ List.pairwise_lt_range;intro a b hab x hx y hy;unfold rowO at hx hy;obtain⟨i,-,rfl⟩:=List.mem_map.1 hx;obtain⟨j,-,rfl⟩:=List.mem_map.1 hy;rw[ltR_iff];exact Or.inl (Int.ofNat_lt.2 hab)
theorem sortR_keys{ks:List Knd}{bs:List Brk}{m:List ((Int×Int)×Bool)}(h:Keys m (P0 ks bs bs.length)){l:List (Int×Int)}(hl:l.Perm (m.map (·.1))):sortR l=overL ks bs bs.length:=by
 have hnd:(overL ks bs bs.length).Nodup:=(overL_asc ks bs _).imp fun hxy e=>by
  subst e;rw[swoR.irrefl] at hxy;cases hxy
 have hp:(sortR l).Perm (overL ks bs bs.length):=by
  refine(List.mergeSort_perm _ _).trans (hl.trans ?_);exact(List.perm_ext_iff_of_nodup h.1 hnd).2 fun x=>by rw[h.2,mem_overL]
 have h1:(sortR l).Pairwise fun x y=>(!ltR y x)=true:=List.pairwise_mergeSort (fun a b c h k=>by
   rw[Bool.not_eq_true'] at *
   exact swoR.ntrans c b a k h) (fun a b=>by
   rw[Bool.or_eq_true,Bool.not_eq_true',Bool.not_eq_true'];cases e:ltR b a
   ·exact Or.inl rfl
   ·right;rw[ltR_not];rw[ltR_iff] at e
    omega) l
 have h2:(overL ks bs bs.length).Pairwise fun x y=>(!ltR y x)=true:=(overL_asc ks bs _).imp fun {a b} e=>by
  rw[Bool.not_eq_true',ltR_not];rw[ltR_iff] at e;omega
 refine List.Perm.eq_of_pairwise (le:=fun x y=>(!ltR y x)=true) ?_ h1 h2 hp;intro a b _ _ h k;rw[Bool.not_eq_true'] at h k;exact ltR_total a b k h
theorem keys_len{ks:List Knd}{bs:List Brk}{m:List ((Int×Int)×Bool)}(h:Keys m (P0 ks bs bs.length))(hn:bs.length≤40):m.length≤1600:=by
 have h0:=sortR_keys h (List.Perm.refl _);have:=congrArg List.length h0;unfold sortR at this;rw[List.length_mergeSort,List.length_map] at this;rw[this];exact Nat.le_trans (overL_len ks bs _) (Nat.le_trans (Nat.mul_le_mul hn hn) (by omega))
structure Lnk where
 a:Nat
 b:Nat
 knob:Nat
 other:Nat
 sort:Int
deriving instance DecidableEq for Lnk
def Lnk.cs(x:Lnk):List Value:= [.int .i64 x.a,.int .i64 x.b,.int .i64 x.knob,.int .i64 x.other,.int .u8 x.sort]
def Links(w:World)(A:Option Addr)(cap:Nat)(l:List Lnk):Prop:=SliceIs w A l.length cap 5 (l.map Lnk.cs)
theorem Links.ext{w w':World}{A:Option Addr}{cap:Nat}{l:List Lnk}(h:Links w A cap l)(e:Ext w w'):Links w' A cap l:=SliceIs.ext h e
theorem Links.len{w:World}{A:Option Addr}{cap:Nat}{l:List Lnk}(h:Links w A cap l):l.length≤maxLen:=Nat.le_trans h.le h.small
theorem Links.at_{w:World}{A:Option Addr}{cap:Nat}{l:List Lnk}(h:Links w A cap l){k:Nat}(hk:k<l.length) :
  ∃b off p,A=some ⟨b,off,none⟩∧l[k]? = some p∧b<w.heap.size∧w.cell? ⟨b,off+k*5,none⟩=some (.int .i64 p.a)∧w.cell? ⟨b,off+k*5+1,none⟩=some (.int .i64 p.b) ∧
   w.cell? ⟨b,off+k*5+2,none⟩=some (.int .i64 p.knob)∧w.cell? ⟨b,off+k*5+3,none⟩=some (.int .i64 p.other)∧w.cell? ⟨b,off+k*5+4,none⟩=some (.int .u8 p.sort):=by
 obtain⟨b,off,hA,hb,hc⟩:=SliceIs.cells h (by omega);have hget:l[k]? = some l[k]:=List.getElem?_eq_getElem hk;have hr:(l.map Lnk.cs)[k]? = some l[k].cs:=by rw[List.getElem?_map,hget];rfl
 exact⟨b,off,l[k],hA,hget,hb,hc k _ hr 0 _ rfl,hc k _ hr 1 _ rfl,hc k _ hr 2 _ rfl,hc k _ hr 3 _ rfl,hc k _ hr 4 _ rfl⟩
theorem links_nil(w:World):Links w none 0 []:=⟨rfl,Nat.le_refl _,Nat.zero_le _,by simp,fun h=>by cases h⟩
theorem lnk_wide(l:List Lnk): ∀r∈l.map Lnk.cs,r.length=5:=fun r h=>by
 obtain⟨p,_,rfl⟩:=List.mem_map.1 h;rfl
def bknobs(ks:List Knd)(b:Brk):List Knb:=placeK (kindAt ks b.kind.toNat).knobs b.turn.toNat b.at_
theorem bknobs_is{qs:List (Knd×KAt)}{b:Brk}{i tn:Nat}{k:Knd}{p:KAt}(h1:b.kind=i)(h2:b.turn=tn)(hi:qs[i]? = some (k,p)):bknobs (qs.map (·.1)) b=placeK k.knobs tn b.at_:=by
 unfold bknobs kindAt;rw[h1,h2];simp[hi]
def oddS(s:Int):Int:=s-(1-s % 2)
def oppD(d:Int):Int:=if d % 2=0 then d+1 else d-1
def meetB(a b:Knb):Bool:=(addP a.at_ (stepS a.dir.toNat)).eqB b.at_&&(decide (b.dir=oppD a.dir)&&(decide (a.sort≠b.sort)&&decide (oddS a.sort=oddS b.sort)))
theorem meetB_iff{a b:Knb}:meetB a b=true↔addP a.at_ (stepS a.dir.toNat)=b.at_∧b.dir=oppD a.dir∧a.sort≠b.sort∧oddS a.sort=oddS b.sort:=by
 simp only[meetB,Bool.and_eq_true,decide_eq_true_eq,Pt.eqB_iff]
/-! The reference's list. -/
def lkC(p q:List Knb)(a b i n:Nat):List Lnk:=(List.range n).filterMap fun k=>if meetB (knbAt p i) (knbAt q k) then some ⟨a,b,i,k,oddS (knbAt p i).sort⟩ else none
def lkI(p q:List Knb)(a b n:Nat):List Lnk:=(List.range n).flatMap fun i=>lkC p q a b i q.length
def lkB(ks:List Knd)(bs:List Brk)(a n:Nat):List Lnk:=(List.range n).flatMap fun b=>if a<b then lkI (bknobs ks (brkAt bs a)) (bknobs ks (brkAt bs b)) a b (bknobs ks (brkAt bs a)).length else []
def lkA(ks:List Knd)(bs:List Brk)(n:Nat):List Lnk:=(List.range n).flatMap fun a=>lkB ks bs a bs.length
def linkL(ks:List Knd)(bs:List Brk):List Lnk:=lkA ks bs bs.length
theorem lkC_succ(p q:List Knb)(a b i n:Nat):lkC p q a b i (n+1)=lkC p q a b i n++(if meetB (knbAt p i) (knbAt q n) then [⟨a,b,i,n,oddS (knbAt p i).sort⟩] else []):=by
 unfold lkC;rw[List.range_succ,List.filterMap_append];congr 1;cases h:meetB (knbAt p i) (knbAt q n) <;> simp[h]
theorem lkI_succ(p q:List Knb)(a b n:Nat):lkI p q a b (n+1)=lkI p q a b n++lkC p q a b n q.length:=by
 unfold lkI;rw[List.range_succ,List.flatMap_append];simp
theorem lkB_succ{ks:List Knd}{bs:List Brk}{a n:Nat}(h:a<n):lkB ks bs a (n+1)=lkB ks bs a n++lkI (bknobs ks (brkAt bs a)) (bknobs ks (brkAt bs n)) a n (bknobs ks (brkAt bs a)).length:=by
 unfold lkB;rw[List.range_succ,List.flatMap_append];simp[h]
theorem lkB_start(ks:List Knd)(bs:List Brk)(a:Nat):lkB ks bs a (a+1) = []:=by
 unfold lkB;rw[List.flatMap_eq_nil_iff];intro b hb;rw[if_neg (by have:=List.mem_range.1 hb;omega)]
theorem lkA_succ(ks:List Knd)(bs:List Brk)(n:Nat):lkA ks bs (n+1)=lkA ks bs n++lkB ks bs n bs.length:=by
 unfold lkA;rw[List.range_succ,List.flatMap_append];simp
theorem lkC_len(p q:List Knb)(a b i n:Nat):(lkC p q a b i n).length≤n:=by
 unfold lkC;exact Nat.le_trans (List.length_filterMap_le _ _) (by simp)
theorem flat_len{α:Type}(f:Nat→List α)(m:Nat): ∀n,(∀i,i<n→(f i).length≤m)→((List.range n).flatMap f).length≤n*m
 | 0,_=>by simp
 | n+1,h=>by
  rw[List.range_succ,List.flatMap_append,List.length_append,Nat.succ_mul];have h1:=flat_len f m n fun i hi=>h i (by omega);have h2:=h n (by omega);simp only[List.flatMap_cons,List.flatMap_nil,List.append_nil];omega
theorem lkI_len(p q:List Knb)(a b n:Nat):(lkI p q a b n).length≤n*q.length:=flat_len _ _ n fun i _=>lkC_len p q a b i q.length
theorem lkB_len{ks:List Knd}{bs:List Brk}{m:Nat}(hm: ∀i,i<bs.length→(bknobs ks (brkAt bs i)).length≤m){a:Nat}(ha:a<bs.length)(n:Nat)(hn:n≤bs.length):(lkB ks bs a n).length≤n*(m*m) :=
 flat_len _ _ n fun b hb=>by
  split
  ·exact Nat.le_trans (lkI_len _ _ _ _ _) (Nat.mul_le_mul (hm a ha) (hm b (by omega)))
  ·exact Nat.zero_le _
theorem lkA_len{ks:List Knd}{bs:List Brk}{m:Nat}(hm: ∀i,i<bs.length→(bknobs ks (brkAt bs i)).length≤m)(n:Nat)(hn:n≤bs.length):(lkA ks bs n).length≤n*(bs.length*(m*m)) :=
 flat_len _ _ n fun a ha=>lkB_len hm (by omega) _ (Nat.le_refl _)
structure IsLnk(ks:List Knd)(bs:List Brk)(x:Lnk):Prop where
 ab:x.a<x.b
 b:x.b<bs.length
 k:x.knob<(bknobs ks (brkAt bs x.a)).length
 o:x.other<(bknobs ks (brkAt bs x.b)).length
 m:meetB (knbAt (bknobs ks (brkAt bs x.a)) x.knob) (knbAt (bknobs ks (brkAt bs x.b)) x.other)=true
 s:x.sort=oddS (knbAt (bknobs ks (brkAt bs x.a)) x.knob).sort
theorem mem_linkL{ks:List Knd}{bs:List Brk}{x:Lnk}:x∈linkL ks bs↔IsLnk ks bs x:=by
 unfold linkL lkA lkB lkI lkC;constructor
 ·intro h;obtain⟨a,ha,h⟩:=List.mem_flatMap.1 h;obtain⟨b,hb,h⟩:=List.mem_flatMap.1 h
  split at h
  rotate_left
  ·cases h
  rename_i hab;obtain⟨i,hi,h⟩:=List.mem_flatMap.1 h;obtain⟨k,hk,h⟩:=List.mem_filterMap.1 h
  split at h
  rotate_left
  ·cases h
  rename_i hm;cases h;exact⟨hab,List.mem_range.1 hb,List.mem_range.1 hi,List.mem_range.1 hk,hm,rfl⟩
 ·rintro⟨h1,h2,h3,h4,h5,h6⟩;refine List.mem_flatMap.2 ⟨x.a,List.mem_range.2 (by omega),List.mem_flatMap.2 ⟨x.b,List.mem_range.2 h2,?_⟩⟩;rw[if_pos h1];refine List.mem_flatMap.2 ⟨x.knob,List.mem_range.2 h3,List.mem_filterMap.2 ⟨x.other,List.mem_range.2 h4,?_⟩⟩;rw[if_pos h5,←h6]
def ltK(x y:Lnk):Bool:=decide (x.a<y.a)||(decide (x.a=y.a)&&(decide (x.b<y.b)||(decide (x.b=y.b)&&decide (x.knob<y.knob))))
theorem ltK_iff{x y:Lnk}:ltK x y=true↔x.a<y.a∨(x.a=y.a∧(x.b<y.b∨(x.b=y.b∧x.knob<y.knob))):=by simp[ltK]
theorem ltK_not{x y:Lnk}:ltK x y=false ↔ ¬(x.a<y.a∨(x.a=y.a∧(x.b<y.b∨(x.b=y.b∧x.knob<y.knob)))):=by rw[←Bool.not_eq_true,ltK_iff]
def LtO(x y:Lnk):Prop:=x.a<y.a∨(x.a=y.a∧(x.b<y.b∨(x.b=y.b∧(x.knob<y.knob∨(x.knob=y.knob∧x.other<y.other)))))
theorem range_lt{α:Type}{R:α→α→Prop}{f:Nat→List α}{n:Nat}(h1: ∀i,i<n→(f i).Pairwise R)(h2: ∀i j,i<j → ∀x∈f i,∀y∈f j,R x y):((List.range n).flatMap f).Pairwise R:=by
 rw[List.pairwise_flatMap];exact⟨fun i hi=>h1 i (List.mem_range.1 hi),List.pairwise_lt_range.imp fun {i j} hij x hx y hy=>h2 i j hij x hx y hy⟩
theorem lkC_mem{p q:List Knb}{a b i n:Nat}{x:Lnk}(h:x∈lkC p q a b i n):x.a=a∧x.b=b∧x.knob=i∧x.other<n:=by
 obtain⟨k,hk,h⟩:=List.mem_filterMap.1 h
 split at h
 ·cases h;exact⟨rfl,rfl,rfl,List.mem_range.1 hk⟩
 ·cases h
theorem lkI_mem{p q:List Knb}{a b n:Nat}{x:Lnk}(h:x∈lkI p q a b n):x.a=a∧x.b=b:=by
 obtain⟨i,-,h⟩:=List.mem_flatMap.1 h;exact⟨(lkC_mem h).1,(lkC_mem h).2.1⟩
theorem lkB_mem{ks:List Knd}{bs:List Brk}{a n:Nat}{x:Lnk}(h:x∈lkB ks bs a n):x.a=a:=by
 obtain⟨b,-,h⟩:=List.mem_flatMap.1 h
 split at h
 ·exact(lkI_mem h).1
 ·cases h
theorem linkL_ltO(ks:List Knd)(bs:List Brk):(linkL ks bs).Pairwise LtO:=by
 refine range_lt (fun a _=>range_lt (fun b _=> ?_) ?_) ?_
 ·split
  rotate_left
  ·exact List.Pairwise.nil
  refine range_lt (fun i _=> ?_) ?_
  ·unfold lkC;rw[List.pairwise_filterMap];refine List.pairwise_lt_range.imp fun {k l} hkl x hx y hy=> ?_
   split at hx <;> split at hy
   ·cases hx;cases hy;exact Or.inr ⟨rfl,Or.inr ⟨rfl,Or.inr ⟨rfl,hkl⟩⟩⟩
   all_goals (first|(cases hy;done)|(cases hx;done))
  ·intro i j hij x hx y hy;obtain⟨h1,h2,h3,-⟩:=lkC_mem hx;obtain⟨k1,k2,k3,-⟩:=lkC_mem hy;exact Or.inr ⟨by omega,Or.inr ⟨by omega,Or.inl (by omega)⟩⟩
 ·intro b c hbc x hx y hy
  split at hx
  rotate_left
  ·cases hx
  split at hy
  rotate_left
  ·cases hy
  obtain⟨h1,h2⟩:=lkI_mem hx;obtain⟨k1,k2⟩:=lkI_mem hy;exact Or.inr ⟨by omega,Or.inl (by omega)⟩
 ·intro a b hab x hx y hy;have:=lkB_mem hx;have:=lkB_mem hy;exact Or.inl (by omega)
theorem linkL_nodup(ks:List Knd)(bs:List Brk):(linkL ks bs).Nodup:=(linkL_ltO ks bs).imp fun {x y} h e=>by
 subst e;unfold LtO at h;omega
theorem insNil(v:Value)(w:World):Calls Tryz.prog 158 #[.slice none 0 0,.int .i64 0,.int .i64 0,v] w fun e w'=>e = .returned (.tuple #[])∧w=w':=by
 go_enter Tryz.func158,Tryz.ntmps158;go_wp2_with fail;go_loopw [8] (fun i wr=>i = .int .i64 1∧wr=w) (fun _ _=>0)
 case atStart=>exact⟨rfl,rfl⟩
 case round =>
  obtain⟨rfl,rfl⟩:=hrel;go_wp2_with fail
  go_end0
  exact⟨rfl,rfl⟩
theorem pdqNil(v:Value)(w:World):Calls Tryz.prog 140 #[.slice none 0 0,.int .i64 0,.int .i64 0,.int .i64 0,v] w fun e w'=>e = .returned (.tuple #[])∧w=w':=by
 go_enter Tryz.func140,Tryz.ntmps140;go_wp2_with fail;go_loopw [1,2] (fun a b wr=>a = .int .i64 0∧b = .int .i64 0∧wr=w) (fun _ _ _=>0)
 case atStart=>exact⟨rfl,rfl,rfl⟩
 case round =>
  obtain⟨rfl,rfl,rfl⟩:=hrel;go_wp2_with fail;refine(insNil v wr).mono ?_;rintro e w1 ⟨rfl,rfl⟩;go_wp2_with fail;exact bodyPost_ret (v:= .tuple #[]) (results_none rfl _ _ _) rfl ⟨rfl,rfl⟩
theorem sortNil_c(v:Value)(w:World):Calls Tryz.prog 108 #[.slice none 0 0,v] w fun e w'=>e = .returned (.tuple #[])∧w=w':=by
 have hl:=Any.bits_Len (SlLaysF0.n15.bits (P:=Tryz.prog) (ρ:=sortPairs_ren) { sortPairs with }) 0 w (by omega) (by omega);go_enter Tryz.func108,Tryz.ntmps108;have hl':Calls Tryz.prog 141 #[.int .u64 0] w fun e w'=>e = .returned (.int .i64 0)∧w'=w:=hl;clear hl;go_wp2_with fail;refine hl'.mono ?_;rintro e w1 ⟨rfl,rfl⟩;go_wp2_with fail;refine(pdqNil v w1).mono ?_;rintro e w2 ⟨rfl,rfl⟩;go_wp2_with fail
 go_end0
 exact⟨rfl,rfl⟩
theorem modelErr_zero{ks:List Knd}{bs:List Brk}(h:modelErr ks bs=0):kindsErr ks=0 ∧ ¬40<bs.length∧askedErr ks bs=0:=by
 have h0:kindsErr ks=0:=by
  by_cases h0:kindsErr ks=0
  ·exact h0
  ·rw[modelErr_kinds h0] at h;exact h
 have h1: ¬40<bs.length:=fun h1=>by
  rw[modelErr_many h0 h1] at h;cases h
 exact⟨h0,h1,by rw[←modelErr_few h0 h1,h]⟩
theorem prsBad{ks:List Knd}{bs:List Brk}{r:Int}(h:modelErr ks bs=r)(h0:r≠0){w w':World}(E:Ext w w'):PrsRes (ovRes ks bs) (modelErr ks bs) w (.returned (.tuple #[.slice none 0 0,.int .i64 r])) w':=by
 have Ho:ovRes ks bs = []:=by rw[ovRes,if_neg (by rw[h];exact h0)]
 unfold PrsRes;rw[Ho,h];exact⟨none,0,rfl,prs_nil _,E⟩
theorem overlapsE_c(qs:List (Knd×KAt))(QA:Option Addr)(qc:Nat)(bs:List Brk)(B:Option Addr)(cb:Nat)(w:World)(hk:Kinds w QA qc qs)(hb:Bricks w B cb bs)(h0:modelErr (qs.map (·.1)) bs≠0) :
  Calls Tryz.prog 74 #[.slice QA qs.length qc,.agg #[.slice B bs.length cb]] w (PrsRes (ovRes (qs.map (·.1)) bs) (modelErr (qs.map (·.1)) bs) w):=by
 have hbn:bs.length≤9223372036854775807:=by have:=hb.len;unfold maxLen at this;omega
 obtain⟨W1,hW1,E1,B1,hz1⟩:=mk_ w #[.slice B bs.length cb] 25;have b1:=B1.cell;have HE:=h_ E1;clear hz1;have CK:=checkKinds_c qs QA qc W1 (hk.ext E1);have CC:=h_ (fun W (E:Ext w W)=>check_c qs QA qc bs B cb W (hk.ext E) (hb.ext E));have HB:=h_ (fun(r:Int) (h:modelErr (qs.map (·.1)) bs=r) (h1:r≠0) W (E:Ext w W)=>prsBad (w:=w) (w':=W) h h1 E);have HK:=h_ (fun(r:Int) (h:kindsErr (qs.map (·.1))=r) (h1:r≠0)=>show modelErr (qs.map (·.1)) bs=r by rw[modelErr_kinds (by rw[h];exact h1),h]);have HM:=h_ (fun(h:kindsErr (qs.map (·.1))=0) (h1:40<bs.length)=>modelErr_many (bs:=bs) h h1);have HF:=h_ (fun(h:kindsErr (qs.map (·.1))=0) (h1: ¬40<bs.length)=>modelErr_few (bs:=bs) h h1);have H0:=h_ h0;clear hk hb h0;obtain⟨G,hG⟩: ∃G:Ending→World→Prop,PrsRes (ovRes (qs.map (·.1)) bs) (modelErr (qs.map (·.1)) bs) w=G:=⟨_,rfl⟩;rw[hG] at HB ⊢;clear hG;obtain⟨r,hr⟩:=nm (kindsErr (qs.map (·.1)));rw[hr] at CK HM HF;by_cases hr0:r=0
 ·subst hr0;by_cases hm:40<bs.length
  ·have Hm:=h_ (HM.out rfl hm);have hm':(40:Int)<bs.length:=by omega
   clear hm hr HK HF;go_enter Tryz.func74,Tryz.ntmps74;go_wp2_with fail;refine CK.mono ?_;rintro e W2 ⟨rfl,E2⟩;have b2:=(B1.ext E2).cell;go_wp2_with fail;exact HB.out 4 Hm.out (by decide) _ (HE.out.trans E2)
  ·have Hm:=h_ (HF.out rfl hm);obtain⟨s,hs⟩:=nm (askedErr (qs.map (·.1)) bs);rw[hs] at CC Hm;have hs0:s≠0:=by
    rintro rfl;exact H0.out Hm.out
   have Hs0:=h_ hs0;have hm': ¬(40:Int)<bs.length:=by omega
   have hs1:(s != 0)=true:=by simpa using hs0
   clear hm hr hs HK HF hs0;go_enter Tryz.func74,Tryz.ntmps74;go_wp2_with fail;refine CK.mono ?_;rintro e W2 ⟨rfl,E2⟩;have b2:=(B1.ext E2).cell;go_wp2_with fail;refine(CC.out _ (HE.out.trans E2)).mono ?_;rintro e W3 ⟨rfl,E3⟩;go_wp2_with fail;exact HB.out _ Hm.out Hs0.out _ ((HE.out.trans E2).trans E3)
 ·have Hr:=h_ (HK.out r hr hr0);have Hr0:=h_ hr0;have h1:(r != 0)=true:=by simpa using hr0
  clear hr hr0 HM HF;go_enter Tryz.func74,Tryz.ntmps74;go_wp2_with fail;refine CK.mono ?_;rintro e W2 ⟨rfl,E2⟩;go_wp2_with fail;exact HB.out _ Hr.out Hr0.out _ (HE.out.trans E2)
end Go.Proofs.YtojolpbpjimfgaaGreatDoor
