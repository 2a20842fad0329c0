/- Texts of the proof: OvN, MapE, Sort2Laid. -/
import Derived.Test.YtojolpbpjimfgaaGreatDoorZy7
import Derived.Test.YtojolpbpjimfgaaGreatDoorZy12
import Derived.Maps.RangeRun
import Derived.Maps.RangeWalk
import Derived.Shelf.SlLaysF0
import Derived.Test.YtojolpbpjimfgaaGreatDoorProg
namespace Go.Proofs.YtojolpbpjimfgaaGreatDoor
open Go.RowKit
theorem rotZ_inj{p q:Pt}(h:rotZ p=rotZ q):p=q:=by
 obtain⟨a,b,c⟩:=p;obtain⟨d,e,f⟩:=q;unfold rotZ at h;simp only[Pt.mk.injEq] at h ⊢;omega
theorem rotZn_inj{p q:Pt}: ∀n,rotZn p n=rotZn q n→p=q
 | 0,h=>h
 | n+1,h=>rotZn_inj n (rotZ_inj h)
theorem turnQ_inj{p q:Pt}(n:Nat)(h:turnQ p n=turnQ q n):p=q:=by
 obtain⟨a,b,c⟩:=p;obtain⟨d,e,f⟩:=q;unfold turnQ at h
 split at h <;> simp only[Pt.mk.injEq] at h ⊢ <;> omega
theorem turnS_inj{p q:Pt}(n:Nat)(h:turnS p n=turnS q n):p=q:=rotZn_inj _ (turnQ_inj _ h)
theorem addP_inj{p q r:Pt}(h:addP p r=addP q r):p=q:=by
 obtain⟨a,b,c⟩:=p;obtain⟨d,e,f⟩:=q;unfold addP at h;simp only[Pt.mk.injEq] at h ⊢;omega
theorem placeP_nodup{l:List Pt}(h:l.Nodup)(n:Nat)(p:Pt):(placeP l n p).Nodup:=by
 unfold placeP;rw[List.Nodup,List.pairwise_map];exact h.imp fun hne e=>hne (turnS_inj n (addP_inj e))
theorem cells_nodup{l:List Pt}(h:cellsB l=true):l.Nodup:=by
 have step: ∀i,i+1<l.length→ltP (ptAt l i) (ptAt l (i+1))=true:=fun i hi=>by
  have:=allR_at h hi;unfold cellOk at this;rw[Bool.and_eq_true,Bool.or_eq_true] at this;rcases this.2 with h' | h'
  ·exact absurd (of_decide_eq_true h') (by omega)
  ·exact h'
 have far: ∀d i,i+d+1<l.length→ltP (ptAt l i) (ptAt l (i+d+1))=true:=by
  intro d
  induction d with
  | zero=>exact fun i hi=>step i hi
  | succ d ih=>exact fun i hi=>ltP_trans (ih i (by omega)) (step (i+d+1) hi)
 rw[List.Nodup,List.pairwise_iff_getElem];intro i j hi hj hij e;have:=far (j-i-1) i (by omega);rw[show i+(j-i-1)+1=j by omega,ptAt_eq (List.getElem?_eq_getElem hi),ptAt_eq (List.getElem?_eq_getElem hj),e,ltP_irrefl] at this;cases this
theorem bcells_nodup{w:World}{QA:Option Addr}{qc:Nat}{qs:List (Knd×KAt)}(hk:Kinds w QA qc qs){bs:List Brk}(hb: ∀b∈bs,b.byte)(h:modelErr (qs.map (·.1)) bs=0){b:Brk}(hm:b∈bs):(bcells (qs.map (·.1)) b).Nodup:=by
 have hf:=mfine_of hk hb h;obtain⟨i,tn,k,p,e1,e2,-,hi,-,-,-⟩:=hf.b b hm;rw[bcells_is e1 e2 hi];have h0:kindsErr (qs.map (·.1))=0:=by
  by_cases h0:kindsErr (qs.map (·.1))=0
  ·exact h0
  ·rw[modelErr_kinds h0] at h;exact h
 have hv:=kindsErr_valid h0 (List.mem_map.2 ⟨_,List.mem_of_getElem? hi,rfl⟩);unfold Knd.valid at hv;simp only[Bool.and_eq_true] at hv;exact(sortP_perm _).nodup_iff.2 (placeP_nodup (cells_nodup hv.2.1) _ _)
def inA(ks:List Knd)(bs:List Brk)(j:Nat)(c:Pt):List Int:=((List.range j).filter fun i=>hasP (bcells ks (brkAt bs i)) c).map fun(i:Nat)=>(i:Int)
def inF(ks:List Knd)(bs:List Brk)(j q:Nat)(c:Pt):List Int:=inA ks bs j c++if hasP ((bcells ks (brkAt bs j)).take q) c then [(j:Int)] else []
theorem inF_zero(ks:List Knd)(bs:List Brk)(j:Nat)(c:Pt):inF ks bs j 0 c=inA ks bs j c:=by
 unfold inF;rw[List.take_zero,if_neg (by rw[hasP_iff];simp),List.append_nil]
theorem inF_all(ks:List Knd)(bs:List Brk)(j:Nat)(c:Pt):inF ks bs j (bcells ks (brkAt bs j)).length c=inA ks bs (j+1) c:=by
 unfold inF inA;rw[List.take_length,List.range_succ,List.filter_append,List.map_append];congr 1;cases h:hasP (bcells ks (brkAt bs j)) c
 ·simp[h]
 ·simp[h]
theorem inF_step{ks:List Knd}{bs:List Brk}{j q:Nat}{c:Pt}(hc:(bcells ks (brkAt bs j))[q]? = some c)(hn:(bcells ks (brkAt bs j)).Nodup)(d:Pt):inF ks bs j (q+1) d=if d=c then inF ks bs j q c ++ [(j:Int)] else inF ks bs j q d:=by
 unfold inF;rw[List.take_add_one,hc];by_cases hd:d=c
 ·subst hd;have h0:hasP ((bcells ks (brkAt bs j)).take q) d=false:=by
   rw[←Bool.not_eq_true,hasP_iff];intro hm;obtain⟨i,hi⟩:=List.getElem?_of_mem hm;have hiq:i<q:=by
    have:=(List.getElem?_eq_some_iff.1 hi).1;rw[List.length_take] at this;omega
   rw[List.getElem?_take_of_lt hiq] at hi;obtain⟨h1,e1⟩:=List.getElem?_eq_some_iff.1 hi;obtain⟨h2,e2⟩:=List.getElem?_eq_some_iff.1 hc;exact List.pairwise_iff_getElem.1 hn i q h1 h2 hiq (by rw[e1,e2])
  have h1:hasP ((bcells ks (brkAt bs j)).take q++(some d).toList) d=true:=by
   rw[hasP_iff];simp
  rw[if_pos rfl,h0,h1];simp
 ·rw[if_neg hd];congr 2;rw[Bool.eq_iff_iff,hasP_iff,hasP_iff];simp[hd]
theorem inA_mem{ks:List Knd}{bs:List Brk}{j:Nat}{c:Pt}{x:Int}:x∈inA ks bs j c ↔ ∃k:Nat,x=k∧k<j∧c∈bcells ks (brkAt bs k):=by
 unfold inA;rw[List.mem_map];constructor
 ·rintro⟨k,hk,rfl⟩;obtain⟨h1,h2⟩:=List.mem_filter.1 hk;exact⟨k,rfl,List.mem_range.1 h1,hasP_iff.1 h2⟩
 ·rintro⟨k,rfl,h1,h2⟩;exact⟨k,List.mem_filter.2 ⟨List.mem_range.2 h1,hasP_iff.2 h2⟩,rfl⟩
theorem inA_len(ks:List Knd)(bs:List Brk)(j:Nat)(c:Pt):(inA ks bs j c).length≤j:=by
 unfold inA;rw[List.length_map];exact Nat.le_trans (List.length_filter_le _ _) (by simp)
/-! Which pairs are there. -/
def P0(ks:List Knd)(bs:List Brk)(j:Nat)(p:Int×Int):Prop:= ∃k i:Nat,p=((k:Int),(i:Int))∧k<i∧i<j∧overB ks bs k i=true
def P1(ks:List Knd)(bs:List Brk)(j q:Nat)(p:Int×Int):Prop:=P0 ks bs j p ∨ ∃k:Nat,p=((k:Int),(j:Int))∧k<j ∧ ∃c,c∈(bcells ks (brkAt bs j)).take q∧c∈bcells ks (brkAt bs k)
def P2(ks:List Knd)(bs:List Brk)(j q:Nat)(l:List Int)(t:Nat)(p:Int×Int):Prop:=P1 ks bs j q p ∨ ∃x,x∈l.take t∧p=(x,(j:Int))
theorem P1_zero{ks:List Knd}{bs:List Brk}{j:Nat}{p:Int×Int}:P1 ks bs j 0 p↔P0 ks bs j p:=by
 unfold P1;constructor
 ·rintro(h|⟨k,-,-,c,hc,-⟩)
  ·exact h
  ·simp at hc
 ·exact Or.inl
theorem P1_all{ks:List Knd}{bs:List Brk}{j:Nat}{p:Int×Int}:P1 ks bs j (bcells ks (brkAt bs j)).length p↔P0 ks bs (j+1) p:=by
 unfold P1 P0;rw[List.take_length];constructor
 ·rintro(⟨k,i,h1,h2,h3,h4⟩|⟨k,h1,h2,c,h3,h4⟩)
  ·exact⟨k,i,h1,h2,by omega,h4⟩
  ·exact⟨k,j,h1,h2,by omega,commonB_iff.2 ⟨c,h4,h3⟩⟩
 ·rintro⟨k,i,h1,h2,h3,h4⟩;rcases Nat.lt_or_ge i j with h5|h5
  ·exact Or.inl ⟨k,i,h1,h2,h5,h4⟩
  ·obtain rfl:i=j:=by omega
   obtain⟨c,h6,h7⟩:=commonB_iff.1 h4;exact Or.inr ⟨k,h1,h2,c,h7,h6⟩
theorem P2_zero{ks:List Knd}{bs:List Brk}{j q:Nat}{l:List Int}{p:Int×Int}:P2 ks bs j q l 0 p↔P1 ks bs j q p:=by
 unfold P2;simp
theorem P2_succ{ks:List Knd}{bs:List Brk}{j q:Nat}{l:List Int}{t:Nat}{x:Int}(hx:l[t]? = some x){p:Int×Int}:P2 ks bs j q l (t+1) p↔P2 ks bs j q l t p∨p=(x,(j:Int)):=by
 unfold P2;rw[List.take_add_one,hx];constructor
 ·rintro(h|⟨y,h1,h2⟩)
  ·exact Or.inl (Or.inl h)
  ·simp only[Option.toList_some,List.mem_append,List.mem_singleton] at h1;rcases h1 with h1|rfl
   ·exact Or.inl (Or.inr ⟨y,h1,h2⟩)
   ·exact Or.inr h2
 ·rintro((h|⟨y,h1,h2⟩)|h)
  ·exact Or.inl h
  ·exact Or.inr ⟨y,List.mem_append.2 (Or.inl h1),h2⟩
  ·exact Or.inr ⟨x,List.mem_append.2 (Or.inr (by simp)),h⟩
theorem P2_all{ks:List Knd}{bs:List Brk}{j q:Nat}{c:Pt}(hc:(bcells ks (brkAt bs j))[q]? = some c){l:List Int}(hl:l=inA ks bs j c){p:Int×Int}:P2 ks bs j q l l.length p↔P1 ks bs j (q+1) p:=by
 unfold P2 P1;rw[List.take_length,List.take_add_one,hc];constructor
 ·rintro((h|⟨k,h1,h2,d,h3,h4⟩)|⟨x,h1,h2⟩)
  ·exact Or.inl h
  ·exact Or.inr ⟨k,h1,h2,d,List.mem_append.2 (Or.inl h3),h4⟩
  ·rw[hl] at h1;obtain⟨k,rfl,h3,h4⟩:=inA_mem.1 h1;exact Or.inr ⟨k,h2,h3,c,List.mem_append.2 (Or.inr (by simp)),h4⟩
 ·rintro(h|⟨k,h1,h2,d,h3,h4⟩)
  ·exact Or.inl (Or.inl h)
  ·simp only[Option.toList_some,List.mem_append,List.mem_singleton] at h3;rcases h3 with h3|rfl
   ·exact Or.inl (Or.inr ⟨k,h1,h2,d,h3,h4⟩)
   ·exact Or.inr ⟨k,by rw[hl];exact inA_mem.2 ⟨k,rfl,h2,h4⟩,h1⟩
theorem mem_overL{ks:List Knd}{bs:List Brk}{p:Int×Int}:p∈overL ks bs bs.length↔P0 ks bs bs.length p:=by
 unfold overL P0 rowO;rw[List.mem_flatMap];constructor
 ·rintro⟨k,h1,h2⟩;obtain⟨i,h3,rfl⟩:=List.mem_map.1 h2;obtain⟨h4,h5⟩:=List.mem_filter.1 h3;rw[Bool.and_eq_true,decide_eq_true_eq] at h5;exact⟨k,i,rfl,h5.1,List.mem_range.1 h4,h5.2⟩
 ·rintro⟨k,i,rfl,h1,h2,h3⟩;exact⟨k,List.mem_range.2 (by omega),List.mem_map.2 ⟨i,List.mem_filter.2 ⟨List.mem_range.2 h2,by rw[Bool.and_eq_true,decide_eq_true_eq];exact⟨h1,h3⟩⟩,rfl⟩⟩
section
variable {P:Program} {k:TypeId} {K V:Type} {enc:K→Value} {ev:V→Value} [DecidableEq K]
def EntOf(enc:K→Value)(ev:V→Value)(w:World)(b:Nat)(m:List (K×V))(x:K)(born:Nat):Prop :=
 ∃es clock,w.heap[b]? = some (.map es clock)∧es.toList.map (fun e=>(e.key,e.val))=m.map (fun p=>(enc p.1,ev p.2))∧(∀e∈es.toList,e.born<clock)∧(es.toList.map (·.born)).Nodup ∧
  ∃j e0 u,es.toList[j]? = some e0∧e0.born=born∧m[j]? = some (x,u)∧(∀v,putK m x v=m.set j (x,v))
theorem EntOf.grown{w w':World}{b:Nat}{m:List (K×V)}{x:K}{born:Nat}{row:Option Nat}(h:EntOf enc ev w b m x born)(g:w.grownBy w' row)(hr:some b≠row):EntOf enc ev w' b m x born:=by
 obtain⟨es,clock,hb,r⟩:=h;have hlt:=(Array.getElem?_eq_some_iff.1 hb).1;exact⟨es,clock,(g.block b hlt hr).trans hb,r⟩
theorem EntOf.lt{w:World}{b:Nat}{m:List (K×V)}{x:K}{born:Nat}(h:EntOf enc ev w b m x born):b<w.heap.size:=by
 obtain⟨es,clock,hb,_⟩:=h;exact(Array.getElem?_eq_some_iff.1 hb).1
theorem entry_run(E:KeyEnc P k enc){t e:TypeId}(ht:P.underlying t=some (.map k e)){w:World}{z:V}(hz:(zeroValue e).run P w = .ok (ev z) w){b:Nat}{m:List (K×V)}(h:MapOf enc ev w b m)(x:K) :
  ∃w' born,(Instr.mapEntry t (.map (some b)) (enc x)).run P w = .ok (.tuple #[ev ((getK m x).getD z),.int .i64 (born:Nat)]) w'∧EntOf enc ev w' b (putK m x ((getK m x).getD z)) x born∧w.grownBy w' (some b)∧w'.heap.size=w.heap.size:=by
 obtain⟨es,clock,hb,hm,hs1,hs2⟩:=h;have hf:=find_run E w x es.toList m 0 hm;rw[←run_findKey_eq w E.wide] at hf;have grown: ∀o,w.grownBy (ChangeMaps.setBlock w b o) (some b):=fun o=>⟨rfl,rfl,rfl,by simp[ChangeMaps.setBlock],fun i _ hi=>ChangeMaps.heap_setBlock_other hb _ (fun e=>hi (by rw[e]))⟩;have hsz: ∀o,(ChangeMaps.setBlock w b o).heap.size=w.heap.size:=fun o=>by simp[ChangeMaps.setBlock]
 have hlen:es.toList.length=m.length:=by
  have:=congrArg List.length hm
  simpa using this
 cases hl:lookAt m x 0 with
 | none =>
  rw[hl] at hf;have hg:getK m x=none:=by rw[←lookAt_getK m x 0,hl];rfl
  refine⟨ChangeMaps.setBlock w b (.map (es.push { key:=enc x,val:=ev z,born:=clock }) (clock+1)),clock,?_,⟨_,_,ChangeMaps.heap_setBlock_same hb _,?_,?_,?_,m.length,{ key:=enc x,val:=ev z,born:=clock },z,?_,rfl,?_,?_⟩,grown _,hsz _⟩
  ·simp[Instr.mapEntry,run_underlying ht,MapKept.run_getObj_map hb,E.check,hf,hz,hg,MapKept.run_setObj_map _ hb,Result.andThen,ChangeMaps.setBlock,goInt]
  ·rw[hg,lookAt_none hl];simp[hm]
  ·intro y hy;simp only[Array.toList_push,List.mem_append,List.mem_singleton] at hy;rcases hy with hy|rfl
   ·exact Nat.lt_succ_of_lt (hs1 y hy)
   ·exact Nat.lt_succ_self _
  ·simp only[Array.toList_push,List.map_append,List.map_cons,List.map_nil];refine List.nodup_append.2 ⟨hs2,by simp,?_⟩;intro a ha b hb;simp only[List.mem_singleton] at hb;subst hb;obtain⟨y,hy,rfl⟩:=List.mem_map.1 ha;exact Nat.ne_of_lt (hs1 y hy)
  ·rw[←hlen];simp
  ·rw[hg,lookAt_none hl];simp
  ·intro v;rw[hg];rw[lookAt_none hl];have h2:lookAt (m ++ [(x,(none:Option V).getD z)]) x 0=some (m.length,z):=by
    have key: ∀(m:List (K×V)) (i:Nat),lookAt m x i=none→lookAt (m ++ [(x,z)]) x i=some (i+m.length,z):=by
     intro m
     induction m with
     | nil=>intro i _;simp[lookAt]
     | cons p m ih =>
      intro i hi;unfold lookAt at hi
      split at hi
      ·cases hi
      ·rename_i hne;show(if x=p.1 then _ else lookAt (m ++ [(x,z)]) x (i+1))=_
       rw[if_neg hne,ih _ hi,List.length_cons];congr 2;omega
    have:=key m 0 hl;rwa [Nat.zero_add] at this
   obtain⟨j,hj,_,h3⟩:=lookAt_some h2 v;rw[h3,hj,Nat.zero_add]
 | some r =>
  obtain⟨j,u⟩:=r;rw[hl] at hf;have hg:getK m x=some u:=by rw[←lookAt_getK m x 0,hl];rfl
  obtain⟨j',hj',h1,h2⟩:=lookAt_some hl u;obtain rfl:j=j':=by omega
  have hjl:j<es.toList.length:=by
   rw[hlen];exact(List.getElem?_eq_some_iff.1 h1).1
  obtain⟨e0,hej⟩: ∃e0,es.toList[j]? = some e0:=⟨_,List.getElem?_eq_getElem hjl⟩;have hjm:(es.toList.map (fun e=>(e.key,e.val)))[j]? = some (enc x,ev u):=by
   rw[hm,List.getElem?_map,h1];rfl
  have hkey:e0.key=enc x:=by
   rw[List.getElem?_map,hej] at hjm;simp only[Option.map_some,Option.some.injEq,Prod.mk.injEq] at hjm;exact hjm.1
  have hej':es[j]? = some e0:=by rw[←hej];simp
  have hput:putK m x u=m:=by
   rw[h2];exact List.ext_getElem? fun i=>by
    by_cases e:j=i
    ·subst e;rw[List.getElem?_set_self (List.getElem?_eq_some_iff.1 h1).1,h1]
    ·rw[List.getElem?_set_ne e]
  have hlist:(es.modify j (fun e'=>{ e' with key:=enc x })).toList=es.toList:=by
   rw[Array.toList_modify,ChangeMaps.modify_eq_set _ _ _ _ hej];exact List.ext_getElem? fun i=>by
    by_cases e:j=i
    ·subst e;rw[List.getElem?_set_self hjl,hej,←hkey]
    ·rw[List.getElem?_set_ne e]
  refine⟨ChangeMaps.setBlock w b (.map (es.modify j (fun e'=>{ e' with key:=enc x })) clock),e0.born,?_,⟨_,_,ChangeMaps.heap_setBlock_same hb _,?_,?_,?_,j,e0,u,by rw[hlist];exact hej,rfl,?_,?_⟩,grown _,hsz _⟩
  ·simp[Instr.mapEntry,run_underlying ht,MapKept.run_getObj_map hb,E.check,hf,hg,hej',hkey,Instr.keyThatStays,E.same,MapKept.run_setObj_map _ hb,Result.andThen,ChangeMaps.setBlock,goInt]
  ·rw[hlist,hg];show _=(putK m x u).map _
   rw[hput];exact hm
  ·rw[hlist];exact hs1
  ·rw[hlist];exact hs2
  ·rw[hg];show(putK m x u)[j]? = _
   rw[hput];exact h1
  ·intro v;rw[hg];show putK (putK m x u) x v=(putK m x u).set j (x,v)
   rw[hput];obtain⟨j',hj',_,h3⟩:=lookAt_some hl v;obtain rfl:j=j':=by omega
   exact h3
theorem store_run{w:World}{b:Nat}{m:List (K×V)}{x:K}{born:Nat}(h:EntOf enc ev w b m x born)(t:TypeId)(v:V) :
  ∃w',(Instr.entryStore t (.map (some b)) (.int .i64 (born:Nat)) (ev v)).run P w = .ok () w'∧MapOf enc ev w' b (putK m x v)∧w.grownBy w' (some b)∧w'.heap.size=w.heap.size:=by
 obtain⟨es,clock,hb,hm,hs1,hs2,j,e0,u,hj,rfl,hmj,hput⟩:=h;have hjl:j<es.toList.length:=(List.getElem?_eq_some_iff.1 hj).1;have hfi:es.findIdx? (fun e=>(e.born:Int)==(e0.born:Int))=some j:=by
  rw[show es.findIdx? (fun e=>(e.born:Int)==(e0.born:Int))=es.toList.findIdx? (fun e=>(e.born:Int)==(e0.born:Int)) from by
   obtain⟨l⟩:=es
   exact List.findIdx?_toArray ..,List.findIdx?_eq_some_iff_getElem]
  refine⟨hjl,?_,fun i hi=> ?_⟩
  ·have:es.toList[j]=e0:=(List.getElem?_eq_some_iff.1 hj).2;rw[this];simp
  ·have hil:i<es.toList.length:=by omega
   have h0:es.toList[j]=e0:=(List.getElem?_eq_some_iff.1 hj).2;have hne:(es.toList[i]).born≠e0.born:=fun e=>by
    have h1:=List.pairwise_iff_getElem.1 hs2 i j (by simpa using hil) (by simpa using hjl) hi;rw[List.getElem_map,List.getElem_map,h0] at h1;exact h1 e
   simp only[beq_iff_eq];omega
 have hlist:(es.modify j (fun e'=>{ e' with val:=ev v })).toList=es.toList.set j { e0 with val:=ev v }:=by
  rw[Array.toList_modify,ChangeMaps.modify_eq_set _ _ _ _ hj]
 have hkey:e0.key=enc x:=by
  have:(es.toList.map (fun e=>(e.key,e.val)))[j]? = some (enc x,ev u):=by
   rw[hm,List.getElem?_map,hmj];rfl
  rw[List.getElem?_map,hj] at this;simp only[Option.map_some,Option.some.injEq,Prod.mk.injEq] at this;exact this.1
 refine⟨ChangeMaps.setBlock w b (.map (es.modify j (fun e'=>{ e' with val:=ev v })) clock),?_,⟨_,_,ChangeMaps.heap_setBlock_same hb _,?_,?_,?_⟩,⟨rfl,rfl,rfl,by simp[ChangeMaps.setBlock],fun i _ hi=>ChangeMaps.heap_setBlock_other hb _ (fun e=>hi (by rw[e]))⟩,by simp[ChangeMaps.setBlock]⟩
 ·simp[Instr.entryStore,MapKept.run_getObj_map hb,asInt,asIntOf,hfi,MapKept.run_setObj_map _ hb,Result.andThen,ChangeMaps.setBlock]
 ·rw[hlist,hput v,List.map_set,List.map_set,hm,hkey]
 ·intro y hy;rw[hlist] at hy;rcases List.mem_or_eq_of_mem_set hy with hy|rfl
  ·exact hs1 y hy
  ·exact hs1 e0 (List.mem_of_getElem? hj)
 ·rw[hlist,List.map_set];have:(es.toList.map (·.born)).set j e0.born=es.toList.map (·.born):=by
   apply List.ext_getElem?;intro i;rw[List.getElem?_set]
   split
   ·rename_i hji;subst hji;rw[if_pos (by simpa using hjl),List.getElem?_map,hj];rfl
   ·rfl
  rw[this];exact hs2
theorem wpList_entry(E:KeyEnc P k enc){w:World}{ops:Array Oper}{rest:List Oper}{o:Oper}{a:Act}{Q:Exit→Act→World→Prop}
  (hg:o.guard=none) (mo xo:Operand) (t:TypeId) (hop:o.op=Op.mapEntry t mo xo) (e:TypeId) (ht:P.underlying t=some (.map k e)) (z:V) (hz:(zeroValue e).run P w = .ok (ev z) w) (b:Nat) (m:List (K×V)) (x:K)
  (hm:a.eval mo = .map (some b)) (hown:MapOf enc ev w b m) (hx:a.eval xo=enc x)
  (hK: ∀w' (born:Nat),EntOf enc ev w' b (putK m x ((getK m x).getD z)) x born→w.grownBy w' (some b)→w'.heap.size=w.heap.size→wpList P ops Q rest (a.put o.dst (.tuple #[ev ((getK m x).getD z),.int .i64 born])) w'):wpList P ops Q (o::rest) a w:=by
 refine wpList_plain hg fun K' hK'=> ?_;obtain⟨w',born,hrun,r1,r2,r3⟩:=entry_run E ht hz hown x;unfold Oper.wp;simp[execOp,hop,hm,hx,hrun,Result.andThen];exact hK' _ _ (hK w' born r1 r2 r3)
theorem wpList_estore{w:World}{ops:Array Oper}{rest:List Oper}{o:Oper}{a:Act}{Q:Exit→Act→World→Prop}
  (hg:o.guard=none) (mo so vo:Operand) (t:TypeId) (hop:o.op=Op.entryStore t mo so vo) (b:Nat) (m:List (K×V)) (x:K) (born:Nat) (v:V)
  (hm:a.eval mo = .map (some b)) (hown:EntOf enc ev w b m x born) (hs:a.eval so = .int .i64 born) (hv:a.eval vo=ev v)
  (hK: ∀w',MapOf enc ev w' b (putK m x v)→w.grownBy w' (some b)→w'.heap.size=w.heap.size→wpList P ops Q rest (a.put o.dst undef) w'):wpList P ops Q (o::rest) a w:=by
 refine wpList_plain hg fun K' hK'=> ?_;obtain⟨w',hrun,r1,r2,r3⟩:=store_run (P:=P) hown t v;unfold Oper.wp;simp only[execOp,hop,hm,hs,hv,Sem.run_bind,hrun,Result.andThen];exact hK' _ _ (hK w' r1 r2 r3)
omit [DecidableEq K] in
theorem putK_put[DecidableEq K](m:List (K×V))(x:K)(u v:V):putK (putK m x u) x v=putK m x v:=by
 induction m with
 | nil=>simp[putK]
 | cons p m ih =>
  by_cases h:x=p.1
  ·have e1: ∀y,putK (p::m) x y=(x,y)::m:=fun y=>by
    unfold putK;rw[if_pos h]
   rw[e1,e1];unfold putK;rw[if_pos rfl]
  ·have e1: ∀(l:List (K×V)) y,putK (p::l) x y=p::putK l x y:=fun l y=>by
    conv=>lhs;unfold putK
    rw[if_neg h]
   rw[e1,e1,e1,ih]
/-! ### a range -/
def RngOf(enc:K→Value)(ev:V→Value)(w:World)(b r:Nat)(m:List (K×V))(done left:List K):Prop :=
 ∃es clock since seen c0,w.heap[b]? = some (.map es clock)∧es.toList.map (fun e=>(e.key,e.val))=m.map (fun p=>(enc p.1,ev p.2))∧(∀e∈es.toList,e.born<since)∧(es.toList.map (·.born)).Nodup ∧
  w.heap[r]? = some (.mapIter (some b) since seen c0)∧since≤c0∧since≤clock∧(leftOf es seen).toList.map (·.key)=left.map enc∧(done++left).Perm (m.map (·.1))
omit [DecidableEq K] in
theorem RngOf.left_eq{w:World}{b r:Nat}{m:List (K×V)}{done left:List K}(h:RngOf enc ev w b r m done left):w.rangeLeft b r=left.length:=by
 obtain⟨es,clock,since,seen,c0,hb,_,_,_,hr,_,_,hl,_⟩:=h;have:=congrArg List.length hl;simp only[List.length_map] at this;unfold World.rangeLeft;rw[hb,hr]
 simpa using this
omit [DecidableEq K] in
theorem RngOf.kept{w w':World}{b r:Nat}{m:List (K×V)}{done left:List K}{row:Option Nat}(h:RngOf enc ev w b r m done left)(g:w.grownBy w' row)(h1:some b≠row)(h2:some r≠row):RngOf enc ev w' b r m done left:=by
 obtain⟨es,clock,since,seen,c0,hb,q1,q2,q3,hr,q⟩:=h;exact⟨es,clock,since,seen,c0,(g.block b (Array.getElem?_eq_some_iff.1 hb).1 h1).trans hb,q1,q2,q3,(g.block r (Array.getElem?_eq_some_iff.1 hr).1 h2).trans hr,q⟩
omit [DecidableEq K] in
theorem RngOf.lt{w:World}{b r:Nat}{m:List (K×V)}{done left:List K}(h:RngOf enc ev w b r m done left):b<w.heap.size∧r<w.heap.size:=by
 obtain⟨es,clock,since,seen,c0,hb,q1,q2,q3,hr,q⟩:=h;exact⟨(Array.getElem?_eq_some_iff.1 hb).1,(Array.getElem?_eq_some_iff.1 hr).1⟩
omit [DecidableEq K] in
theorem range_run{t e:TypeId}(ht:P.underlying t=some (.map k e)){w:World}{b:Nat}{m:List (K×V)}(h:MapOf enc ev w b m) :
  ∃w',(Instr.range t (.map (some b))).run P w = .ok (.pointer (some ⟨w.heap.size,0,none⟩)) w'∧RngOf enc ev w' b w.heap.size m [] (m.map (·.1))∧w.grownBy w' none∧w'.heap.size=w.heap.size+1:=by
 have hlt:=h.lt;obtain⟨es,clock,hb,hm,hs1,hs2⟩:=h;refine⟨_,run_range_map w t k e b es clock ht hb,⟨es,clock,clock,#[],clock,((MapKept.heap_alloc w _).2 b hlt).trans hb,hm,hs1,hs2,(MapKept.heap_alloc w _).1,Nat.le_refl _,Nat.le_refl _,?_,List.Perm.refl _⟩,World.grownBy_alloc w _ none,by simp⟩;have:=congrArg (List.map Prod.fst) hm;simp only[List.map_map] at this;rw[List.map_map];have e0:(leftOf es #[]).toList=es.toList:=by
  unfold leftOf;rw[Array.toList_filter];exact List.filter_eq_self.2 (fun _ _=>by simp)
 rw[e0]
 simpa [Function.comp_def] using this
omit [DecidableEq K] in
theorem next_run{w:World}{b r:Nat}{m:List (K×V)}{done left:List K}(h:RngOf enc ev w b r m done left)(ty:TypeId) :
  (left = []∧(Instr.next (.pointer (some ⟨r,0,none⟩)) false ty).run P w = .ok (.tuple #[.bool false]) w) ∨
  ∃x u left' w',(Instr.next (.pointer (some ⟨r,0,none⟩)) false ty).run P w = .ok (.tuple #[.bool true,enc x,u]) w'∧RngOf enc ev w' b r m (done ++ [x]) left'∧left'.length<left.length∧w.grownBy w' (some r)∧w'.heap.size=w.heap.size ∧
   (Instr.entry (.pointer (some ⟨r,0,none⟩))).run P w' = .ok (.tuple #[enc x,u]) w':=by
 obtain⟨es,clock,since,seen,c0,hb,hm,hs1,hs2,hr,hc,hcl,hl,hp⟩:=h;rcases run_next_at (P:=P) w ty r b since c0 seen es clock hr hb hs1 hc with⟨h0,hrun⟩|⟨e,he,w1,hal,hrun⟩
 ·refine Or.inl ⟨?_,hrun⟩;have:=congrArg List.length hl;simp only[List.length_map] at this;exact List.eq_nil_of_length_eq_zero (by rw[←this];simpa using h0)
 ·right;have hne:r≠b:=fun e=>by
   subst e;rw[hb] at hr;cases hr
  obtain⟨hem,hes⟩:=mem_left he;obtain⟨l1,l2,hsplit⟩:=List.append_of_mem he;rw[hsplit,List.map_append,List.map_cons] at hl;obtain⟨k1,k',rfl,hk1,hk'⟩:=List.map_eq_append_iff.1 hl.symm;obtain⟨x,k2,rfl,hx,hk2⟩:=List.map_eq_cons_iff.1 hk';have hr1:w1.heap[r]? = some (.mapIter (some b) since seen c0):=by rcases hal with rfl|rfl <;> exact hr
  have hb1:w1.heap[b]? = some (.map es clock):=by rcases hal with rfl|rfl <;> exact hb
  have hset:=MapKept.heap_set (o':= .mapIter (some b) since (seen.push e.born) clock) hr1;have hb':(ChangeMaps.setBlock w1 r (.mapIter (some b) since (seen.push e.born) clock)).heap[b]? = some (.map es clock):=(hset.2 b (fun e1=>hne e1.symm)).trans hb1;have hleft:(leftOf es (seen.push e.born)).toList=l1++l2:=by
   have e1:(leftOf es (seen.push e.born)).toList=((leftOf es seen).toList).filter fun y=> !(y.born==e.born):=by
    unfold leftOf;rw[Array.toList_filter,Array.toList_filter,List.filter_filter];refine List.filter_congr fun y _=> ?_;rw[contains_push];cases seen.contains y.born <;> cases (y.born==e.born) <;> rfl
   have hnd:((leftOf es seen).toList.map (·.born)).Nodup:=by
    unfold leftOf;rw[Array.toList_filter];exact List.Sublist.nodup (List.Sublist.map _ List.filter_sublist) hs2
   rw[hsplit,List.map_append,List.map_cons,List.nodup_append] at hnd;obtain⟨n1,n2,n3⟩:=hnd;rw[List.nodup_cons] at n2;rw[e1,hsplit,List.filter_append,List.filter_cons];simp only[beq_self_eq_true,Bool.not_true,Bool.false_eq_true,if_false];congr 1
   ·refine List.filter_eq_self.2 fun y hy=> ?_;have:=n3 y.born (List.mem_map.2 ⟨y,hy,rfl⟩) e.born (List.mem_cons_self ..)
    simpa using this
   ·refine List.filter_eq_self.2 fun y hy=> ?_;have:y.born≠e.born:=fun h=>n2.1 (List.mem_map.2 ⟨y,hy,h⟩)
    simpa using this
  rw[←hx] at hrun;refine⟨x,e.val,k1++k2,_,hrun,⟨es,clock,since,seen.push e.born,clock,hb',hm,hs1,hs2,hset.1,hcl,hcl,?_,?_⟩,by simp,?_,?_,?_⟩
  ·rw[hleft,List.map_append,List.map_append,hk1,hk2]
  ·refine List.Perm.trans ?_ hp;rw[List.append_assoc];refine List.Perm.append_left _ ?_;show(x::(k1++k2)).Perm _
   exact List.perm_middle.symm
  ·rcases hal with rfl|rfl <;> exact⟨rfl,rfl,rfl,by simp[ChangeMaps.setBlock],fun i _ hi=>hset.2 i (fun e1=>hi (by rw[e1]))⟩
  ·rcases hal with rfl|rfl <;> simp[ChangeMaps.setBlock]
  ·rw[hx];exact run_entry_at _ r b since seen es clock e hset.1 hb' hem hs2
omit [DecidableEq K] in
theorem wpList_rng{w:World}{ops:Array Oper}{rest:List Oper}{o:Oper}{a:Act}{Q:Exit→Act→World→Prop}(hg:o.guard=none)(mo:Operand)(t:TypeId)(hop:o.op=Op.range t mo)(e:TypeId)(ht:P.underlying t=some (.map k e))(b:Nat)(m:List (K×V))
  (hm:a.eval mo = .map (some b)) (hown:MapOf enc ev w b m)
  (hK: ∀w',RngOf enc ev w' b w.heap.size m [] (m.map (·.1))→w.grownBy w' none→w'.heap.size=w.heap.size+1→wpList P ops Q rest (a.put o.dst (.pointer (some ⟨w.heap.size,0,none⟩))) w'):wpList P ops Q (o::rest) a w:=by
 refine wpList_plain hg fun K' hK'=> ?_;obtain⟨w',hrun,r1,r2,r3⟩:=range_run ht hown;unfold Oper.wp;simp[execOp,hop,hm,hrun,Result.andThen];exact hK' _ _ (hK w' r1 r2 r3)
omit [DecidableEq K] in
theorem wpList_nxt{w:World}{ops:Array Oper}{rest:List Oper}{o:Oper}{a:Act}{Q:Exit→Act→World→Prop}(hg:o.guard=none)(it:Operand)(hop:o.op=Op.next it false)(b r:Nat)(m:List (K×V))(done left:List K)
  (hit:a.eval it = .pointer (some ⟨r,0,none⟩)) (h:RngOf enc ev w b r m done left)
  (hDone:left = []→wpList P ops Q rest (a.put o.dst (.tuple #[.bool false])) w)
  (hMore: ∀(x:K) (u:Value) (left':List K) (w':World),RngOf enc ev w' b r m (done ++ [x]) left'→left'.length<left.length→w.grownBy w' (some r)→w'.heap.size=w.heap.size →
   (Instr.entry (.pointer (some ⟨r,0,none⟩))).run P w' = .ok (.tuple #[enc x,u]) w'→wpList P ops Q rest (a.put o.dst (.tuple #[.bool true,enc x,u])) w'):wpList P ops Q (o::rest) a w:=by
 refine wpList_plain hg fun K' hK'=> ?_;unfold Oper.wp;rcases next_run (P:=P) h o.type with⟨h0,hrun⟩|⟨x,u,left',w',hrun,h1,h2,h3,h4,h5⟩
 ·simp[execOp,hop,hit,hrun,Result.andThen];exact hK' _ _ (hDone h0)
 ·simp[execOp,hop,hit,hrun,Result.andThen];exact hK' _ _ (hMore x u left' w' h1 h2 h3 h4 h5)
end
end Go.Proofs.YtojolpbpjimfgaaGreatDoor
namespace Go.Proofs.YtojolpbpjimfgaaGreatDoor
open Go.Shelf
def sortPairs_ren:Go.Shelf.Ren:=⟨fun|6=>108|15=>141|14=>140|28=>166|29=>167|20=>158|21=>159|22=>160|23=>161|24=>162|25=>163|26=>164|27=>165|46=>194|47=>195|48=>196|49=>197|50=>198|57=>207|n=>n,fun|22=>147|24=>198|25=>201|3=>3|39=>206|0=>0|53=>265|55=>63|4=>4|46=>259|45=>258|50=>164|5=>5|9=>9|66=>279|70=>283|76=>290|77=>56|n=>n,fun|n=>n⟩
theorem sortPairs:SlLaysF0.n6 Tryz.prog sortPairs_ren:={
 mixed:=by kernel_rfl,
 f6:=⟨Tryz.f108.name,by decide,Tryz.func108.trans (congrArg some (by kernel_rfl))⟩,
 f14:=⟨Tryz.f140.name,by decide,Tryz.func140.trans (congrArg some (by kernel_rfl))⟩,
 f15:=Tryz.func141.trans (congrArg some (by kernel_rfl)),
 f20:=⟨Tryz.f158.name,by decide,Tryz.func158.trans (congrArg some (by kernel_rfl))⟩,
 f21:=⟨Tryz.f159.name,by decide,Tryz.func159.trans (congrArg some (by kernel_rfl))⟩,
 f22:=⟨Tryz.f160.name,by decide,Tryz.func160.trans (congrArg some (by kernel_rfl))⟩,
 f23:=⟨Tryz.f161.name,by decide,Tryz.func161.trans (congrArg some (by kernel_rfl))⟩,
 f24:=⟨Tryz.f162.name,by decide,Tryz.func162.trans (congrArg some (by kernel_rfl))⟩,
 f25:=⟨Tryz.f163.name,by decide,Tryz.func163.trans (congrArg some (by kernel_rfl))⟩,
 f26:=⟨Tryz.f164.name,by decide,Tryz.func164.trans (congrArg some (by kernel_rfl))⟩,
 f27:=⟨Tryz.f165.name,by decide,Tryz.func165.trans (congrArg some (by kernel_rfl))⟩,
 f28:=Tryz.func166.trans (congrArg some (by kernel_rfl)),
 f29:=Tryz.func167.trans (congrArg some (by kernel_rfl)),
 f46:=⟨Tryz.f194.name,by decide,Tryz.func194.trans (congrArg some (by kernel_rfl))⟩,
 f47:=Tryz.func195.trans (congrArg some (by kernel_rfl)),
 f48:=Tryz.func196.trans (congrArg some (by kernel_rfl)),
 f49:=⟨Tryz.f197.name,by decide,Tryz.func197.trans (congrArg some (by kernel_rfl))⟩,
 f50:=⟨Tryz.f198.name,by decide,Tryz.func198.trans (congrArg some (by kernel_rfl))⟩,
 f57:=⟨Tryz.f207.name,by decide,Tryz.func207.trans (congrArg some (by kernel_rfl))⟩,
 t0:=Tryz.underlying0,
 a0:=Tryz.isAgg0,
 z0:=Tryz.sizeOf0,
 v0:=Tryz.zeroValue0,
 t3:=Tryz.underlying3,
 a3:=Tryz.isAgg3,
 z3:=Tryz.sizeOf3,
 v3:=Tryz.zeroValue3,
 t4:=Tryz.underlying4,
 a4:=Tryz.isAgg4,
 z4:=Tryz.sizeOf4,
 v4:=Tryz.zeroValue4,
 t5:=Tryz.underlying5,
 a5:=Tryz.isAgg5,
 z5:=Tryz.sizeOf5,
 v5:=Tryz.zeroValue5,
 t9:=Tryz.underlying9,
 a9:=Tryz.isAgg9,
 z9:=Tryz.sizeOf9,
 v9:=Tryz.zeroValue9,
 t22:=Tryz.underlying147,
 a22:=Tryz.isAgg147,
 z22:=Tryz.sizeOf147,
 v22:=Tryz.zeroValue147,
 t25:=Tryz.underlying201,
 a25:=Tryz.isAgg201,
 z25:=Tryz.sizeOf201,
 v25:=Tryz.zeroValue201,
 t39:=Tryz.underlying206,
 a39:=Tryz.isAgg206,
 z39:=Tryz.sizeOf206,
 v39:=Tryz.zeroValue206,
 t45:=Tryz.underlying258,
 a45:=Tryz.isAgg258,
 z45:=Tryz.sizeOf258,
 v45:=Tryz.zeroValue258,
 t46:=Tryz.underlying259,
 a46:=Tryz.isAgg259,
 z46:=Tryz.sizeOf259,
 v46:=Tryz.zeroValue259,
 t50:=Tryz.underlying164,
 a50:=Tryz.isAgg164,
 z50:=Tryz.sizeOf164,
 v50:=Tryz.zeroValue164,
 t53:=Tryz.underlying265,
 a53:=Tryz.isAgg265,
 z53:=Tryz.sizeOf265,
 v53:=Tryz.zeroValue265,
 t55:=Tryz.underlying63,
 a55:=Tryz.isAgg63,
 z55:=Tryz.sizeOf63,
 v55:=Tryz.zeroValue63,
 t66:=Tryz.underlying279,
 a66:=Tryz.isAgg279,
 z66:=Tryz.sizeOf279,
 v66:=Tryz.zeroValue279,
 t70:=Tryz.underlying283,
 a70:=Tryz.isAgg283,
 z70:=Tryz.sizeOf283,
 v70:=Tryz.zeroValue283,
 t76:=Tryz.underlying290,
 a76:=Tryz.isAgg290,
 z76:=Tryz.sizeOf290,
 v76:=Tryz.zeroValue290,
 t77:=Tryz.underlying56,
 a77:=Tryz.isAgg56,
 z77:=Tryz.sizeOf56,
 v77:=Tryz.zeroValue56 }
end Go.Proofs.YtojolpbpjimfgaaGreatDoor
