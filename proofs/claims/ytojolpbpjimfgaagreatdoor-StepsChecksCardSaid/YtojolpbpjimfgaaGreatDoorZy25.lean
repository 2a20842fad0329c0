/- Texts of the proof: PushS, ExcS, FallS, PartS, SetMap, PlanS, SeenP. -/
import Derived.Test.YtojolpbpjimfgaaGreatDoorZy6
import Derived.Test.YtojolpbpjimfgaaGreatDoorZy7
import Derived.Test.YtojolpbpjimfgaaGreatDoorZy8
import Derived.Test.YtojolpbpjimfgaaGreatDoorZy12
import Derived.Test.YtojolpbpjimfgaaGreatDoorZy13
import Derived.Test.YtojolpbpjimfgaaGreatDoorZy14
import Derived.Test.YtojolpbpjimfgaaGreatDoorZy16
import Derived.Test.YtojolpbpjimfgaaGreatDoorZy17
import Derived.Test.YtojolpbpjimfgaaGreatDoorZy18
import Derived.Test.YtojolpbpjimfgaaGreatDoorZy24
import Derived.Lib.SliceRun
import Derived.Test.YtojolpbpjimfgaaGreatDoorRows
set_option maxRecDepth 100000
namespace Go.Proofs.YtojolpbpjimfgaaGreatDoor
open Go.RowKit
theorem sumN_single{f:Nat→Int}: ∀{n:Nat},(∀i,i<n→0≤f i) → ∀v,v<n→f v≤sumN n f
 | 0,_,v,hv=>by omega
 | n+1,h,v,hv=>by
  unfold sumN;have h1:=sumN_nonneg (n:=n) fun i hi=>h i (by omega);rcases Nat.lt_or_ge v n with hvn|hvn
  ·have:=sumN_single (n:=n) (fun i hi=>h i (by omega)) v hvn;have:=h n (by omega);omega
  ·obtain rfl:v=n:=by omega
   omega
theorem sumN_const(c:Int): ∀n:Nat,sumN n (fun _=>c)=c*n
 | 0=>by simp[sumN]
 | n+1=>by
  unfold sumN;rw[sumN_const c n];grind
theorem out_zero(n:Nat)(put:Nat→Nat→Int):sumN n (outN n put)=0:=by
 have:=inner_zero n (fun _=>true) put;simp only[Bool.and_self,if_true] at this;exact this
theorem Flow.down_le{n:Nat}{cap:Nat→Nat→Int}{ground:Nat→Bool}{wt:Nat→Int}{put:Nat→Nat→Int}{down left:Nat→Int}(h:Flow n cap ground wt put down left){B:Int}(hw: ∀i,i<n→wt i≤B){v:Nat}(hv:v<n):down v≤B*n:=by
 have h1:=sumN_single h.dn v hv;have h2:sumN n down=sumN n (fun i=>wt i-left i)-sumN n (outN n put):=by
  rw[←sumN_sub];refine sumN_congr fun i hi=> ?_;have:=h.bal i hi;show down i=wt i-left i-outN n put i
  omega
 have h3:sumN n (fun i=>wt i-left i)≤sumN n fun _=>B:=sumN_le fun i hi=>by
  have:=hw i hi;have:=h.l0 i hi;omega
 rw[sumN_const] at h3;rw[out_zero] at h2;omega
theorem uptoW_le{wt:Nat→Int}{j:Nat}{B:Int}(hB:0≤B){i:Nat}(h:wt i≤B):uptoW wt j i≤B:=by
 unfold uptoW
 split
 ·exact h
 ·exact hB
theorem Flow.congr_cap{n:Nat}{cap cap':Nat→Nat→Int}{ground:Nat→Bool}{wt:Nat→Int}{put:Nat→Nat→Int}{down left:Nat→Int}(h:Flow n cap ground wt put down left)(e: ∀i,i<n → ∀k,k<n→cap i k=cap' i k):Flow n cap' ground wt put down left :=
 ⟨h.lo,fun i hi k hk=>by rw[←e i hi k hk];exact h.hi i hi k hk,h.g0,h.dn,h.bal,h.l0⟩
theorem ClosedR.congr_cap{n:Nat}{cap cap' put:Nat→Nat→Int}{C:Nat→Bool}(h:ClosedR n cap put C)(e: ∀i,i<n → ∀k,k<n→cap i k=cap' i k):ClosedR n cap' put C:=fun v hv hc k hk hr=>h v hv hc k hk (by
 unfold resid at hr ⊢;rw[e v hv k hk]
 exact hr)
theorem IsFall.congr_cap{n:Nat}{cap cap':Nat→Nat→Int}{ground:Nat→Bool}{put:Nat→Nat→Int}{left:Nat→Int}{S:Nat→Bool}(h:IsFall n cap ground put left S)(e: ∀i,i<n → ∀k,k<n→cap i k=cap' i k):IsFall n cap' ground put left S :=
 ⟨h.ng,h.has,h.cl.congr_cap e,fun C h1 h2=>h.least C h1 (h2.congr_cap fun i hi k hk=>(e i hi k hk).symm)⟩
def fallL(t:Nat)(S:Nat→Bool):List Int:=((List.range t).filter S).map fun k:Nat=>(k:Int)
theorem fallL_succ(t:Nat)(S:Nat→Bool):fallL (t+1) S=fallL t S++if S t=true then [(t:Int)] else []:=by
 unfold fallL;rw[List.range_succ,List.filter_append,List.map_append];congr 1;by_cases h:S t=true
 ·rw[if_pos h];simp[h]
 ·rw[if_neg h];simp[h]
theorem fallL_len(t:Nat)(S:Nat→Bool):(fallL t S).length≤t:=by
 unfold fallL;rw[List.length_map];have:=List.length_filter_le S (List.range t);rwa [List.length_range] at this
theorem fallL_congr{t:Nat}{S T:Nat→Bool}(h: ∀v,v<t→S v=T v):fallL t S=fallL t T:=by
 unfold fallL;congr 1;exact List.filter_congr fun v hv=>h v (List.mem_range.1 hv)
theorem setCells_row{g n:Nat}: ∀(m o:Nat) (s:Nat→Bool) (w:World),BRow w g n s→BRow (w.setCells g o (List.replicate m (.bool false))) g n fun k=>if o≤k∧k<o+m then false else s k
 | 0,o,s,w,h=>h.congr fun k _=>if_neg (by omega)
 | m+1,o,s,w,h=>by
  rw[List.replicate_succ];refine(setCells_row m (o+1) (setB s o false) (w.setCell ⟨g,o,none⟩ (.bool false)) (h.set_ o false)).congr fun k _=> ?_;unfold setB;by_cases h1:o+1≤k∧k<o+1+m
  ·rw[if_pos h1,if_pos (by omega)]
  ·rw[if_neg h1];by_cases h2:k=o
   ·rw[if_pos h2,if_pos (by omega)]
   ·rw[if_neg h2,if_neg (by omega)]
theorem setCells_only{g:Nat}: ∀(vs:List Value) (o:Nat) (a b:World),Only (fun k=>k=g) a b→Only (fun k=>k=g) a (b.setCells g o vs)
 | [],_,_,_,h=>h
 | v::vs,o,a,b,h=>setCells_only vs (o+1) a (b.setCell ⟨g,o,none⟩ v) (h.setCell (p:=⟨g,o,none⟩) (fun _=>rfl) v)
theorem clear_row{w:World}{g n:Nat}{s:Nat→Bool}(h:BRow w g n s): ∃W,(∀ty,(Builtin.clear_ #[114] ty #[.slice (some ⟨g,0,none⟩) n n]).run Tryz.prog w = .ok (.tuple #[]) W)∧BRow W g n (fun _=>false)∧Only (fun k=>k=g) w W:=by
 by_cases h0:n=0
 ·subst h0;refine⟨w,fun ty=> ?_,h.congr fun k hk=>absurd hk (Nat.not_lt_zero _),Only.refl _ _⟩;simp[Builtin.clear_,run_underlying Tryz.underlying114,Result.andThen]
 ·refine⟨w.setCells g 0 (List.replicate n (.bool false)),fun ty=> ?_,(setCells_row n 0 s w h).congr fun k hk=>(if_pos ⟨Nat.zero_le _,by omega⟩).symm,setCells_only _ _ _ _ (Only.refl _ _)⟩;exact Lib.run_clear_slice w _ _ ty _ Tryz.underlying114 (fun w=>by kernel_rfl) rfl rfl g 0 n n (by omega) (fun j hj=>by rw[Nat.zero_add,h.cell hj];rfl) (fun j _=>Blk.frozen h _)
def cellN(w:World)(p:Addr):Nat:=match w.cell? p with
 | some v=>(intOf v).toNat
 | none=>0
theorem cellN_row{w:World}{g n:Nat}{d:Nat→Int}(h:NRow w g n d){k:Nat}(hk:k<n):cellN w ⟨g,k,none⟩=(d k).toNat:=by
 unfold cellN;rw[h.cell hk];rfl
def wtOf(ks:List Knd)(bs:List Brk)(i:Nat):Int:=(kindAt ks (brkAt bs i).kind.toNat).weight
def excIn(ks:List Knd)(bs:List Brk)(l:List Int)(i:Nat):Nat→Int→Option Int
 | 0,a=>some a
 | k+1,a=>match excIn ks bs l i k a with
  | none=>none
  | some b=>if hasZ l k=true then some b else if capV ks bs i k=1073741824 then none else some (b-capV ks bs i k)
def excOut(ks:List Knd)(bs:List Brk)(tab:Int)(hands l:List Int):Nat→Option Int
 | 0=>some 0
 | q+1=>match excOut ks bs tab hands l q with
  | none=>none
  | some a=>if grdB ks bs tab hands (l.getD q 0).toNat=true then none else excIn ks bs l (l.getD q 0).toNat bs.length (a+wtOf ks bs (l.getD q 0).toNat)
section
variable {ks:List Knd} {bs:List Brk} {l hands:List Int} {tab:Int} {i k q:Nat} {a b:Int}
end
def excErr(ks:List Knd)(bs:List Brk)(tab:Int)(hands l:List Int):Int :=
 if restErr ks bs tab hands=0 then(if chosenB l bs.length=true then(if(excOut ks bs tab hands l l.length).isSome=true then 0 else 31) else 2) else restErr ks bs tab hands
def excR(ks:List Knd)(bs:List Brk)(tab:Int)(hands l:List Int):Int :=
 if excErr ks bs tab hands l=0 then(excOut ks bs tab hands l l.length).getD 0 else 0
theorem capV_small{ks:List Knd}{bs:List Brk}(hf:Fit ks bs)(x y:Nat):capV ks bs x y=1073741824∨(0≤capV ks bs x y∧capV ks bs x y≤96000):=by
 have:=strOf_le hf x y;unfold capV
 split
 ·omega
 ·split
  ·exact Or.inl rfl
  ·omega
def FallOf(ks:List Knd)(bs:List Brk)(tab:Int)(hands:List Int)(l:List Int):Prop :=
 (restErr ks bs tab hands=0 ∧ ∃S put d lf,l=fallL bs.length S∧Flow bs.length (capV ks bs) (grF (grdL ks bs tab hands bs.length)) (wtOf ks bs) put d lf∧IsFall bs.length (capV ks bs) (grF (grdL ks bs tab hands bs.length)) put lf S)∨(restErr ks bs tab hands≠0∧l = [])
theorem FallOf.unique{ks:List Knd}{bs:List Brk}{tab:Int}{hands a b:List Int}(h:FallOf ks bs tab hands a)(k:FallOf ks bs tab hands b):a=b:=by
 rcases h with⟨h0,S,p1,d1,l1,rfl,f1,i1⟩|⟨h0,rfl⟩
 ·rcases k with⟨-,T,p2,d2,l2,rfl,f2,i2⟩|⟨k0,-⟩
  ·exact fallL_congr (fall_unique f1 f2 i1 i2)
  ·exact absurd h0 k0
 ·rcases k with⟨k0,-⟩|⟨-,rfl⟩
  ·exact absurd k0 h0
  ·rfl
section
variable {ks:List Knd} {bs:List Brk} {tab:Int} {hands:List Int} {z:Nat}
theorem model_part(hz:SetB bs.length z)(h:modelErr ks bs=0):modelErr ks (partB bs z)=0:=by
 obtain⟨e0,e1,e2⟩:=modelErr_zero h;have hl:(partB bs z).length≤bs.length:=by
  rw[partB_len];exact setL_few hz (by omega)
 rw[modelErr_few e0 (by omega)];refine askedErr_good e0 fun j hj=> ?_;rw[partB_len] at hj;rw[partB_at bs hj];cases hb:(brkAt bs (memA z j)).ok ks.length
 ·rw[askedErr_bad e0 (memA_lt hz (by omega) hj) hb] at e2;cases e2
 ·rfl
theorem check_part(hz:SetB bs.length z)(h:checkErr ks bs=0):checkErr ks (partB bs z)=0:=by
 have ho:=check_over h;have hm:=check_model h;have hn:=(modelErr_zero hm).2.1;refine checkErr_nil (model_part hz hm) ?_;rw[List.eq_nil_iff_forall_not_mem];intro p hp;obtain⟨i,k,-,hik,hk,hc⟩:=mem_overL.1 hp;rw[partB_len] at hk;unfold overB at hc;rw[partB_at bs (by omega),partB_at bs hk] at hc;have hlt:memA z i<memA z k:=by
  have h1:=memA_get (z:=z) (q:=i) (by omega);have h2:=memA_get hk;rw[List.getElem?_eq_getElem (by omega)] at h1 h2;rw[←Option.some.inj h1,←Option.some.inj h2];exact List.pairwise_iff_getElem.1 (setL_asc z) i k (by omega) hk hik
 have:((memA z i:Int),(memA z k:Int))∈overL ks bs bs.length:=mem_overL.2 ⟨memA z i,memA z k,rfl,hlt,memA_lt hz (by omega) hk,hc⟩;rw[ho] at this;cases this
theorem rest_part(hz:SetB bs.length z)(h:restErr ks bs tab hands=0):restErr ks (partB bs z) tab (handP hands z)=0:=by
 obtain⟨h1,h2,-,h4⟩:=restErr_zero h;have hn:=(modelErr_zero (check_model h1)).2.1;refine restErr_ok (check_part hz h1) ?_ fun i hi=> ?_
 ·rw[h2,partB_len];exact handP_chosen hands z
 ·rw[partB_len] at hi;unfold lowZ;rw[partB_at bs hi];exact h4 _ (memA_lt hz (by omega) hi)
end
open Classical in
noncomputable def holdB(ks:List Knd)(bs:List Brk)(tab:Int)(hands:List Int)(z:Nat):Bool:=decide (FallOf ks (partB bs z) tab (handP hands z) [])
theorem holdB_of{ks:List Knd}{bs:List Brk}{tab:Int}{hands l:List Int}{z:Nat}(h:FallOf ks (partB bs z) tab (handP hands z) l):holdB ks bs tab hands z=decide (l.length=0):=by
 unfold holdB;rw[decide_eq_decide];constructor
 ·intro h1;rw[h.unique h1];rfl
 ·intro h1;rw[List.eq_nil_of_length_eq_zero h1] at h;exact h
def enc6(x:Int):Value:= .int .u64 x
theorem enc6_key(x:Int):MapKept.IsKey (.int .u64) (enc6 x):=by simp[MapKept.IsKey,enc6]
theorem find6(x:Int){V:Type}(ev:V→Value): ∀(es:List MapEntry) (m:List (Int×V)) (i:Nat),es.map (fun e=>(e.key,e.val))=m.map (fun p=>(enc6 p.1,ev p.2)) →
  Instr.findNow (.int .u64) (enc6 x) es i=some ((lookAt m x i).map fun r=>(r.1,ev r.2))
 | [],[],i,_=>by simp[Instr.findNow,lookAt]
 | [],p::m,_,h=>by simp at h
 | e::es,[],_,h=>by simp at h
 | e::es,p::m,i,h=>by
  simp only[List.map_cons,List.cons.injEq,Prod.mk.injEq] at h;obtain⟨⟨h1,h2⟩,h3⟩:=h;have ih:=find6 x ev es m (i+1) h3;unfold lookAt;by_cases hx:x=p.1
  ·simp[Instr.findNow,h1,Instr.sameNow,enc6,hx,h2]
  ·have hb:(x==p.1)=false:=by simpa using hx
   rw[if_neg hx,←ih];simp[Instr.findNow,h1,Instr.sameNow,enc6,hb]
section
variable {V:Type} {ev:V→Value}
theorem lookup6_run{t e:TypeId}(ht:Tryz.prog.underlying t=some (.map 64 e)){w:World}{z:Value}(hz:(zeroValue e).run Tryz.prog w = .ok z w){b:Nat}{m:List (Int×V)}(h:MapOf enc6 ev w b m)(x:Int)(ok:Bool) :
  (Instr.lookup t (.map (some b)) (enc6 x) ok).run Tryz.prog w = .ok (match getK m x with
   | some v=>if ok then .tuple #[ev v,.bool true] else ev v
   | none=>if ok then .tuple #[z,.bool false] else z) w:=by
 obtain⟨es,clock,hb,hm,_⟩:=h;have hf:=MapKept.run_findKey (w:=w) Tryz.underlying64 (find6 x ev es.toList m 0 hm);have hck:=fun em=>MapKept.run_checkKey (w:=w) Tryz.underlying64 (enc6_key x) em 9999;rw[←lookAt_getK m x 0];cases hl:lookAt m x 0 with
 | none =>
  rw[hl] at hf;simp[Instr.lookup,run_underlying ht,MapKept.run_getObj_map hb,hck,hf,hz,Result.andThen]
 | some r =>
  rw[hl] at hf;simp[Instr.lookup,run_underlying ht,MapKept.run_getObj_map hb,hck,hf,Result.andThen]
theorem update6_run{t e:TypeId}(ht:Tryz.prog.underlying t=some (.map 64 e)){w:World}{b:Nat}{m:List (Int×V)}(h:MapOf enc6 ev w b m)(x:Int)(v:V) :
  ∃w',(Instr.mapUpdate t (.map (some b)) (enc6 x) (ev v)).run Tryz.prog w = .ok () w'∧MapOf enc6 ev w' b (putK m x v)∧w.grownBy w' (some b)∧w'.heap.size=w.heap.size:=by
 obtain⟨es,clock,hb,hm,hs1,hs2⟩:=h;have hf:=MapKept.run_findKey (w:=w) Tryz.underlying64 (find6 x ev es.toList m 0 hm);have hck:=fun em=>MapKept.run_checkKey (w:=w) Tryz.underlying64 (enc6_key x) em 9999;have hsame:Instr.sameBits 10000 (enc6 x) (enc6 x)=true:=by simp[enc6,Instr.sameBits]
 have grown: ∀o,w.grownBy (ChangeMaps.setBlock w b o) (some b):=fun o=>⟨rfl,rfl,rfl,by simp[ChangeMaps.setBlock],fun i _ hi=>ChangeMaps.heap_setBlock_other hb _ (fun e=>hi (by rw[e]))⟩;have hsz: ∀o,(ChangeMaps.setBlock w b o).heap.size=w.heap.size:=fun o=>by simp[ChangeMaps.setBlock]
 cases hl:lookAt m x 0 with
 | none =>
  rw[hl] at hf;refine⟨ChangeMaps.setBlock w b (.map (es.push { key:=enc6 x,val:=ev v,born:=clock }) (clock+1)),?_,⟨_,_,ChangeMaps.heap_setBlock_same hb _,?_,?_,?_⟩,grown _,hsz _⟩
  ·simp[Instr.mapUpdate,run_underlying ht,MapKept.run_getObj_map hb,hck,hf,MapKept.run_setObj_map _ hb,Result.andThen,ChangeMaps.setBlock]
  ·rw[lookAt_none hl];simp[hm]
  ·intro y hy;simp only[Array.toList_push,List.mem_append,List.mem_singleton] at hy;rcases hy with hy|rfl
   ·exact Nat.lt_succ_of_lt (hs1 y hy)
   ·exact Nat.lt_succ_self _
  ·simp only[Array.toList_push,List.map_append,List.map_cons,List.map_nil];refine List.nodup_append.2 ⟨hs2,by simp,?_⟩;intro a ha b hb;simp only[List.mem_singleton] at hb;subst hb;obtain⟨y,hy,rfl⟩:=List.mem_map.1 ha;exact Nat.ne_of_lt (hs1 y hy)
 | some r =>
  obtain⟨j,u⟩:=r;rw[hl] at hf;obtain⟨j',hj',h1,h2⟩:=lookAt_some hl v;obtain rfl:j=j':=by omega
  have hlen:es.toList.length=m.length:=by
   have:=congrArg List.length hm
   simpa using this
  have hjl:j<es.toList.length:=by
   rw[hlen];exact(List.getElem?_eq_some_iff.1 h1).1
  have hjm:(es.toList.map (fun e=>(e.key,e.val)))[j]? = some (enc6 x,ev u):=by
   rw[hm,List.getElem?_map,h1];rfl
  obtain⟨e0,hej⟩: ∃e0,es.toList[j]? = some e0:=⟨_,List.getElem?_eq_getElem hjl⟩;have hmem:e0∈es.toList:=List.mem_of_getElem? hej;have hkey:e0.key=enc6 x:=by
   rw[List.getElem?_map,hej] at hjm;simp only[Option.map_some,Option.some.injEq,Prod.mk.injEq] at hjm;exact hjm.1
  have hej':es[j]? = some e0:=by rw[←hej];simp
  have hlist:(es.modify j (fun e'=>{ e' with key:=enc6 x,val:=ev v })).toList=es.toList.set j { e0 with key:=enc6 x,val:=ev v }:=by
   rw[Array.toList_modify,ChangeMaps.modify_eq_set _ _ _ _ hej]
  refine⟨ChangeMaps.setBlock w b (.map (es.modify j (fun e'=>{ e' with key:=enc6 x,val:=ev v })) clock),?_,⟨_,_,ChangeMaps.heap_setBlock_same hb _,?_,?_,?_⟩,grown _,hsz _⟩
  ·simp[Instr.mapUpdate,run_underlying ht,MapKept.run_getObj_map hb,hck,hf,hej',hkey,Instr.keyThatStays,hsame,MapKept.run_setObj_map _ hb,Result.andThen,ChangeMaps.setBlock]
  ·rw[hlist,h2,List.map_set,List.map_set,hm]
  ·intro y hy;rw[hlist] at hy;rcases List.mem_or_eq_of_mem_set hy with hy|rfl
   ·exact hs1 y hy
   ·exact hs1 e0 hmem
  ·rw[hlist,List.map_set];have:=hs2;have hb0:(es.toList.map (·.born)).set j e0.born=es.toList.map (·.born):=by
    refine List.ext_getElem? fun i=> ?_;rw[List.getElem?_set]
    split
    ·rename_i e;subst e;rw[if_pos (by simpa using hjl),List.getElem?_map,hej];rfl
    ·rfl
   rw[hb0];exact this
theorem wpList_put6{w:World}{ops:Array Oper}{rest:List Oper}{o:Oper}{a:Act}{Q:Exit→Act→World→Prop}
  (hg:o.guard=none) (mo xo vo:Operand) (t:TypeId) (hop:o.op=Op.mapUpdate t mo xo vo) (e:TypeId) (ht:Tryz.prog.underlying t=some (.map 64 e)) (b:Nat) (m:List (Int×V)) (x:Int) (v:V)
  (hm:a.eval mo = .map (some b)) (hown:MapOf enc6 ev w b m) (hx:a.eval xo=enc6 x) (hv:a.eval vo=ev v)
  (hK: ∀w',MapOf enc6 ev w' b (putK m x v)→w.grownBy w' (some b)→w'.heap.size=w.heap.size→wpList Tryz.prog ops Q rest (a.put o.dst undef) w'):wpList Tryz.prog ops Q (o::rest) a w:=by
 refine wpList_plain hg fun K' hK'=> ?_;obtain⟨w',hrun,r1,r2,r3⟩:=update6_run ht hown x v;unfold Oper.wp;simp[execOp,hop,hm,hx,hv,hrun,Result.andThen];exact hK' _ _ (hK w' r1 r2 r3)
end
structure MB where
 qs:List (Knd×KAt)
 QA:Option Addr
 qc:Nat
 bs:List Brk
 B:Option Addr
 cb:Nat
 tab:Int
 HA:Option Addr
 hc:Nat
 hands:List Int
def MB.ks(m:MB):List Knd:=m.qs.map (·.1)
def MB.n(m:MB):Nat:=m.bs.length
structure MBAt(w:World)(m:MB):Prop where
 k:Kinds w m.QA m.qc m.qs
 b:Bricks w m.B m.cb m.bs
 h:IntsZ w m.HA m.hc m.hands
theorem MBAt.ext{w w':World}{m:MB}(h:MBAt w m)(E:Ext w w'):MBAt w' m:=⟨h.k.ext E,h.b.ext E,h.h.ext E⟩
theorem MBAt.fit{w:World}{m:MB}(h:MBAt w m)(h0:checkErr m.ks m.bs=0):Fit m.ks m.bs:=fit_of h.k h.b.2 h0
def MB.kv(m:MB):Value:= .slice m.QA m.qs.length m.qc
def MB.mv(m:MB):Value:= .agg #[.slice m.B m.bs.length m.cb]
def MB.rv(m:MB):Value:= .agg #[.int .i64 m.tab,.slice m.HA m.hands.length m.hc]
def jnA(n:Nat)(f:Nat→Nat→Nat):Array Value:=((List.range (n*6)).map fun t=>Value.int .u64 (f (t / 6) (t % 6):Nat)).toArray
def updN(f:Nat→Nat→Nat)(a b v:Nat):Nat→Nat→Nat:=fun x y=>if x=a∧y=b then v else f x y
theorem updN_put(f:Nat→Nat→Nat)(a b j:Nat):updN f a b (putN (f a b) j)=putJ f a b j:=by
 funext x y;unfold updN putJ;by_cases h:x=a∧y=b
 ·rw[if_pos h,if_pos h,h.1,h.2]
 ·rw[if_neg h,if_neg h]
theorem jnA_get(n:Nat)(f:Nat→Nat→Nat){a b:Nat}(ha:a<n)(hb:b<6):(jnA n f)[a*6+b]? = some (.int .u64 (f a b:Nat)):=by
 have h1:(a*6+b) / 6=a:=by omega
 have h2:(a*6+b) % 6=b:=by omega
 unfold jnA;rw[List.getElem?_toArray,List.getElem?_map,List.getElem?_range (by omega),Option.map_some,h1,h2]
theorem jnA_set(n:Nat)(f:Nat→Nat→Nat){a b:Nat}(hb:b<6)(v:Nat):(jnA n f).setIfInBounds (a*6+b) (.int .u64 (v:Int))=jnA n (updN f a b v):=by
 unfold jnA;rw[List.setIfInBounds_toArray];congr 1;refine List.ext_getElem? fun t=> ?_;rw[List.getElem?_set,List.length_map,List.length_range];rcases Nat.lt_or_ge t (n*6) with ht|ht
 ·rw[List.getElem?_map,List.getElem?_map,List.getElem?_range ht];by_cases e:a*6+b=t
  ·subst e;have h1:(a*6+b) / 6=a:=by omega
   have h2:(a*6+b) % 6=b:=by omega
   rw[if_pos rfl,if_pos ht,Option.map_some,h1,h2];simp[updN]
  ·rw[if_neg e,Option.map_some,Option.map_some];unfold updN;rw[if_neg];omega
 ·rw[List.getElem?_eq_none (l:=(List.range (n*6)).map _) (by simpa using ht),List.getElem?_eq_none (l:=(List.range (n*6)).map _) (by simpa using ht)]
  split
  ·rw[if_neg (by omega)]
  ·rfl
def JnB(w:World)(G n:Nat)(f:Nat→Nat→Nat):Prop:=Blk w G 138 (jnA n f)
theorem JnB.ext{w w':World}{G n:Nat}{f:Nat→Nat→Nat}(h:JnB w G n f)(E:Ext w w'):JnB w' G n f:=Blk.ext h E
theorem JnB.cell{w:World}{G n:Nat}{f:Nat→Nat→Nat}(h:JnB w G n f){a b:Nat}(ha:a<n)(hb:b<6):w.cell? ⟨G,a*6+b,none⟩=some (.int .u64 (f a b:Nat)):=by rw[Blk.cell h,jnA_get n f ha hb]
theorem JnB.set_{w:World}{G n:Nat}{f:Nat→Nat→Nat}(h:JnB w G n f){a b:Nat}(hb:b<6)(v:Nat):JnB (w.setCell ⟨G,a*6+b,none⟩ (.int .u64 (v:Int))) G n (updN f a b v):=by
 have:=Blk.set_ h (a*6+b) (.int .u64 (v:Int));rwa [jnA_set n f hb] at this
theorem infoJn:(Tryz.prog.info? 138).map (fun i=>(i.zero,i.size,i.bytes))=some (some (.agg #[.int .u64 0,.int .u64 0,.int .u64 0,.int .u64 0,.int .u64 0,.int .u64 0]),6,48):=by kernel_rfl
theorem make_jn(n:Nat)(hn:n≤1000)(w:World):(Instr.makeSlice 118 (.int .i64 (n:Int)) (.int .i64 (n:Int))).run Tryz.prog w = .ok (.slice (some ⟨w.heap.size,0,none⟩) n n) (w.alloc (.cells (jnA n fun _ _=>0) 138)):=by
 obtain⟨i0,hi,hz0,hz1,hz2⟩:=info_parts infoJn;have h:=run_make (P:=Tryz.prog) w 118 138 i0 _ Tryz.underlying118 hi hz0 .i64 .i64 (n:Int) (n:Int) (by omega) (Int.le_refl _) (by rw[hz2];omega) (by omega);rw[h];have e:madeCells (Value.cells (.agg #[.int .u64 0,.int .u64 0,.int .u64 0,.int .u64 0,.int .u64 0,.int .u64 0])) ((n:Int).toNat*i0.size)=jnA n fun _ _=>0:=by
  rw[hz1,Int.toNat_natCast,rowsA_made (sz:=6) rfl (by decide)];unfold rowsA jnA;congr 1;have hz:(Value.cells (.agg #[.int .u64 0,.int .u64 0,.int .u64 0,.int .u64 0,.int .u64 0,.int .u64 0])).toList=List.replicate 6 (.int .u64 0):=rfl;rw[hz,List.flatten_replicate_replicate];refine(List.eq_replicate_iff.2 ⟨by simp,fun v hv=> ?_⟩).symm;obtain⟨t,-,rfl⟩:=List.mem_map.1 hv;rfl
 rw[e];simp
structure PlV where
 X:Nat
 M:Nat
 H:Nat
 G:Nat
 CA:Option Addr
 cc:Nat
 gs:Nat→Nat
 cp:Nat→Nat
 mm:List (Pt×Int)
def evB(b:Bool):Value:= .bool b
structure PlanAt(w:World)(m:MB)(p:PlV)(hm:List (Int×Bool)):Prop where
 x:Blk w p.X 121 #[.slice m.QA m.qs.length m.qc,.slice m.B m.bs.length m.cb,.int .i64 m.tab,.slice m.HA m.hands.length m.hc,.slice p.CA m.bs.length p.cc,.map (some p.M),.slice (some ⟨p.G,0,none⟩) m.bs.length m.bs.length,.map (some p.H)]
 c:SliceIs w p.CA m.bs.length p.cc 1 ((clC p.gs (clen m.ks m.bs) p.cp m.bs.length).map fun v=> [v])
 r:CBl m.ks m.bs w p.gs p.cp m.bs.length
 at_:MapOf encPt evI w p.M p.mm
 k:BrkMap m.ks m.bs p.mm
 j:JnB w p.G m.bs.length (joinF m.ks m.bs (linkL m.ks m.bs))
 h:MapOf enc6 evB w p.H hm
 ne:p.M≠p.H
 hk: ∀(z:Nat) b,getK hm (z:Int)=some b→b=holdB m.ks m.bs m.tab m.hands z
theorem PlanAt.ext{w w':World}{m:MB}{p:PlV}{hm:List (Int×Bool)}(h:PlanAt w m p hm)(E:Ext w w'):PlanAt w' m p hm:=⟨h.x.ext E,h.c.ext E,h.r.ext E,h.at_.ext E,h.k,h.j.ext E,h.h.ext E,h.ne,h.hk⟩
def PlV.v(p:PlV):Value:= .pointer (some ⟨p.X,0,none⟩)
theorem PlanAt.addr{w:World}{m:MB}{p:PlV}{hm:List (Int×Bool)}(h:PlanAt w m p hm)(h0:0<m.bs.length): ∃g off,p.CA=some ⟨g,off,none⟩:=by
 obtain⟨g,off,hA,-,-⟩:=SliceIs.cells h.c h0;exact⟨g,off,hA⟩
theorem PlanAt.row{w:World}{m:MB}{p:PlV}{hm:List (Int×Bool)}(h:PlanAt w m p hm){j g off:Nat}(hj:j<m.bs.length)(hA:p.CA=some ⟨g,off,none⟩):w.cell? ⟨g,off+j,none⟩=some (.slice (some ⟨p.gs j,0,none⟩) (clen m.ks m.bs j) (p.cp j)):=by
 obtain⟨g',off',hA',-,hc⟩:=SliceIs.cells h.c (by omega);rw[hA'] at hA;cases hA;have hr:((clC p.gs (clen m.ks m.bs) p.cp m.bs.length).map fun v=> [v])[j]? = some [.slice (some ⟨p.gs j,0,none⟩) (clen m.ks m.bs j) (p.cp j)]:=by rw[List.getElem?_map,clC_at hj];rfl
 have:=hc j _ hr 0 _ rfl;rwa [Nat.mul_one,Nat.add_zero] at this
theorem Only.blk{K:Nat→Prop}{w w':World}(O:Only K w w'){g:Nat}{t:TypeId}{cs:Array Value}(h:Blk w g t cs)(hg: ¬K g):Blk w' g t cs:=(O.block g h.lt hg).trans h
theorem Only.slice{H:Nat}{w w':World}(O:Only (fun k=>k=H) w w'){m:List (Int×Bool)}(hM:MapOf enc6 evB w H m){A:Option Addr}{n cap sz:Nat}{rows:List (List Value)}(h:SliceIs w A n cap sz rows)(hsz:0<sz):SliceIs w' A n cap sz rows:=by
 obtain⟨h1,h2,h3,h4,h5⟩:=h;refine⟨h1,h2,h3,h4,fun hn=> ?_⟩;obtain⟨b,off,hA,hb,hc⟩:=h5 hn;have hne: ¬b=H:=by
  rintro rfl;obtain⟨es,clock,hh,-⟩:=hM;have hr:rows[0]? = some (rows[0]'(by omega)):=List.getElem?_eq_getElem _;have hl:=h4 _ (List.mem_of_getElem? hr);have hj:(rows[0]'(by omega))[0]? = some ((rows[0]'(by omega))[0]'(by omega)):=List.getElem?_eq_getElem _;have:=hc 0 _ hr 0 _ hj;unfold World.cell? at this;rw[hh] at this;simp at this
 refine⟨b,off,hA,Nat.lt_of_lt_of_le hb O.size,fun i r hr j u hu=> ?_⟩;have:=hc i r hr j u hu;unfold World.cell? at this ⊢;rw[O.block b hb hne];exact this
theorem PlanAt.only{w w':World}{m:MB}{p:PlV}{hm hm':List (Int×Bool)}(h:PlanAt w m p hm)(O:Only (fun k=>k=p.H) w w')(M':MapOf enc6 evB w' p.H hm')(hk: ∀(z:Nat) b,getK hm' (z:Int)=some b→b=holdB m.ks m.bs m.tab m.hands z):PlanAt w' m p hm':=by
 refine⟨O.blk h.x (fun e=>h.h.blk_ne h.x e.symm),O.slice h.h h.c (by decide),fun i hi=> ?_,?_,h.k,O.blk h.j (fun e=>h.h.blk_ne h.j e.symm),M',h.ne,hk⟩
 ·obtain⟨h1,h2,ex,h3⟩:=h.r i hi;exact⟨h1,h2,ex,O.blk h3 (fun e=>h.h.blk_ne h3 e.symm)⟩
 ·obtain⟨es,clock,h1,h2,h3⟩:=h.at_;exact⟨es,clock,(O.block _ (Array.getElem?_eq_some_iff.1 h1).1 h.ne).trans h1,h2,h3⟩
def lineP(c:Pt)(d:Nat):Int×Int :=
 match d with
 | 0=>(c.y,c.z)
 | 1=>(c.y,c.z)
 | 2=>(c.x,c.z)
 | 3=>(c.x,c.z)
 | _=>(c.x,c.y)
def farP(c:Pt)(d:Nat):Int :=
 match d with
 | 0=>c.x
 | 1=> -c.x
 | 2=>c.y
 | 3=> -c.y
 | 4=>c.z
 | _=> -c.z
theorem back_line{c p:Pt}{d:Nat}(hd:d<6):(∃t,1≤t∧backP d t c=p)↔lineP p d=lineP c d∧farP p d<farP c d:=by
 constructor
 ·rintro⟨t,h1,rfl⟩;refine step_cases (P:=fun d=>lineP (backP d t c) d=lineP c d∧farP (backP d t c) d<farP c d) ?_ ?_ ?_ ?_ ?_ ?_ hd<;>(simp only[lineP,farP,backP,stepS,Prod.mk.injEq];omega)
 ·rintro⟨h1,h2⟩;refine⟨(farP c d-farP p d).toNat,by omega,?_⟩;obtain⟨x,y,z⟩:=c;obtain⟨a,b,e⟩:=p;revert h1 h2;refine step_cases (P:=fun d=>lineP ⟨a,b,e⟩ d=lineP ⟨x,y,z⟩ d→farP ⟨a,b,e⟩ d<farP ⟨x,y,z⟩ d→backP d (farP ⟨x,y,z⟩ d-farP ⟨a,b,e⟩ d).toNat ⟨x,y,z⟩=⟨a,b,e⟩) ?_ ?_ ?_ ?_ ?_ ?_ hd<;>(simp only[lineP,farP,backP,stepS,Pt.mk.injEq,Prod.mk.injEq];omega)
theorem line_same{c p:Pt}{d:Nat}(hd:d<6)(h1:lineP c d=lineP p d)(h2:farP c d=farP p d):c=p:=by
 obtain⟨x,y,z⟩:=c;obtain⟨a,b,e⟩:=p;revert h1 h2;refine step_cases (P:=fun d=>lineP ⟨x,y,z⟩ d=lineP ⟨a,b,e⟩ d→farP ⟨x,y,z⟩ d=farP ⟨a,b,e⟩ d→(⟨x,y,z⟩:Pt)=⟨a,b,e⟩) ?_ ?_ ?_ ?_ ?_ ?_ hd<;>(simp only[lineP,farP,Pt.mk.injEq,Prod.mk.injEq];omega)
structure FrontOf(d:Nat)(D:Nat→Pt→Prop)(m:List ((Int×Int)×(Nat×Int))):Prop where
 has: ∀i c,D i c→getK m (lineP c d)≠none
 is: ∀k v,getK m k=some v → ∃c,D v.1 c∧lineP c d=k∧farP c d=v.2 ∧ ∀j p,D j p→lineP p d=k→v.2≤farP p d
theorem FrontOf.nil(d:Nat):FrontOf d (fun _ _=>False) []:=⟨fun _ _ h=>h.elim,fun _ _ h=>by cases h⟩
theorem FrontOf.congr{d:Nat}{D D':Nat→Pt→Prop}{m:List ((Int×Int)×(Nat×Int))}(h:FrontOf d D m)(e: ∀i c,D i c↔D' i c):FrontOf d D' m :=
 ⟨fun i c hd=>h.has i c ((e i c).2 hd),fun k v hk=>by
  obtain⟨c,h1,h2,h3,h4⟩:=h.is k v hk
  exact⟨c,(e _ _).1 h1,h2,h3,fun j p hj=>h4 j p ((e j p).2 hj)⟩⟩
theorem FrontOf.put{d:Nat}{D:Nat→Pt→Prop}{m:List ((Int×Int)×(Nat×Int))}(h:FrontOf d D m)(i:Nat)(c:Pt)(hf: ∀v,getK m (lineP c d)=some v→farP c d<v.2):FrontOf d (fun j p=>D j p∨(j=i∧p=c)) (putK m (lineP c d) (i,farP c d)):=by
 refine⟨fun j p hj=> ?_,fun k v hk=> ?_⟩
 ·rw[getK_putK];by_cases e:lineP p d=lineP c d
  ·rw[if_pos e];simp
  ·rw[if_neg e];rcases hj with hj|⟨-,rfl⟩
   ·exact h.has j p hj
   ·exact absurd rfl e
 ·rw[getK_putK] at hk;by_cases e:k=lineP c d
  ·subst e;rw[if_pos rfl] at hk;obtain rfl:=Option.some.inj hk;refine⟨c,Or.inr ⟨rfl,rfl⟩,rfl,rfl,fun j p hj hp=> ?_⟩;rcases hj with hj|⟨-,rfl⟩
   ·cases hg:getK m (lineP c d) with
    | none=>exact absurd (hp▸hg) (h.has j p hj)
    | some v =>
     obtain⟨c',-,-,-,h4⟩:=h.is _ _ hg;have:=hf v hg;have:=h4 j p hj hp;show farP c d≤farP p d
     omega
   ·exact Int.le_refl _
  ·rw[if_neg e] at hk;obtain⟨c',h1,h2,h3,h4⟩:=h.is k v hk;refine⟨c',Or.inl h1,h2,h3,fun j p hj hp=> ?_⟩;rcases hj with hj|⟨-,rfl⟩
   ·exact h4 j p hj hp
   ·exact absurd hp.symm e
theorem FrontOf.keep{d:Nat}{D:Nat→Pt→Prop}{m:List ((Int×Int)×(Nat×Int))}(h:FrontOf d D m)(i:Nat)(c:Pt){v:Nat×Int}(hg:getK m (lineP c d)=some v)(hf: ¬farP c d<v.2):FrontOf d (fun j p=>D j p∨(j=i∧p=c)) m:=by
 refine⟨fun j p hj=> ?_,fun k u hk=> ?_⟩
 ·rcases hj with hj|⟨-,rfl⟩
  ·exact h.has j p hj
  ·rw[hg];simp
 ·obtain⟨c',h1,h2,h3,h4⟩:=h.is k u hk;refine⟨c',Or.inl h1,h2,h3,fun j p hj hp=> ?_⟩;rcases hj with hj|⟨-,rfl⟩
  ·exact h4 j p hj hp
  ·subst hp;rw[hg] at hk;obtain rfl:=Option.some.inj hk;omega
def DoneC(ks:List Knd)(bs:List Brk)(z q r:Nat)(i:Nat)(c:Pt):Prop:=(∃k,k<q∧i=memA z k∧c∈bcells ks (brkAt bs i))∨(i=memA z q∧c∈(bcells ks (brkAt bs (memA z q))).take r)
section
variable {ks:List Knd} {bs:List Brk} {z q r d:Nat}
theorem DoneC.zero(i:Nat)(c:Pt):False↔DoneC ks bs z 0 0 i c:=by
 constructor
 ·exact False.elim
 ·rintro(⟨k,h,-⟩|⟨-,h⟩)
  ·omega
  ·cases h
theorem DoneC.succ{c:Pt}(hc:(bcells ks (brkAt bs (memA z q)))[r]? = some c)(i:Nat)(p:Pt):(DoneC ks bs z q r i p∨(i=memA z q∧p=c))↔DoneC ks bs z q (r+1) i p:=by
 unfold DoneC;rw[List.take_add_one,hc,Option.toList_some,List.mem_append,List.mem_singleton];constructor
 ·rintro((h|⟨h1,h2⟩)|⟨h1,h2⟩)
  ·exact Or.inl h
  ·exact Or.inr ⟨h1,Or.inl h2⟩
  ·exact Or.inr ⟨h1,Or.inr h2⟩
 ·rintro(h|⟨h1,h2|h2⟩)
  ·exact Or.inl (Or.inl h)
  ·exact Or.inl (Or.inr ⟨h1,h2⟩)
  ·exact Or.inr ⟨h1,h2⟩
theorem DoneC.next(i:Nat)(p:Pt):DoneC ks bs z q (bcells ks (brkAt bs (memA z q))).length i p↔DoneC ks bs z (q+1) 0 i p:=by
 unfold DoneC;rw[List.take_length,List.take_zero];constructor
 ·rintro(⟨k,h1,h2,h3⟩|⟨h1,h2⟩)
  ·exact Or.inl ⟨k,by omega,h2,h3⟩
  ·exact Or.inl ⟨q,by omega,h1,by rw[h1];exact h2⟩
 ·rintro(⟨k,h1,h2,h3⟩|⟨-,h2⟩)
  ·rcases Nat.lt_or_ge k q with h|h
   ·exact Or.inl ⟨k,h,h2,h3⟩
   ·obtain rfl:k=q:=by omega
    exact Or.inr ⟨h2,by rw[←h2];exact h3⟩
  ·cases h2
theorem DoneC.all{n:Nat}(hz:SetB n z)(hn:n≤64)(i:Nat)(p:Pt):DoneC ks bs z (setL z).length 0 i p↔z.testBit i=true∧p∈bcells ks (brkAt bs i):=by
 unfold DoneC;rw[List.take_zero];constructor
 ·rintro(⟨k,h1,h2,h3⟩|⟨-,h2⟩)
  ·exact⟨by rw[h2];exact(setL_of hz hn).1 (List.mem_of_getElem? (memA_get h1)),h3⟩
  ·cases h2
 ·rintro⟨h1,h2⟩;obtain⟨k,hk⟩:=List.getElem?_of_mem ((setL_of hz hn).2 h1);exact Or.inl ⟨k,(List.getElem?_eq_some_iff.1 hk).1,(memA_eq hk).symm,h2⟩
theorem front_seen(hf:Fit ks bs)(hz:SetB bs.length z)(hd:d<6){m:List ((Int×Int)×(Nat×Int))}(h:FrontOf d (DoneC ks bs z (setL z).length 0) m)(i:Nat):(∃k v,getK m k=some v∧v.1=i)↔z.testBit i=true∧seeB ks bs z i d=true:=by
 have hn:bs.length≤64:=by have:=hf.n;omega
 constructor
 ·rintro⟨k,v,hk,rfl⟩;obtain⟨c,h1,h2,h3,h4⟩:=h.is k v hk;obtain⟨a1,a2⟩:=(DoneC.all hz hn _ _).1 h1;refine⟨a1,seeB_iff.2 ⟨c,a2,fun j hj hne t ht hm=> ?_⟩⟩;obtain⟨b1,b2⟩:=(back_line (c:=c) hd).1 ⟨t,ht,rfl⟩;have:=h4 j _ ((DoneC.all hz hn _ _).2 ⟨hj,hm⟩) (by rw[b1,h2]);omega
 ·rintro⟨h1,h2⟩;obtain⟨c,hc,hv⟩:=seeB_iff.1 h2;cases hg:getK m (lineP c d) with
  | none=>exact absurd hg (h.has i c ((DoneC.all hz hn _ _).2 ⟨h1,hc⟩))
  | some v =>
   refine⟨_,v,hg,?_⟩;obtain⟨p,a1,a2,a3,a4⟩:=h.is _ _ hg;obtain⟨b1,b2⟩:=(DoneC.all hz hn _ _).1 a1;have hle:=a4 i c ((DoneC.all hz hn _ _).2 ⟨h1,hc⟩) rfl;by_cases he:farP p d=farP c d
   ·obtain rfl:=line_same hd a2 he;exact hf.o _ _ (hz _ b1) (hz _ h1) p b2 hc
   ·by_cases hi:v.1=i
    ·exact hi
    ·obtain⟨t,ht,hb⟩:=(back_line (p:=p) hd).2 ⟨a2,by omega⟩;exact absurd (by rw[hb];exact b2) (hv v.1 b1 hi t ht)
end
end Go.Proofs.YtojolpbpjimfgaaGreatDoor
