/- Texts of the proof: Reg, RLikeW, SortLaid. -/
import Derived.Test.YtojolpbpjimfgaaGreatDoorZy1
import Derived.Test.YtojolpbpjimfgaaGreatDoorZy7
import Derived.Test.YtojolpbpjimfgaaGreatDoorZy8
import Derived.RegionIn
import Derived.Shelf.SlLaysF0
import Derived.Test.YtojolpbpjimfgaaGreatDoorProg
namespace Go.Proofs.YtojolpbpjimfgaaGreatDoor
open Go.RowKit
theorem bfl{a b:Bool}(h:a=true→b=true)(hb:b=false):a=false:=by
 cases a
 ·rfl
 ·rw[hb] at h;exact(h rfl).symm
def putAll(us:Nat→Value):List Oper→Nat→Act→Act
 | [],_,a=>a
 | o::l,i,a=>putAll us l (i+1) (a.put o.dst (us i))
def updF{α:Type}(f:Nat→α)(i:Nat)(v:α):Nat→α:=fun k=>bif Nat.beq k i then v else f k
theorem updF_at{α:Type}(f:Nat→α)(i:Nat)(v:α):updF f i v i=v:=by simp[updF,Nat.beq_refl]
theorem updF_ne{α:Type}(f:Nat→α){i k:Nat}(v:α)(h:k≠i):updF f i v k=f k:=by
 have:Nat.beq k i=false:=by
  cases hb:Nat.beq k i
  ·rfl
  ·exact absurd (Nat.eq_of_beq_eq_true hb) h
 simp[updF,this]
theorem put_put(a:Act)(d:Tmp)(u v:Value):(a.put (some d) u).put (some d) v=a.put (some d) v:=by
 simp[Act.put]
theorem put_ne(a:Act){x y:Option Tmp}(u v:Value)(h: ∀d,x=some d→y≠some d):(a.put x u).put y v=(a.put y v).put x u:=by
 cases x with
 | none=>rfl
 | some d =>
  cases y with
  | none=>rfl
  | some e =>
   have:d≠e:=fun he=>h d rfl (by rw[he]);simp[Act.put,Array.setIfInBounds_comm _ _ this]
def dsts(l:List Oper):List Tmp:=l.filterMap (·.dst)
theorem putAll_put{us:Nat→Value}{x:Option Tmp}(v:Value): ∀(l:List Oper) (i:Nat) (a:Act),(∀d,x=some d→d ∉ dsts l)→putAll us l i (a.put x v)=(putAll us l i a).put x v
 | [],_,_,_=>rfl
 | o::l,i,a,h=>by
  show putAll us l (i+1) ((a.put x v).put o.dst (us i))=(putAll us l (i+1) (a.put o.dst (us i))).put x v
  rw[put_ne,putAll_put v l (i+1) _ fun d hd hm=>h d hd (by
   unfold dsts at hm ⊢;rw[List.filterMap_cons]
   split
   ·exact hm
   ·exact List.mem_cons_of_mem _ hm)]
  intro d hd he;refine h d hd ?_;unfold dsts;rw[List.filterMap_cons,he];exact List.mem_cons_self ..
theorem putAll_congr{us vs:Nat→Value}: ∀(l:List Oper) (i:Nat) (a:Act),(∀k,i≤k→us k=vs k)→putAll us l i a=putAll vs l i a
 | [],_,_,_=>rfl
 | o::l,i,a,h=>by
  show putAll us l (i+1) (a.put o.dst (us i))=putAll vs l (i+1) (a.put o.dst (vs i))
  rw[h i (Nat.le_refl _)];exact putAll_congr l (i+1) _ fun k hk=>h k (by omega)
theorem putAll_upd{us:Nat→Value}(v:Value): ∀(l:List Oper) (k:Nat) (a:Act) (j:Nat) (o:Oper),(dsts l).Nodup→l[j]? = some o→(putAll us l k a).put o.dst v=putAll (updF us (k+j) v) l k a
 | [],_,_,_,_,_,h=>by simp at h
 | q::l,k,a,0,o,hn,h=>by
  obtain rfl:q=o:=by simpa using h
  show(putAll us l (k+1) (a.put q.dst (us k))).put q.dst v=putAll (updF us (k+0) v) l (k+1) (a.put q.dst (updF us (k+0) v k))
  have hx: ∀d,q.dst=some d→d ∉ dsts l:=fun d hd hm=>by
   unfold dsts at hn hm;rw[List.filterMap_cons,hd] at hn;exact(List.nodup_cons.1 hn).1 hm
  have e0:updF us (k+0) v k=v:=updF_at us k v;rw[←putAll_put v l _ _ hx,e0];rw[putAll_congr (us:=updF us (k+0) v) (vs:=us) l (k+1) _ fun m hm=>updF_ne _ _ (by omega)];congr 1;cases hd:q.dst with
  | none=>rfl
  | some d=>exact put_put _ _ _ _
 | q::l,k,a,j+1,o,hn,h=>by
  show(putAll us l (k+1) (a.put q.dst (us k))).put o.dst v=putAll (updF us (k+(j+1)) v) l (k+1) (a.put q.dst (updF us (k+(j+1)) v k))
  have hn':(dsts l).Nodup:=by
   unfold dsts at hn ⊢;rw[List.filterMap_cons] at hn
   split at hn
   ·exact hn
   ·exact(List.nodup_cons.1 hn).2
  rw[putAll_upd v l (k+1) _ j o hn' (by simpa using h),updF_ne _ _ (by omega),show k+1+j=k+(j+1) from by omega]
theorem putAll_self: ∀(l:List Oper) (k:Nat) (a:Act) (us:Nat→Value),(∀j o,l[j]? = some o → ∀d,o.dst=some d→us (k+j)=a.tmps.getD d undef)→putAll us l k a=a
 | [],_,_,_,_=>rfl
 | q::l,k,a,us,h=>by
  show putAll us l (k+1) (a.put q.dst (us k))=a
  have h0:a.put q.dst (us k)=a:=by
   cases hd:q.dst with
   | none=>rfl
   | some d =>
    have:=h 0 q rfl d hd;rw[Nat.add_zero] at this;rw[this];unfold Act.put;simp only;congr 1;apply Array.ext_getElem?;intro i;rw[Array.getElem?_setIfInBounds]
    split
    ·rename_i e;subst e
     split
     ·rename_i hlt;simp[Array.getElem?_eq_getElem hlt]
     ·rename_i hge;rw[Array.getElem?_eq_none (by omega)]
    ·rfl
  rw[h0];exact putAll_self l (k+1) a us fun j o hj d hd=>by
   have:=h (j+1) o (by simpa using hj) d hd;rwa [show k+(j+1)=k+1+j from by omega] at this
def aheadOf(l:List Oper)(i:Nat):List Nat:=match l[i]? with
 | none=> []
 | some o=>(o.after.toList.filter fun e=>Region.binds .any e).map (·.on)
def Region.forthB(l:List Oper):Bool:=(List.range l.length).all fun i=>(aheadOf l i).all fun k=>decide (k<i)
section
variable {P:Program} {l:List Oper} {I:(Nat→Bool)→(Nat→Value)→World→Prop} {a0:Act} {Q:Exit→Act→World→Prop}
theorem h_p{l:List Oper}{i:Nat}{L:Nat→Bool}(h:Hid (∀k,(aheadOf l i).contains k=true→L k=true))(k:Nat)(e:(aheadOf l i).contains k=true:=by kernel_rfl):L k=true:=h.out k e
def OneOp(P:Program)(l:List Oper)(I:(Nat→Bool)→(Nat→Value)→World→Prop)(a0:Act)(Q:Exit→Act→World→Prop)(o:Oper)(i:Nat):Prop :=
 ∀(L:Nat→Bool) (us:Nat→Value) (w:World) (K:Act→World→Prop) (a:Act),putAll us l 0 a0=a→(∀k,(aheadOf l i).contains k=true→L k=true)→(∀j k,L j=true→(aheadOf l j).contains k=true→L k=true)→L i=false→I L us w →
  (∀v w',I (updF L i true) (updF us i v) w'→K (a.put o.dst v) w') →
  if Region.wanted o (yielded l.toArray a.tmps)=true then Oper.wp P o a w K Q else K (a.put o.dst undef) w
def EachOp(P:Program)(l:List Oper)(I:(Nat→Bool)→(Nat→Value)→World→Prop)(a0:Act)(Q:Exit→Act→World→Prop):List Oper→Nat→Prop
 | [],_=>True
 | o::r,i=>OneOp P l I a0 Q o i∧EachOp P l I a0 Q r (i+1)
theorem EachOp.at_: ∀{r:List Oper} {i:Nat},EachOp P l I a0 Q r i → ∀(j:Nat) (o:Oper),r[j]? = some o→OneOp P l I a0 Q o (i+j)
 | [],_,_,_,_,h=>by simp at h
 | q::r,i,h,0,o,ho=>by
  obtain rfl:q=o:=by simpa using ho
  exact h.1
 | q::r,i,h,j+1,o,ho=>by
  have:=EachOp.at_ h.2 j o (by simpa using ho);rwa [show i+(j+1)=i+1+j from by omega]
def Down(l:List Oper)(L:Nat→Bool):Prop:= ∀i k,L i=true→k∈aheadOf l i→L k=true
theorem ahead_ready{listed:Array Bool}{i:Nat}(h:i∈Region.ready .any l.toArray listed): ∀k∈aheadOf l i,listed.getD k false=true:=fun k hk=>by
 obtain⟨-,o,ho,ha⟩:=mem_ready.1 h;have ho':l[i]? = some o:=by simpa using ho
 unfold aheadOf at hk;rw[ho'] at hk;obtain⟨e,he,rfl⟩:=List.mem_map.1 hk;obtain⟨he,hb⟩:=List.mem_filter.1 he;exact ha e (by simpa using he) hb
theorem lt_all{n:Nat}{p:Nat→Prop}(h: ∀i,i<n→(∀k,k<i→p k)→p i): ∀i,i<n→p i:=by
 intro i
 induction i using Nat.strongRecOn with
 | _ i ih=>exact fun hi=>h i hi fun k hk=>ih k hk (by omega)
theorem none_ready{listed:Array Bool}(hf:Region.forthB l=true)(hz:listed.size=l.length)(h:Region.ready .any l.toArray listed = []): ∀i,i<l.length→listed.getD i false=true:=by
 refine lt_all fun i hi hk=> ?_;by_cases hx:listed.getD i false=true
 ·exact hx
 exfalso;have hi':i<listed.size:=by omega
 have hm:i∈Region.ready .any l.toArray listed:=by
  refine mem_ready.2 ⟨?_,l[i],by simp[hi],fun e he hb=>hk e.on ?_⟩
  ·simpa [Array.getElem?_eq_getElem hi'] using hx
  ·unfold Region.forthB at hf;rw[List.all_eq_true] at hf;have:=hf i (List.mem_range.2 hi);rw[List.all_eq_true] at this;refine of_decide_eq_true (this e.on ?_);unfold aheadOf;rw[List.getElem?_eq_getElem hi];exact List.mem_map.2 ⟨e,List.mem_filter.2 ⟨by simpa using he,hb⟩,rfl⟩
 rw[h] at hm;cases hm
theorem listed_upd{listed:Array Bool}{i:Nat}(hi:i<listed.size):(fun k=>(listed.setIfInBounds i true).getD k false)=updF (fun k=>listed.getD k false) i true:=by
 funext k;by_cases h:k=i
 ·subst h;rw[updF_at];simp[hi]
 ·rw[updF_ne _ _ h];exact getD_set_ne false (Ne.symm h)
def fewer(listed:Array Bool):Nat:=(List.range listed.size).countP fun k=> !listed.getD k false
theorem any_by(hn:(dsts l).Nodup)(hf:Region.forthB l=true)(hs:EachOp P l I a0 Q l 0)(he: ∀L us w,(∀k,k<l.length→L k=true)→I L us w→Q .normal (putAll us l 0 a0) w) :
  ∀(fuel:Nat) (listed:Array Bool) (us:Nat→Value) (w:World),listed.size=l.length→(fuel=0 → ∀k,k<l.length→listed.getD k false=true)→(∀k,k<l.length→listed.getD k false=false → ∃f,fuel=f+1) → 
   fewer listed≤fuel→Down l (fun k=>listed.getD k false)→I (fun k=>listed.getD k false) us w→wpAny P .any l.toArray Q fuel listed (putAll us l 0 a0) w:=by
 intro fuel
 induction fuel with
 | zero =>
  intro listed us w hz h0 _ _ _ hI;have hall:=h0 rfl;refine⟨?_,he _ _ _ hall hI⟩;rw[List.eq_nil_iff_forall_not_mem];intro i hi;have hm:=mem_ready.1 hi;obtain⟨hm,o,ho,-⟩:=hm;have hlt:i<l.length:=by
   have:=(Array.getElem?_eq_some_iff.1 ho).1
   simpa using this
  have:=hall i hlt;have hi':i<listed.size:=by omega
  simp[Array.getElem?_eq_getElem hi'] at this hm;rw[hm] at this;cases this
 | succ fuel ih =>
  intro listed us w hz _ _ hfew hD hI;refine⟨fun hr=>he _ _ _ (none_ready hf hz hr) hI,fun i hi=> ?_⟩;obtain⟨hun,o,ho,-⟩:=mem_ready.1 hi;have ho':l[i]? = some o:=by simpa using ho
  have hlt:i<l.length:=(List.getElem?_eq_some_iff.1 ho').1;have hi':i<listed.size:=by omega
  have hun':listed.getD i false=false:=by simpa [Array.getElem?_eq_getElem hi'] using hun
  have hgo:=hs.at_ i o ho';rw[Nat.zero_add] at hgo;have hah:=ahead_ready hi;refine wpOp_step ho fun K' hK'=> ?_;refine hgo _ us w K' _ rfl (fun k hk=> ?_) (fun j k hj hk=> ?_) hun' hI fun v w' hI'=> ?_
  ·exact hah k (by simpa using hk)
  ·exact hD j k hj (by simpa using hk)
  ·rw[putAll_upd v l 0 a0 i o hn ho',Nat.zero_add];refine hK' _ _ ?_;have hle:fewer (listed.setIfInBounds i true)+1≤fewer listed:=by
    unfold fewer;rw[Array.size_setIfInBounds];have h1: ∀(r:List Nat),r.Nodup→i∈r→(r.countP fun k=> !(listed.setIfInBounds i true).getD k false)+1≤r.countP fun k=> !listed.getD k false:=by
     intro r
     induction r with
     | nil=>intro _ h;cases h
     | cons x r ihr =>
      intro hnd hm;rw[List.countP_cons,List.countP_cons];obtain⟨hx,hr⟩:=List.nodup_cons.1 hnd;have mono: ∀(r:List Nat),(r.countP fun k=> !(listed.setIfInBounds i true).getD k false)≤r.countP fun k=> !listed.getD k false:=fun r=>List.countP_mono_left fun k _ hk=>by
       by_cases hki:k=i
       ·subst hki;simp[hun']
       ·rw[getD_set_ne false (Ne.symm hki)] at hk;exact hk
      rcases List.mem_cons.1 hm with rfl|hm
      ·have e1:(listed.setIfInBounds i true).getD i false=true:=by simp[hi']
       have:=mono r;rw[e1,hun'];simp only[Bool.not_true,Bool.not_false,if_true,Bool.false_eq_true,if_false];omega
      ·have:=ihr hr hm;have hki:x≠i:=fun e=>hx (e▸hm);rw[getD_set_ne false (Ne.symm hki)];omega
    exact h1 _ List.nodup_range (List.mem_range.2 hi')
   have hpos: ∀(m:Array Bool),m.size=l.length → ∀k,k<l.length→m.getD k false=false→0<fewer m:=fun m hm k hk hk'=>by
    unfold fewer;rw[List.countP_pos_iff];exact⟨k,List.mem_range.2 (by omega),by simp only[hk',Bool.not_false]⟩
   have hz':(listed.setIfInBounds i true).size=l.length:=by rw[Array.size_setIfInBounds,hz]
   refine ih _ _ _ hz' (fun h0 k hk=> ?_) (fun k hk hk'=> ?_) (by omega) ?_ (by rw[listed_upd hi'];exact hI')
   ·by_cases hx:(listed.setIfInBounds i true).getD k false=true
    ·exact hx
    ·have:=hpos _ hz' k hk (by simpa using hx);omega
   ·have:=hpos _ hz' k hk hk';exact⟨fuel-1,by omega⟩
   ·rw[listed_upd hi'];intro j k hj hk;by_cases hki:k=i
    ·subst hki;exact updF_at _ _ _
    ·rw[updF_ne _ _ hki];by_cases hji:j=i
     ·subst hji;exact hah k hk
     ·rw[updF_ne _ _ hji] at hj;exact hD j k hj hk
theorem wp_region_by{id:Nat}{w:World}(I:(Nat→Bool)→(Nat→Value)→World→Prop)(hm:P.follows .mixedOrders=true)(hn:decide (dsts l).Nodup=true)(hf:Region.forthB l=true)
  (h0: ∀us,I (fun _=>false) us w.drew) (hs:EachOp P l I a0 Q l 0) (he: ∀L us w,(∀k,k<l.length→L k=true)→I L us w→Q .normal (putAll us l 0 a0) w):(Code.region id l.toArray true).wp P Q a0 w:=by
 refine wp_region_any hm ?_;have ea:putAll (fun k=>((l[k]?).bind (·.dst)).elim undef fun d=>a0.tmps.getD d undef) l 0 a0=a0:=putAll_self l 0 a0 _ fun j o hj d hd=>by
  simp[hj,hd]
 have eL:(fun k=>(Array.replicate l.toArray.size false).getD k false)=fun _=>false:=by
  funext k;rw[Array.getD_eq_getD_getElem?,Array.getElem?_replicate]
  split <;> rfl
 have:=any_by (of_decide_eq_true hn) hf hs he l.toArray.size (Array.replicate l.toArray.size false) (fun k=>((l[k]?).bind (·.dst)).elim undef fun d=>a0.tmps.getD d undef) w.drew (by simp) (fun h k hk=>by simp at h;simp[h] at hk) (fun k hk _=>⟨l.length-1,by simp;omega⟩)
  (by unfold fewer;refine Nat.le_trans List.countP_le_length ?_;simp) (fun i k hi=>by rw[eL] at hi;cases hi) (by rw[eL];exact h0 _)
 rw[ea] at this;exact this
end
/-! Inside a fence. -/
section
variable {F:Fence} {n:Nat} {P:Program} {l:List Oper} {I:(Nat→Bool)→(Nat→Value)→World→Prop} {a0:Act} {Q:Exit→Act→World→Prop}
def OneOpIn(F:Fence)(n:Nat)(P:Program)(l:List Oper)(I:(Nat→Bool)→(Nat→Value)→World→Prop)(a0:Act)(Q:Exit→Act→World→Prop)(o:Oper)(i:Nat):Prop :=
 ∀(L:Nat→Bool) (us:Nat→Value) (w:World) (K:Act→World→Prop) (a:Act),putAll us l 0 a0=a→(∀k,(aheadOf l i).contains k=true→L k=true)→(∀j k,L j=true→(aheadOf l j).contains k=true→L k=true)→L i=false→I L us w →
  (∀v w',I (updF L i true) (updF us i v) w'→K (a.put o.dst v) w') →
  if Region.wanted o (yielded l.toArray a.tmps)=true then Oper.wpIn F n P o a w K Q else(∀f,o.about P w a.eval=some f→F.fn f)∧K (a.put o.dst undef) w
def EachOpIn(F:Fence)(n:Nat)(P:Program)(l:List Oper)(I:(Nat→Bool)→(Nat→Value)→World→Prop)(a0:Act)(Q:Exit→Act→World→Prop):List Oper→Nat→Prop
 | [],_=>True
 | o::r,i=>OneOpIn F n P l I a0 Q o i∧EachOpIn F n P l I a0 Q r (i+1)
theorem EachOpIn.at_: ∀{r:List Oper} {i:Nat},EachOpIn F n P l I a0 Q r i → ∀(j:Nat) (o:Oper),r[j]? = some o→OneOpIn F n P l I a0 Q o (i+j)
 | [],_,_,_,_,h=>by simp at h
 | q::r,i,h,0,o,ho=>by
  obtain rfl:q=o:=by simpa using ho
  exact h.1
 | q::r,i,h,j+1,o,ho=>by
  have:=EachOpIn.at_ h.2 j o (by simpa using ho);rwa [show i+(j+1)=i+1+j from by omega]
theorem anyIn_by(hn:(dsts l).Nodup)(hf:Region.forthB l=true)(hs:EachOpIn F n P l I a0 Q l 0)(he: ∀L us w,(∀k,k<l.length→L k=true)→I L us w→Q .normal (putAll us l 0 a0) w) :
  ∀(fuel:Nat) (listed:Array Bool) (us:Nat→Value) (w:World),listed.size=l.length→(fuel=0 → ∀k,k<l.length→listed.getD k false=true)→(∀k,k<l.length→listed.getD k false=false → ∃f,fuel=f+1) → 
   fewer listed≤fuel→Down l (fun k=>listed.getD k false)→I (fun k=>listed.getD k false) us w→wpAnyIn F n P .any l.toArray Q fuel listed (putAll us l 0 a0) w:=by
 intro fuel
 induction fuel with
 | zero =>
  intro listed us w hz h0 _ _ _ hI;have hall:=h0 rfl;refine⟨?_,he _ _ _ hall hI⟩;rw[List.eq_nil_iff_forall_not_mem];intro i hi;have hm:=mem_ready.1 hi;obtain⟨hm,o,ho,-⟩:=hm;have hlt:i<l.length:=by
   have:=(Array.getElem?_eq_some_iff.1 ho).1
   simpa using this
  have:=hall i hlt;have hi':i<listed.size:=by omega
  simp[Array.getElem?_eq_getElem hi'] at this hm;rw[hm] at this;cases this
 | succ fuel ih =>
  intro listed us w hz _ _ hfew hD hI;refine⟨fun hr=>he _ _ _ (none_ready hf hz hr) hI,fun i hi=> ?_⟩;obtain⟨hun,o,ho,-⟩:=mem_ready.1 hi;have ho':l[i]? = some o:=by simpa using ho
  have hlt:i<l.length:=(List.getElem?_eq_some_iff.1 ho').1;have hi':i<listed.size:=by omega
  have hun':listed.getD i false=false:=by simpa [Array.getElem?_eq_getElem hi'] using hun
  have hgo:=hs.at_ i o ho';rw[Nat.zero_add] at hgo;have hah:=ahead_ready hi;refine wpOpIn_step ho fun K' hK'=> ?_;refine hgo _ us w K' _ rfl (fun k hk=> ?_) (fun j k hj hk=> ?_) hun' hI fun v w' hI'=> ?_
  ·exact hah k (by simpa using hk)
  ·exact hD j k hj (by simpa using hk)
  ·rw[putAll_upd v l 0 a0 i o hn ho',Nat.zero_add];refine hK' _ _ ?_;have hle:fewer (listed.setIfInBounds i true)+1≤fewer listed:=by
    unfold fewer;rw[Array.size_setIfInBounds];have h1: ∀(r:List Nat),r.Nodup→i∈r→(r.countP fun k=> !(listed.setIfInBounds i true).getD k false)+1≤r.countP fun k=> !listed.getD k false:=by
     intro r
     induction r with
     | nil=>intro _ h;cases h
     | cons x r ihr =>
      intro hnd hm;rw[List.countP_cons,List.countP_cons];obtain⟨hx,hr⟩:=List.nodup_cons.1 hnd;have mono: ∀(r:List Nat),(r.countP fun k=> !(listed.setIfInBounds i true).getD k false)≤r.countP fun k=> !listed.getD k false:=fun r=>List.countP_mono_left fun k _ hk=>by
       by_cases hki:k=i
       ·subst hki;simp[hun']
       ·rw[getD_set_ne false (Ne.symm hki)] at hk;exact hk
      rcases List.mem_cons.1 hm with rfl|hm
      ·have e1:(listed.setIfInBounds i true).getD i false=true:=by simp[hi']
       have:=mono r;rw[e1,hun'];simp only[Bool.not_true,Bool.not_false,if_true,Bool.false_eq_true,if_false];omega
      ·have:=ihr hr hm;have hki:x≠i:=fun e=>hx (e▸hm);rw[getD_set_ne false (Ne.symm hki)];omega
    exact h1 _ List.nodup_range (List.mem_range.2 hi')
   have hpos: ∀(m:Array Bool),m.size=l.length → ∀k,k<l.length→m.getD k false=false→0<fewer m:=fun m hm k hk hk'=>by
    unfold fewer;rw[List.countP_pos_iff];exact⟨k,List.mem_range.2 (by omega),by simp only[hk',Bool.not_false]⟩
   have hz':(listed.setIfInBounds i true).size=l.length:=by rw[Array.size_setIfInBounds,hz]
   refine ih _ _ _ hz' (fun h0 k hk=> ?_) (fun k hk hk'=> ?_) (by omega) ?_ (by rw[listed_upd hi'];exact hI')
   ·by_cases hx:(listed.setIfInBounds i true).getD k false=true
    ·exact hx
    ·have:=hpos _ hz' k hk (by simpa using hx);omega
   ·have:=hpos _ hz' k hk hk';exact⟨fuel-1,by omega⟩
   ·rw[listed_upd hi'];intro j k hj hk;by_cases hki:k=i
    ·subst hki;exact updF_at _ _ _
    ·rw[updF_ne _ _ hki];by_cases hji:j=i
     ·subst hji;exact hah k hk
     ·rw[updF_ne _ _ hji] at hj;exact hD j k hj hk
theorem wpIn_region_by{id:Nat}{w:World}(I:(Nat→Bool)→(Nat→Value)→World→Prop)(hm:P.follows .mixedOrders=true)(hn:decide (dsts l).Nodup=true)(hf:Region.forthB l=true)
  (h0: ∀us,I (fun _=>false) us w.drew) (hs:EachOpIn F n P l I a0 Q l 0) (he: ∀L us w,(∀k,k<l.length→L k=true)→I L us w→Q .normal (putAll us l 0 a0) w):(Code.region id l.toArray true).wpIn F n P Q a0 w:=by
 refine wpIn_region_any hm ?_;have ea:putAll (fun k=>((l[k]?).bind (·.dst)).elim undef fun d=>a0.tmps.getD d undef) l 0 a0=a0:=putAll_self l 0 a0 _ fun j o hj d hd=>by
  simp[hj,hd]
 have eL:(fun k=>(Array.replicate l.toArray.size false).getD k false)=fun _=>false:=by
  funext k;rw[Array.getD_eq_getD_getElem?,Array.getElem?_replicate]
  split <;> rfl
 have:=anyIn_by (of_decide_eq_true hn) hf hs he l.toArray.size (Array.replicate l.toArray.size false) (fun k=>((l[k]?).bind (·.dst)).elim undef fun d=>a0.tmps.getD d undef) w.drew (by simp) (fun h k hk=>by simp at h;simp[h] at hk) (fun k hk _=>⟨l.length-1,by simp;omega⟩)
  (by unfold fewer;refine Nat.le_trans List.countP_le_length ?_;simp) (fun i k hi=>by rw[eL] at hi;cases hi) (by rw[eL];exact h0 _)
 rw[ea] at this;exact this
end
/-! Blocks that operations make, each its own. -/
def bk:Value→Nat
 | .pointer (some a)=>a.block
 | .slice (some a) _ _=>a.block
 | _=>0
structure Owns(N:List Nat)(W0:World)(L:Nat→Bool)(us:Nat→Value)(w:World):Prop where
 e:Ext W0 w
 lt: ∀i∈N,L i=true→W0.heap.size≤bk (us i)∧bk (us i)<w.heap.size
 ne: ∀i∈N,∀j∈N,i≠j→L i=true→L j=true→bk (us i)≠bk (us j)
section
variable {N:List Nat} {W0 w w':World} {L:Nat→Bool} {us:Nat→Value}
theorem Owns.start(h:Ext W0 w):Owns N W0 (fun _=>false) us w:=⟨h,(fun _ _ h=>by cases h),(fun _ _ _ _ _ h=>by cases h)⟩
theorem Owns.ext(h:Owns N W0 L us w){i:Nat}(hi:N.contains i=false)(v:Value)(E:Ext w w'):Owns N W0 (updF L i true) (updF us i v) w':=by
 have hn: ∀k∈N,k≠i:=fun k hk e=>by
  subst e;simp[hk] at hi
 refine⟨h.e.trans E,fun k hk hl=> ?_,fun j hj k hk hjk hl hm=> ?_⟩
 ·rw[updF_ne _ _ (hn k hk)] at hl ⊢;have:=h.lt k hk hl;have:=E.size;omega
 ·rw[updF_ne _ _ (hn k hk)] at hm ⊢;rw[updF_ne _ _ (hn j hj)] at hl ⊢;exact h.ne j hj k hk hjk hl hm
theorem Owns.pure(h:Owns N W0 L us w){i:Nat}(hi:N.contains i=false)(v:Value):Owns N W0 (updF L i true) (updF us i v) w:=h.ext hi v (Ext.refl w)
theorem Owns.new(h:Owns N W0 L us w){i:Nat}(hl:L i=false)(v:Value)(E:Ext w w')(h1:w.heap.size≤bk v)(h2:bk v<w'.heap.size):Owns N W0 (updF L i true) (updF us i v) w':=by
 have hs:=E.size;have hs0:=h.e.size;refine⟨h.e.trans E,fun k hk hlk=> ?_,fun j hj k hk hjk hlj hlk=> ?_⟩
 ·by_cases hki:k=i
  ·subst hki;rw[updF_at];omega
  ·rw[updF_ne _ _ hki] at hlk ⊢;have:=h.lt k hk hlk;omega
 ·by_cases hki:k=i
  ·subst hki;have hji:j≠k:=hjk;rw[updF_ne _ _ hji] at hlj ⊢;rw[updF_at];have:=h.lt j hj hlj;omega
  ·rw[updF_ne _ _ hki] at hlk ⊢;by_cases hji:j=i
   ·subst hji;rw[updF_at];have:=h.lt k hk hlk;omega
   ·rw[updF_ne _ _ hji] at hlj ⊢;exact h.ne j hj k hk hjk hlj hlk
theorem Owns.set_(h:Owns N W0 L us w){i:Nat}(hi:N.contains i=false)(v:Value){p:Nat}(hp:N.contains p=true)(hl:L p=true)(hk: ∀W,Ext W w→W.heap.size≤bk (us p)→Ext W w')(hz:w'.heap.size=w.heap.size):Owns N W0 (updF L i true) (updF us i v) w':=by
 have hpl:=h.lt p (by simpa using hp) hl;have h':Owns N W0 L us w':=⟨hk W0 h.e hpl.1,fun k hk hl=>by rw[hz];exact h.lt k hk hl,h.ne⟩;exact h'.pure hi v
theorem Owns.far(h:Owns N W0 L us w){i j:Nat}(hi:N.contains i=true)(hj:N.contains j=true)(hij:i≠j)(h1:L i=true)(h2:L j=true):bk (us i)≠bk (us j):=h.ne i (by simpa using hi) j (by simpa using hj) hij h1 h2
end
def RowV(w:World)(v:Value)(n:Nat)(l:List Pt):Prop:= ∃cp,v = .slice (some ⟨bk v,0,none⟩) n cp∧n≤cp∧cp≤maxLen∧RowX w (bk v) 124 (l.map Pt.cs)
theorem RowV.ext{w w':World}{v:Value}{n:Nat}{l:List Pt}(h:RowV w v n l)(E:Ext w w'):RowV w' v n l:=by
 obtain⟨cp,h1,h2,h3,h4⟩:=h;exact⟨cp,h1,h2,h3,h4.ext E⟩
theorem RowX.far{w:World}{g:Nat}{t:TypeId}{rows:List (List Value)}(h:RowX w g t rows){p:Addr}(hp:g≠p.block)(u:Value):RowX (w.setCell p u) g t rows:=by
 obtain⟨ex,hb⟩:=h;exact⟨ex,hb.far hp u⟩
theorem pts_wide'(l:List Pt): ∀r∈l.map Pt.cs,r.length=3:=fun r h=>by
 obtain⟨p,_,rfl⟩:=List.mem_map.1 h;rfl
def ptV(p:Pt):Value:= .agg #[.int .i64 p.x,.int .i64 p.y,.int .i64 p.z]
def ptC(p:Pt):Array Value:= #[.int .i64 p.x,.int .i64 p.y,.int .i64 p.z]
structure Lk2(W0:World)(vQ v1 v6:Value)(n:Nat)(L1 L2:List Pt)(L:Nat→Bool)(us:Nat→Value)(w:World):Prop where
 o:Owns [2,7,10,11] W0 L us w
 f0:L 0=true→us 0=vQ
 f1:L 1=true→us 1=v1
 f2:L 2=true→RowV w (us 2) n L2
 f3:L 3=true→us 3 = .pointer (some ⟨bk (us 2),0,none⟩)
 f4:L 4=true→us 4=ptV (ptAt L2 0)
 f5:L 5=true→us 5=vQ
 f6:L 6=true→us 6=v6
 f7:L 7=true→RowV w (us 7) n L1
 f8:L 8=true→us 8 = .pointer (some ⟨bk (us 7),0,none⟩)
 f9:L 9=true→us 9=ptV (ptAt L1 0)
 f10:L 10=true→us 10 = .pointer (some ⟨bk (us 10),0,none⟩)
 g10:L 10=true→L 12=false→Blk w (bk (us 10)) 124 (ptC ⟨0,0,0⟩)
 f11:L 11=true→us 11 = .pointer (some ⟨bk (us 11),0,none⟩)
 g11:L 11=true→L 13=false→Blk w (bk (us 11)) 124 (ptC ⟨0,0,0⟩)
 f12:L 12=true→Blk w (bk (us 10)) 124 (ptC (ptAt L2 0))
 f13:L 13=true→Blk w (bk (us 11)) 124 (ptC (ptAt L1 0))
def KV(w:World)(v:Value)(n:Nat)(l:List Knb):Prop:= ∃A cp,v = .slice A n cp∧SliceIs w A n cp 5 (l.map Knb.cs)
theorem KV.ext{w w':World}{v:Value}{n:Nat}{l:List Knb}(h:KV w v n l)(E:Ext w w'):KV w' v n l:=by
 obtain⟨A,cp,h1,h2⟩:=h;exact⟨A,cp,h1,h2.ext E⟩
structure Lk4(w0 W5:World)(S:Nat)(vQ vC vB:Value)(aC:Array Value)(n1 n2:Nat)(L1 L3:List Pt)(K1 K2:List Knb)(r s:Bool)(L:Nat→Bool)(us:Nat→Value)(w:World):Prop where
 e:Ext w0 w
 x:L 17=false→Ext W5 w
 f0:L 0=true→us 0=vC
 f1:L 1=true→us 1=vQ
 f2:L 2=true→us 2=vC
 f3:L 3=true→L 17=false→RowV w (us 3) n1 L3
 f4:L 4=true→us 4=vQ
 f5:L 5=true→us 5=vB
 f6:L 6=true→L 17=false→RowV w (us 6) n1 L1
 f7:L 7=true→us 7 = .bool r
 f8:L 8=true→us 8 = .bool r
 f9:L 9=true→r=true→us 9=vQ
 f10:L 10=true→r=true→us 10=vC
 f11:L 11=true→r=true→L 17=false→KV w (us 11) n2 K2
 f12:L 12=true→r=true→us 12=vQ
 f13:L 13=true→r=true→us 13=vB
 f14:L 14=true→r=true→L 17=false→KV w (us 14) n2 K1
 f15:L 15=true→r=true→us 15 = .bool s
 f16:L 16=true→us 16 = .bool (r&&s)
 f17:L 17=true→Blk w (S+1) 126 aC
 f18:L 18=true→us 18 = .bool (r&&s)
def RCP(l:List Pt)(n:Nat)(w:World)(e:Ending)(w':World):Prop:= ∃g cap,w.heap.size≤g∧e = .returned (.slice (some ⟨g,0,none⟩) n cap)∧n≤cap∧cap≤maxLen∧RowX w' g 124 (l.map Pt.cs)∧Ext w w'
def RKP(l:List Knb)(n:Nat)(w:World)(e:Ending)(w':World):Prop:= ∃A cap,e = .returned (.slice A n cap)∧SliceIs w' A n cap 5 (l.map Knb.cs)∧(∀q,A=some q→w.heap.size≤q.block)∧Ext w w'
end Go.Proofs.YtojolpbpjimfgaaGreatDoor
namespace Go.Proofs.YtojolpbpjimfgaaGreatDoor
open Go.Shelf
def sortCells_ren:Go.Shelf.Ren:=⟨fun|6=>119|15=>141|14=>149|28=>166|29=>167|20=>175|21=>176|22=>177|23=>178|24=>179|25=>180|26=>181|27=>182|46=>199|47=>195|48=>196|49=>200|50=>201|57=>208|n=>n,fun|22=>109|24=>124|25=>211|3=>3|39=>206|0=>0|53=>265|55=>63|4=>4|46=>259|45=>258|50=>164|5=>5|9=>9|66=>279|70=>283|76=>290|77=>56|n=>n,fun|n=>n⟩
theorem sortCells:SlLaysF0.n6 Tryz.prog sortCells_ren:={
 mixed:=by kernel_rfl,
 f6:=⟨Tryz.f119.name,by decide,Tryz.func119.trans (congrArg some (by kernel_rfl))⟩,
 f14:=⟨Tryz.f149.name,by decide,Tryz.func149.trans (congrArg some (by kernel_rfl))⟩,
 f15:=Tryz.func141.trans (congrArg some (by kernel_rfl)),
 f20:=⟨Tryz.f175.name,by decide,Tryz.func175.trans (congrArg some (by kernel_rfl))⟩,
 f21:=⟨Tryz.f176.name,by decide,Tryz.func176.trans (congrArg some (by kernel_rfl))⟩,
 f22:=⟨Tryz.f177.name,by decide,Tryz.func177.trans (congrArg some (by kernel_rfl))⟩,
 f23:=⟨Tryz.f178.name,by decide,Tryz.func178.trans (congrArg some (by kernel_rfl))⟩,
 f24:=⟨Tryz.f179.name,by decide,Tryz.func179.trans (congrArg some (by kernel_rfl))⟩,
 f25:=⟨Tryz.f180.name,by decide,Tryz.func180.trans (congrArg some (by kernel_rfl))⟩,
 f26:=⟨Tryz.f181.name,by decide,Tryz.func181.trans (congrArg some (by kernel_rfl))⟩,
 f27:=⟨Tryz.f182.name,by decide,Tryz.func182.trans (congrArg some (by kernel_rfl))⟩,
 f28:=Tryz.func166.trans (congrArg some (by kernel_rfl)),
 f29:=Tryz.func167.trans (congrArg some (by kernel_rfl)),
 f46:=⟨Tryz.f199.name,by decide,Tryz.func199.trans (congrArg some (by kernel_rfl))⟩,
 f47:=Tryz.func195.trans (congrArg some (by kernel_rfl)),
 f48:=Tryz.func196.trans (congrArg some (by kernel_rfl)),
 f49:=⟨Tryz.f200.name,by decide,Tryz.func200.trans (congrArg some (by kernel_rfl))⟩,
 f50:=⟨Tryz.f201.name,by decide,Tryz.func201.trans (congrArg some (by kernel_rfl))⟩,
 f57:=⟨Tryz.f208.name,by decide,Tryz.func208.trans (congrArg some (by kernel_rfl))⟩,
 t0:=Tryz.underlying0,
 a0:=Tryz.isAgg0,
 z0:=Tryz.sizeOf0,
 v0:=Tryz.zeroValue0,
 t3:=Tryz.underlying3,
 a3:=Tryz.isAgg3,
 z3:=Tryz.sizeOf3,
 v3:=Tryz.zeroValue3,
 t4:=Tryz.underlying4,
 a4:=Tryz.isAgg4,
 z4:=Tryz.sizeOf4,
 v4:=Tryz.zeroValue4,
 t5:=Tryz.underlying5,
 a5:=Tryz.isAgg5,
 z5:=Tryz.sizeOf5,
 v5:=Tryz.zeroValue5,
 t9:=Tryz.underlying9,
 a9:=Tryz.isAgg9,
 z9:=Tryz.sizeOf9,
 v9:=Tryz.zeroValue9,
 t22:=Tryz.underlying109,
 a22:=Tryz.isAgg109,
 z22:=Tryz.sizeOf109,
 v22:=Tryz.zeroValue109,
 t25:=Tryz.underlying211,
 a25:=Tryz.isAgg211,
 z25:=Tryz.sizeOf211,
 v25:=Tryz.zeroValue211,
 t39:=Tryz.underlying206,
 a39:=Tryz.isAgg206,
 z39:=Tryz.sizeOf206,
 v39:=Tryz.zeroValue206,
 t45:=Tryz.underlying258,
 a45:=Tryz.isAgg258,
 z45:=Tryz.sizeOf258,
 v45:=Tryz.zeroValue258,
 t46:=Tryz.underlying259,
 a46:=Tryz.isAgg259,
 z46:=Tryz.sizeOf259,
 v46:=Tryz.zeroValue259,
 t50:=Tryz.underlying164,
 a50:=Tryz.isAgg164,
 z50:=Tryz.sizeOf164,
 v50:=Tryz.zeroValue164,
 t53:=Tryz.underlying265,
 a53:=Tryz.isAgg265,
 z53:=Tryz.sizeOf265,
 v53:=Tryz.zeroValue265,
 t55:=Tryz.underlying63,
 a55:=Tryz.isAgg63,
 z55:=Tryz.sizeOf63,
 v55:=Tryz.zeroValue63,
 t66:=Tryz.underlying279,
 a66:=Tryz.isAgg279,
 z66:=Tryz.sizeOf279,
 v66:=Tryz.zeroValue279,
 t70:=Tryz.underlying283,
 a70:=Tryz.isAgg283,
 z70:=Tryz.sizeOf283,
 v70:=Tryz.zeroValue283,
 t76:=Tryz.underlying290,
 a76:=Tryz.isAgg290,
 z76:=Tryz.sizeOf290,
 v76:=Tryz.zeroValue290,
 t77:=Tryz.underlying56,
 a77:=Tryz.isAgg56,
 z77:=Tryz.sizeOf56,
 v77:=Tryz.zeroValue56 }
end Go.Proofs.YtojolpbpjimfgaaGreatDoor
