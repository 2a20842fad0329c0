/- Texts of the proof: Grow, Blk, Tail, App, Turners. -/
import Derived.Test.YtojolpbpjimfgaaGreatDoorRows
import Derived.WalkKit
import Derived.WalkSpells
import Derived.WalkLawsBesides
import Derived.Deep.QuietTactic
import Derived.BigQuiet
import Derived.Lib.Hide
import Derived.StillTail
import Derived.Deep.RegionHeld3
import Derived.Deep.RegionLaw
set_option maxHeartbeats 800000
namespace Go.Proofs.YtojolpbpjimfgaaGreatDoor
theorem nm.{u} {α:Sort u} (a:α): ∃b,a=b:=⟨a,rfl⟩
theorem h_{p:Prop}(h:p):Go.RowKit.Hid p:=h
theorem zs.{u}:(∀{α:Type u} (l:List α) (i:Nat) (a:α),l.toArray.setIfInBounds i a=(l.set i a).toArray)∧(∀{α:Type u} {x:α} {xs:List α} {n:Nat} {a:α},(x::xs).set (n+1) a=x::xs.set n a)∧(∀{α:Type u} {x:α} {xs:List α} {a:α},(x::xs).set 0 a=a::xs):=⟨by intros;simp,by intros;rfl,by intros;rfl⟩
open Go.RowKit
structure Growth where
 bs:Array Obj
 n:Nat
instance:Inhabited Growth:=⟨⟨#[],0⟩⟩
def grow(w:World)(x:Growth):World:={ w with heap:=w.heap++x.bs,drawn:=x.n }
theorem grow_below(w:World)(x:Growth):Below w.heap.size w (grow w x) :=
 ⟨rfl,rfl,rfl,by simp[grow],fun k hk=>by simp[grow,Array.getElem?_append,hk]⟩
theorem grow_of_below{w w':World}(h:Below w.heap.size w w'): ∃x:Growth,w'=grow w x:=by
 obtain⟨h1,h2,h3,h4,h5⟩:=h;obtain⟨heap,tape,drawn,os,output⟩:=w;obtain⟨heap',tape',drawn',os',output'⟩:=w';simp only at h1 h2 h3 h4 h5;subst h1 h2 h3;refine⟨⟨heap'.extract heap.size heap'.size,drawn'⟩,?_⟩;simp only[grow,World.mk.injEq,and_true];apply Array.ext_getElem?;intro i;rw[Array.getElem?_append]
 split
 ·rename_i hi;exact h5 i hi
 ·rename_i hi;rw[Array.getElem?_extract]
  split
  ·congr 1;omega
  ·rw[Array.getElem?_eq_none];omega
theorem cell?_grow(w:World)(x:Growth)(a:Addr)(h:(w.cell? a).isSome=true):(grow w x).cell? a=w.cell? a:=by
 obtain⟨u,hu⟩:=Option.isSome_iff_exists.1 h;exact(grow_below w x).cell (World.block_lt_of_cell? w a hu)
attribute [go_sem] cell?_grow
theorem below_of_grow{w w':World}{x:Growth}(h:Below (grow w x).heap.size (grow w x) w'):Below w.heap.size w w' :=
 (grow_below w x).trans (h.mono (by simp[grow]))
theorem quiet_grow{P:Program}{f:FuncId}{args:Array Value}{w:World}{x:Growth}{v:Value}
  (h:Calls P f args (grow w x) fun e w'=>e = .returned v∧Below (grow w x).heap.size (grow w x) w') :
  Calls P f args (grow w x) fun e w'=>e = .returned v ∧ ∃x',w'=grow w x' :=
 h.mono fun _ _ ⟨he,hb⟩=>⟨he,grow_of_below (below_of_grow hb)⟩
theorem quiet_grow_same{P:Program}{f:FuncId}{args:Array Value}{w:World}{x:Growth}{v:Value}
  (h:Calls P f args (grow w x) fun e w'=>e = .returned v∧grow w x=w') :
  Calls P f args (grow w x) fun e w'=>e = .returned v ∧ ∃x',w'=grow w x' :=
 h.mono fun _ _ ⟨he,hb⟩=>⟨he,x,hb.symm⟩
theorem wp_region_grow{P:Program}{id:Nat}{Q:Exit→Act→World→Prop}{a:Act}{w:World}{l:List Oper}(hm:P.follows .mixedOrders=true)(hB:Region.lexB .any l.toArray=true)
  (h:wpQuiet P l.toArray (fun w'=> ∃x,w'=grow w x) (fun a'=> ∀w',(∃x,w'=grow w x)→Q .normal a' w') l a):(Code.region id l.toArray true).wp P Q a w :=
 wp_region_quiet (C:=fun w'=> ∃x,w'=grow w x) hm hB ⟨⟨#[],w.drawn+1⟩,by simp[grow]⟩ (by simpa using h)
theorem w_g{P:Program}{id:Nat}{Q:Exit→Act→World→Prop}{a:Act}{w:World}{l:List Oper}(h:wpQuiet P l.toArray (fun w'=> ∃x,w'=grow w x) (fun a'=> ∀w',(∃x,w'=grow w x)→Q .normal a' w') l a)(hm:P.follows .mixedOrders=true:=by kernel_rfl)(hB:Region.lexB .any l.toArray=true:=by kernel_rfl):(Code.region id l.toArray true).wp P Q a w:=wp_region_grow hm hB h
def Ext(a w:World):Prop:=Below a.heap.size a w
theorem Ext.refl(w:World):Ext w w:=Below.refl _ _
theorem Ext.trans{a b c:World}(h:Ext a b)(k:Ext b c):Ext a c:=Below.trans h (k.mono h.size)
theorem Ext.drew{a w:World}(h:Ext a w):Ext a w.drew:=Below.drew h
theorem Ext.drewN{a w:World}(h:Ext a w)(n:Nat):Ext a (w.drewN n):=h.trans ⟨rfl,rfl,rfl,Nat.le_refl _,fun _ _=>rfl⟩
theorem Ext.alloc{a w:World}(h:Ext a w)(o:Obj):Ext a (w.alloc o):=Below.alloc h h.size o
theorem Ext.setCell{a w:World}(h:Ext a w){p:Addr}(hp:a.heap.size≤p.block)(u:Value):Ext a (w.setCell p u):=Below.setCell h hp u
theorem Ext.grown{a w w':World}{row:Option Nat}(h:Ext a w)(hg:w.grownBy w' row)(hr: ∀k,row=some k→a.heap.size≤k):Ext a w':=Below.grown h hg h.size hr
theorem Ext.grow{a w:World}(h:Ext a w)(x:Growth):Ext a (Go.Proofs.YtojolpbpjimfgaaGreatDoor.grow w x):=h.trans (grow_below w x)
theorem Ext.cell{w w':World}(h:Ext w w'){p:Addr}{v:Value}(hc:w.cell? p=some v):w'.cell? p=some v:=by
 rw[Below.cell h (World.block_lt_of_cell? w p hc)];exact hc
theorem Ext.size{w w':World}(h:Ext w w'):w.heap.size≤w'.heap.size:=Below.size h
theorem Ext.frozen{w w':World}(h:Ext w w'){p:Addr}(hp:p.block<w.heap.size):w'.frozen? p=w.frozen? p:=Below.frozen h hp
theorem quiet_ext{P:Program}{f:FuncId}{args:Array Value}{w:World}{x:Growth}{v:Value}
  (h:Calls P f args (Go.Proofs.YtojolpbpjimfgaaGreatDoor.grow w x) fun e w'=>e = .returned v∧Ext (Go.Proofs.YtojolpbpjimfgaaGreatDoor.grow w x) w') :
  Calls P f args (Go.Proofs.YtojolpbpjimfgaaGreatDoor.grow w x) fun e w'=>e = .returned v ∧ ∃x',w'=Go.Proofs.YtojolpbpjimfgaaGreatDoor.grow w x':=quiet_grow h
theorem cell_new(w:World)(cs:Array Value)(t:TypeId)(i:Nat):(w.alloc (.cells cs t)).cell? ⟨w.heap.size,i,none⟩=cs[i]? := by
 rw[World.cell?_alloc_at _ _ _ _ rfl]
theorem cell_old(w:World)(o:Obj)(a:Addr)(h:a.block<w.heap.size):(w.alloc o).cell? a=w.cell? a:=World.cell?_alloc_lt _ _ _ h
theorem boxes1(w:World)(ca:Array Value)(ta:TypeId): ∃W,w.alloc (.cells ca ta)=W∧Ext w W∧(∀i,W.cell? ⟨w.heap.size,i,none⟩=ca[i]?)∧W.heap.size=w.heap.size+1 :=
 ⟨_,rfl,(Ext.refl w).alloc _,fun i=>cell_new _ _ _ _,by simp⟩
theorem boxes2(w:World)(ca cb:Array Value)(ta tb:TypeId): ∃W,(w.alloc (.cells ca ta)).alloc (.cells cb tb)=W∧Ext w W∧(∀i,W.cell? ⟨w.heap.size,i,none⟩=ca[i]?) ∧
  (∀i,W.cell? ⟨w.heap.size+1,i,none⟩=cb[i]?)∧W.heap.size=w.heap.size+2:=by
 refine⟨_,rfl,((Ext.refl w).alloc _).alloc _,fun i=> ?_,fun i=> ?_,by simp⟩
 ·rw[cell_old _ _ _ (by simp),cell_new]
 ·have:=cell_new (w.alloc (.cells ca ta)) cb tb i;rwa [World.size_alloc] at this
open Go.RowKit
def Blk(w:World)(g:Nat)(t:TypeId)(cs:Array Value):Prop:=w.heap[g]? = some (.cells cs t (0,0))
section
variable {w w':World} {g:Nat} {t:TypeId} {cs:Array Value}
theorem Blk.lt(h:Blk w g t cs):g<w.heap.size:=by
 rcases Nat.lt_or_ge g w.heap.size with hlt|hge
 ·exact hlt
 ·unfold Blk at h;rw[Array.getElem?_eq_none hge] at h;cases h
theorem Blk.cell(h:Blk w g t cs)(i:Nat):w.cell? ⟨g,i,none⟩=cs[i]? := by
 unfold Blk at h;simp[World.cell?,h]
theorem Blk.frozen(h:Blk w g t cs)(i:Nat):w.frozen? ⟨g,i,none⟩=false:=by
 unfold Blk at h;simp[World.frozen?,h]
theorem Blk.new(w:World)(cs:Array Value)(t:TypeId):Blk (w.alloc (.cells cs t)) w.heap.size t cs:=by
 show(w.heap.push _)[w.heap.size]? = _
 simp
theorem Blk.ext(h:Blk w g t cs)(e:Ext w w'):Blk w' g t cs:=(Below.block e g h.lt).trans h
theorem Blk.drew(h:Blk w g t cs):Blk w.drew g t cs:=h
theorem Blk.drewN(h:Blk w g t cs)(n:Nat):Blk (w.drewN n) g t cs:=h
theorem Blk.alloc(h:Blk w g t cs)(o:Obj):Blk (w.alloc o) g t cs:=h.ext ((Ext.refl w).alloc o)
theorem Blk.set_(h:Blk w g t cs)(i:Nat)(u:Value):Blk (w.setCell ⟨g,i,none⟩ u) g t (cs.setIfInBounds i u):=by
 unfold Blk at h ⊢;simp[World.setCell,Array.getElem?_modify,h]
theorem Blk.far(h:Blk w g t cs){p:Addr}(hp:g≠p.block)(u:Value):Blk (w.setCell p u) g t cs:=(Below.heap_setCell w p u g hp).trans h
theorem Blk.below{B:Nat}(h:Blk w g t cs)(hb:Below B w w')(hg:g<B):Blk w' g t cs:=(hb.block g hg).trans h
theorem Blk.grown{row:Option Nat}(h:Blk w g t cs)(hb:w.grownBy w' row)(hg:some g≠row):Blk w' g t cs:=(hb.block g h.lt hg).trans h
theorem Blk.store3{a b c:Value}(h:Blk w g t #[a,b,c])(a' b' c':Value): ∃w2,((w.setCell ⟨g,0,none⟩ a').setCell ⟨g,1,none⟩ b').setCell ⟨g,2,none⟩ c'=w2∧Blk w2 g t #[a',b',c'] ∧
  (∀k t' cs',k≠g→Blk w k t' cs'→Blk w2 k t' cs')∧(∀w0,Ext w0 w→w0.heap.size≤g→Ext w0 w2)∧w2.heap.size=w.heap.size:=by
 refine⟨_,rfl,?_,fun k t' cs' hk hb=>((hb.far hk _).far hk _).far hk _,fun w0 hE hg=>((hE.setCell hg _).setCell hg _).setCell hg _,by simp[World.setCell]⟩;have:=((h.set_ 0 a').set_ 1 b').set_ 2 c'
 simpa using this
end
section
variable {P:Program} {ops:Array Oper} {md:Region.Mode} {C:World→Prop}
def headQ(P:Program)(md:Region.Mode)(ops:Array Oper)(C:World→Prop)(n:Nat)(L:Array Bool→Act→Prop):Nat→Array Bool→Act→Prop
 | 0,listed,a=>L listed a
 | f+1,listed,a=>Region.ready md ops listed ≠ [] ∧ ∀i∈Region.ready md ops listed,i<n∧qOp P ops C i (headQ P md ops C n L f (listed.setIfInBounds i true)) a
theorem any_of_headQ{n g:Nat}{L:Array Bool→Act→Prop}{Q':Exit→Act→World→Prop}(hL: ∀listed a,L listed a → ∀w,C w→wpAny P md ops Q' g listed a w)(f:Nat) :
  ∀(listed:Array Bool) (a:Act),headQ P md ops C n L f listed a → ∀w,C w→wpAny P md ops Q' (f+g) listed a w:=by
 induction f with
 | zero =>
  intro listed a h w hw;rw[Nat.zero_add];exact hL _ _ h w hw
 | succ f ih =>
  intro listed a h w hw;rw[show f+1+g=(f+g)+1 from by omega];refine⟨fun h0=>absurd h0 h.1,fun i hi=> ?_⟩;exact wpOp_of_qOp hw (fun a' w' hw' h'=>ih _ a' h' w' hw') (h.2 i hi).2
theorem headQ_first{n i:Nat}{oi:Oper}{v:Value}{L:Array Bool→Act→Prop}(hi:ops[i]? = some oi)(hsel: ∀(j:Nat) (o:Oper) cs b,ops[j]? = some o→o.op ≠ .select cs b)
  (hs:Region.sinkB md ops n=true) (hc:Region.chainB md ops n=true) (hn:n<ops.size) (hin:i<n) (hdone: ∀listed a,L listed a → ∀j∈Region.ready md ops listed,n≤j) (f:Nat) :
  ∀(listed:Array Bool) (a:Act),HeadInv md ops n listed →
   (∀j oj,ops[j]? = some oj→j≠i→listed.getD j true=false→(∀e∈oj.after,Region.binds md e=true→e.on≠i)→oi.apart ops oj=true) →
   i∈Region.ready md ops listed→YieldsIn P ops C oi v a→headQ P md ops C n L f (listed.setIfInBounds i true) (a.put oi.dst v)→headQ P md ops C n L (f+1) listed a:=by
 have small: ∀{listed:Array Bool},HeadInv md ops n listed→i∈Region.ready md ops listed → ∀j∈Region.ready md ops listed,j<n:=fun inv hr j hj=>by
  rcases Nat.lt_or_ge j n with h|h
  ·exact h
  ·exact absurd hj (tail_waits hs hc hn inv _ i rfl hin (mem_ready.1 hr).1 j h)
 induction f with
 | zero =>
  intro listed a inv _ hr hy H;refine⟨fun h=>(by rw[h] at hr;cases hr),fun j hj=>⟨small inv hr j hj,?_⟩⟩;by_cases hji:j=i
  ·subst hji;exact hy.qOp hi H
  ·have h1:=hdone _ _ H j (ready_mono hj hji);have h2:=small inv hr j hj;omega
 | succ f ih =>
  intro listed a inv hfree hr hy H;refine⟨fun h=>(by rw[h] at hr;cases hr),fun j hj=>⟨small inv hr j hj,?_⟩⟩;by_cases hji:j=i
  ·subst hji;exact hy.qOp hi H
  ·have hun:=(mem_ready.1 hr).1;have h1:=(H.2 j (ready_mono hj hji)).2;obtain⟨hjun,oj,hoj,hall⟩:=mem_ready.1 hj;have hnot: ∀e∈oj.after,Region.binds md e=true→e.on≠i:=fun e he hb heq=>by
    have h3:=hall e he hb;rw[heq,getD_both hun] at h3;cases h3
   have h2:=qOp_put hoj (hfree j oj hoj hji hjun hnot) (fun cs b=>hsel i oi cs b hi) (fun cs b=>hsel j oj cs b hoj) hy h1;refine qOp_mono (fun a' h3=>ih (listed.setIfInBounds j true) a' (inv.set hj (small inv hr j hj)) (fun k ok hk hki hunk hno=> ?_) (ready_mono hr (Ne.symm hji)) h3.1 ?_) h2
   ·refine hfree k ok hk hki ?_ hno;by_cases hjk:j=k
    ·subst hjk;exact hjun
    ·rwa [getD_set_ne true hjk] at hunk
   ·rw[Array.setIfInBounds_comm _ _ hji];exact h3.2
theorem headQ_lex{n g:Nat}{Lq:Act→Prop}(hsel:Region.noSelect ops=true)(hs:Region.sinkB md ops n=true)(hc:Region.chainB md ops n=true)(hn:n<ops.size)(l:List Oper) :
  ∀(k:Nat) (listed:Array Bool) (a:Act),(∀j,j<l.length→l[j]? = ops[k+j]?)→k+l.length=n→HeadInv md ops n listed →
  Region.lexHead md ops g l.length k listed=true→wpQuiet P ops C Lq l a →
  headQ P md ops C n (fun listed' a'=>Region.seqB md ops g n listed'=true∧Lq a') l.length listed a:=by
 induction l with
 | nil =>
  intro k listed a _ hk _ hB h;have hk':k=n:=by simpa using hk
  subst hk';exact⟨by simpa [Region.lexHead] using hB,h⟩
 | cons o l ih =>
  intro k listed a hl hk inv hB h;have h0:ops[k]? = some o:=by simpa using (hl 0 (by simp)).symm
  simp only[List.length_cons,Region.lexHead,Bool.and_eq_true] at hB hk;obtain⟨⟨hr,hf⟩,hB'⟩:=hB;have hr':k∈Region.ready md ops listed:=by simpa using hr
  have hq:qOp P ops C k (wpQuiet P ops C Lq l) a:=by
   unfold qOp;simp only[h0];exact h
  obtain⟨v,hy,hK⟩:=yieldsIn_of_qOp h0 hq;refine headQ_first h0 (Region.noSelect_spec hsel) hs hc hn (by omega) (fun listed' a' hL=>seqB_ready hL.1) l.length listed a inv (Region.free_spec h0 hf) hr' hy ?_;refine ih (k+1) _ _ (fun j hj=> ?_) (by omega) (inv.set hr' (by omega)) hB' hK;have:=hl (j+1) (by simp;omega)
  simpa [Nat.add_assoc,Nat.add_comm 1 j] using this
theorem wp_region_tail{id:Nat}{Q:Exit→Act→World→Prop}{a:Act}{w:World}{l:List Oper}(n:Nat)(hm:P.follows .mixedOrders=true)(hB:Region.lexTailB .any l.toArray n=true)
  (h:wpQuiet P l.toArray (fun w'=> ∃x,w'=grow w x) (fun a'=> ∀w',(∃x,w'=grow w x)→wpList P l.toArray Q (l.drop n) a' w') (l.take n) a):(Code.region id l.toArray true).wp P Q a w:=by
 simp only[Region.lexTailB,Bool.and_eq_true,decide_eq_true_eq] at hB;obtain⟨⟨⟨⟨hsel,hn⟩,hs⟩,hc⟩,hlex⟩:=hB;have hn':n<l.length:=by simpa using hn
 have htl:(l.take n).length=n:=by simp;omega
 have hdl:(l.drop n).length=l.toArray.size-n:=by simp
 have inv0:HeadInv .any l.toArray n (Array.replicate l.toArray.size false) :=
  ⟨by simp,fun j oj _ hl=>(by rw[getD_replicate_false] at hl;cases hl),fun t _ ht=>getD_in (by simpa using ht) (getD_replicate_false _ _)⟩
 have H:=headQ_lex (P:=P) (C:=fun w'=> ∃x,w'=grow w x) (md:= .any) (g:=l.toArray.size-n) hsel hs hc hn (l.take n) 0 _ a (fun j hj=>by
  rw[htl] at hj
  simp[hj]) (by simpa using htl) inv0 (by rw[htl];exact hlex) h
 refine wp_region_any hm ?_;have H2:=any_of_headQ (Q':=Q) (g:=l.toArray.size-n) (fun listed a' hL w' hw'=>by
  have:=wpAny_of_seq (md:= .any) (Q':=Q) (l.drop n) n listed a' w' (fun j=>by simp[List.getElem?_drop]) (by rw[hdl];exact hL.1) (hL.2 w' hw')
  rwa [hdl] at this) _ _ _ H { w with drawn:=w.drawn+1 } ⟨⟨#[],w.drawn+1⟩,by simp[grow]⟩
 rw[htl,show n+(l.toArray.size-n)=l.toArray.size from by omega] at H2;exact H2
end
theorem own_ext{w w':World}{base:Nat}{e:TypeId}{size:Nat}{v:Value}{n:Nat}{xs:List Value}(h:w.ownsRow base e size v n xs)(E:Ext w w'):w'.ownsRow base e size v n xs:=by
 obtain⟨h1,h2⟩:=h;refine⟨h1,?_⟩;rcases h2 with h2|⟨g,cap,cur,hv,hg,hh,r⟩
 ·exact Or.inl h2
 ·refine Or.inr ⟨g,cap,cur,hv,hg,?_,r⟩;have hlt:g<w.heap.size:=(Array.getElem?_eq_some_iff.1 hh).1;rw[Below.block E g hlt];exact hh
theorem own_base{w:World}{base base':Nat}{e:TypeId}{size:Nat}{v:Value}{n:Nat}{xs:List Value}(h:w.ownsRow base e size v n xs)(hb:base'≤base):w.ownsRow base' e size v n xs:=by
 obtain⟨h1,h2⟩:=h;refine⟨h1,?_⟩;rcases h2 with h2|⟨g,cap,cur,hv,hg,r⟩
 ·exact Or.inl h2
 ·exact Or.inr ⟨g,cap,cur,hv,Nat.le_trans hb hg,r⟩
theorem own_setCell{w:World}{base:Nat}{e:TypeId}{size:Nat}{v:Value}{n:Nat}{xs:List Value}(h:w.ownsRow base e size v n xs){p:Addr}(hp:p.block<base)(u:Value):(w.setCell p u).ownsRow base e size v n xs:=by
 obtain⟨h1,h2⟩:=h;refine⟨h1,?_⟩;rcases h2 with h2|⟨g,cap,cur,hv,hg,hh,r⟩
 ·exact Or.inl h2
 ·exact Or.inr ⟨g,cap,cur,hv,hg,by rw[Below.heap_setCell _ _ _ _ (by omega)];exact hh,r⟩
theorem own_ne{w:World}{base:Nat}{e:TypeId}{size:Nat}{v:Value}{n:Nat}{xs:List Value}(h:w.ownsRow base e size v n xs){g:Nat}(hg:g<base):some g≠v.ownBlock:=fun he=>by
 have:=(h.lt g he.symm).1;omega
theorem own_form{w:World}{base:Nat}{e:TypeId}{size:Nat}{v:Value}{n:Nat}{xs:List Value}(h:w.ownsRow base e size v n xs)(hn:0<n): ∃g cap,v = .slice (some ⟨g,0,none⟩) n cap:=by
 rcases h.2 with⟨_,h0⟩|⟨g,cap,cur,hv,_⟩
 ·omega
 ·exact⟨g,cap,hv⟩
theorem add_zero_addr(g j:Nat):(⟨g,0,none⟩:Addr).add j=⟨g,j,none⟩:=by
 unfold Addr.add
 split
 ·subst_vars;rfl
 ·simp
section
variable {P:Program} {w:World} {ops:Array Oper} {o:Oper} {a:Act} {K:Act→World→Prop} {Q:Exit→Act→World→Prop} {F:Prop}
theorem step_append_new(hgd:o.guard=none)(s x:Operand)(t:TypeId)(ho:o.op = .call { callee:= .builtin .append,args:= #[s,x],argTypes:= #[t,t] })
  (base:Nat) (e:TypeId) (i:TypeInfo) (z:Value) (size bytes:Nat) (ht:P.underlying t=some (.slice e)) (hi:P.info? e=some i) (hz:i.zero=some z)
  (hsize:i.size=size) (hby:i.bytes=bytes) (hzs:z.cells.size=size) (hsz:0<size)
  (v:Value) (n:Nat) (xs:List Value) (hs:a.eval s=v) (hown:w.ownsRow base e size v n xs)
  (g m c:Nat) (news:List Value) (hx:a.eval x = .slice (some ⟨g,0,none⟩) m c) (hl:news.length=m*size) (hnews: ∀j,w.cell? ⟨g,j,none⟩=news[j]?) (h1: ∀u∈news,u.oneCell'=true)
  (h63:n+m≤maxLen) (hbytes:(n+m)*bytes≤140737488355328) (hbase:base≤w.heap.size)
  (h: ∀v' w',w'.ownsRow base e size v' (n+m) (xs++news)→w.grownBy w' v.ownBlock→K (a.put o.dst v') w'):if Region.wanted o (yielded ops a.tmps)=true then o.wp P a w K Q else F:=by
 rw[if_pos (by simp[Region.wanted,hgd])];exact wp_append_own w s x t ho base e i z size bytes ht hi hz hsize hby hzs hsz v n xs hs hown ⟨g,0,none⟩ m c news hx hl
  (fun j u hu=>by rw[add_zero_addr,hnews j];exact hu) h1 h63 hbytes hbase fun v' w' h2 h3 _=>h v' w' h2 h3
theorem step_append_one{w:World}(cs:Array Value)(hgd:o.guard=none)(s x:Operand)(t:TypeId)(ho:o.op = .call { callee:= .builtin .append,args:= #[s,x],argTypes:= #[t,t] })
  (base:Nat) (e te:TypeId) (i:TypeInfo) (z:Value) (size bytes:Nat) (ht:P.underlying t=some (.slice e)) (hi:P.info? e=some i) (hz:i.zero=some z)
  (hsize:i.size=size) (hby:i.bytes=bytes) (hzs:z.cells.size=size) (hsz:0<size)
  (v:Value) (n c:Nat) (xs:List Value) (hs:a.eval s=v) (hown:w.ownsRow base e size v n xs)
  (hx:a.eval x = .slice (some ⟨w.heap.size,0,none⟩) 1 c) (hl:cs.size=size) (h1: ∀u∈cs.toList,u.oneCell'=true)
  (h63:n+1≤maxLen) (hbytes:(n+1)*bytes≤140737488355328) (hbase:base≤w.heap.size)
  (h: ∀g' cap' w',w'.ownsRow base e size (.slice (some ⟨g',0,none⟩) (n+1) cap') (n+1) (xs++cs.toList)→(w.alloc (.cells cs te)).grownBy w' v.ownBlock→K (a.put o.dst (.slice (some ⟨g',0,none⟩) (n+1) cap')) w') :
  if Region.wanted o (yielded ops a.tmps)=true then o.wp P a (w.alloc (.cells cs te)) K Q else F :=
 step_append_new hgd s x t ho base e i z size bytes ht hi hz hsize hby hzs hsz v n xs hs (hown.alloc _) w.heap.size 1 c cs.toList hx (by simp[hl]) (fun j=>by rw[cell_new];simp) h1 h63 hbytes
  (by simp;omega) fun v' w' h2 h3=>by
   obtain⟨g',cap',rfl⟩:=own_form h2 (by omega);exact h g' cap' w' h2 h3
theorem wpList_append_one{w:World}{rest:List Oper}(cs:Array Value)(hgd:o.guard=none)(s x:Operand)(t:TypeId)(ho:o.op = .call { callee:= .builtin .append,args:= #[s,x],argTypes:= #[t,t] })
  (base:Nat) (e te:TypeId) (i:TypeInfo) (z:Value) (size bytes:Nat) (ht:P.underlying t=some (.slice e)) (hi:P.info? e=some i) (hz:i.zero=some z)
  (hsize:i.size=size) (hby:i.bytes=bytes) (hzs:z.cells.size=size) (hsz:0<size)
  (v:Value) (n c:Nat) (xs:List Value) (hs:a.eval s=v) (hown:w.ownsRow base e size v n xs)
  (hx:a.eval x = .slice (some ⟨w.heap.size,0,none⟩) 1 c) (hl:cs.size=size) (h1: ∀u∈cs.toList,u.oneCell'=true)
  (h63:n+1≤maxLen) (hbytes:(n+1)*bytes≤140737488355328) (hbase:base≤w.heap.size)
  (h: ∀g' cap' w',w'.ownsRow base e size (.slice (some ⟨g',0,none⟩) (n+1) cap') (n+1) (xs++cs.toList)→(w.alloc (.cells cs te)).grownBy w' v.ownBlock→wpList P ops Q rest (a.put o.dst (.slice (some ⟨g',0,none⟩) (n+1) cap')) w') :
  wpList P ops Q (o::rest) a (w.alloc (.cells cs te)) :=
 wpList_plain hgd fun _ hK=>by
  have:=step_append_one (P:=P) (ops:=ops) (o:=o) (a:=a) (Q:=Q) (F:=True) cs hgd s x t ho base e te i z size bytes ht hi hz hsize hby hzs hsz v n c xs hs hown hx hl h1 h63 hbytes hbase (fun g' cap' w' h2 h3=>hK _ _ (h g' cap' w' h2 h3));rwa [if_pos (by simp[Region.wanted,hgd])] at this
end
def CB(x:Int):Prop:= -1000000≤x∧x≤1000000
theorem tn1_c(x y z:Int)(w:World)(hz:CB z) :
  Calls Tryz.prog 169 #[.agg #[.int .i64 x,.int .i64 y,.int .i64 z]] w fun e w'=>e = .returned (.agg #[.int .i64 x,.int .i64 (-z),.int .i64 y])∧Ext w w':=by
 obtain⟨z1,z2⟩:=hz;go_enter Tryz.func169,Tryz.ntmps169
 go_wp2
 exact bodyPost_ret (v:= .agg #[.int .i64 x,.int .i64 (-z),.int .i64 y]) (by simp[results,Tryz.results169,go_sem]) rfl ⟨rfl,by apply_rules [Ext.refl,Ext.alloc]⟩
theorem tn2_c(x y z:Int)(w:World) :
  Calls Tryz.prog 170 #[.agg #[.int .i64 x,.int .i64 y,.int .i64 z]] w fun e w'=>e = .returned (.agg #[.int .i64 x,.int .i64 y,.int .i64 z])∧Ext w w':=by
 go_enter Tryz.func170,Tryz.ntmps170
 go_wp2
 exact bodyPost_ret (v:= .agg #[.int .i64 x,.int .i64 y,.int .i64 z]) (by simp[results,Tryz.results170,go_sem]) rfl ⟨rfl,by apply_rules [Ext.refl,Ext.alloc]⟩
theorem tn5_c(x y z:Int)(w:World) :
  Calls Tryz.prog 173 #[.agg #[.int .i64 x,.int .i64 y,.int .i64 z]] w fun e w'=>e = .returned (.agg #[.int .i64 z,.int .i64 x,.int .i64 y])∧Ext w w':=by
 go_enter Tryz.func173,Tryz.ntmps173
 go_wp2
 exact bodyPost_ret (v:= .agg #[.int .i64 z,.int .i64 x,.int .i64 y]) (by simp[results,Tryz.results173,go_sem]) rfl ⟨rfl,by apply_rules [Ext.refl,Ext.alloc]⟩
theorem tn6_c(x y z:Int)(w:World)(hx:CB x)(hz:CB z) :
  Calls Tryz.prog 174 #[.agg #[.int .i64 x,.int .i64 y,.int .i64 z]] w fun e w'=>e = .returned (.agg #[.int .i64 (-z),.int .i64 (-x),.int .i64 y])∧Ext w w':=by
 obtain⟨x1,x2⟩:=hx;obtain⟨z1,z2⟩:=hz;go_enter Tryz.func174,Tryz.ntmps174
 go_wp2
 exact bodyPost_ret (v:= .agg #[.int .i64 (-z),.int .i64 (-x),.int .i64 y]) (by simp[results,Tryz.results174,go_sem]) rfl ⟨rfl,by apply_rules [Ext.refl,Ext.alloc]⟩
theorem CB.neg{x:Int}(h:CB x):CB (-x):=by unfold CB at *;omega
theorem tn3_c(x y z:Int)(g:Nat)(w:World)(hy:CB y)(hz:CB z)(hg:w.cell? ⟨g,0,none⟩=some (.func (.func 169) #[] #[])) :
  Calls Tryz.prog 171 #[.agg #[.int .i64 x,.int .i64 y,.int .i64 z],.pointer (some ⟨g,0,none⟩)] w fun e w'=>e = .returned (.agg #[.int .i64 x,.int .i64 (-y),.int .i64 (-z)])∧Ext w w':=by
 obtain⟨W,hW,E,ba,bb,hsz⟩:=boxes2 w #[.int .i64 x,.int .i64 y,.int .i64 z] #[.int .i64 0,.int .i64 0,.int .i64 0] 124 124;have hgW:=E.cell hg;have hz':=hz.neg;have B3:Blk W (w.heap.size+1) 124 #[.int .i64 0,.int .i64 0,.int .i64 0]:=by
  rw[←hW];have:=Blk.new (w.alloc (.cells #[.int .i64 x,.int .i64 y,.int .i64 z] 124)) #[.int .i64 0,.int .i64 0,.int .i64 0] 124;rwa [World.size_alloc] at this
 go_enter Tryz.func171,Tryz.ntmps171
 go_wp2
 refine wp_region_tail 5 (by kernel_rfl) (by kernel_rfl) ?_;simp only[List.take_succ_cons,List.take_zero,List.drop_succ_cons,List.drop_zero]
 repeat (go_big_quiet_step ((go_at_call 169;exact quiet_ext (tn1_c _ _ _ _ (by assumption)))))
 refine wpQuiet_nil ?_;intro W2 hW2;have E2:Ext W W2:=by
  obtain⟨x,rfl⟩:=hW2;exact(Ext.refl _).grow x
 clear hW2;have B32:=B3.ext E2;have cc:=B32.cell;have ff:=B32.frozen
 go_wp2
 refine bodyPost_ret (v:= .agg #[.int .i64 x,.int .i64 (-y),.int .i64 (-z)]) (by simp[results,Tryz.results171,go_sem,cc]) rfl ⟨rfl,?_⟩;exact(((E.trans E2).setCell (Nat.le_succ _) _).setCell (Nat.le_succ _) _).setCell (Nat.le_succ _) _
theorem tn4_c(x y z:Int)(g:Nat)(w:World)(hy:CB y)(hz:CB z)(hg:w.cell? ⟨g,0,none⟩=some (.func (.func 169) #[] #[])) :
  Calls Tryz.prog 172 #[.agg #[.int .i64 x,.int .i64 y,.int .i64 z],.pointer (some ⟨g,0,none⟩)] w fun e w'=>e = .returned (.agg #[.int .i64 x,.int .i64 z,.int .i64 (-y)])∧Ext w w':=by
 obtain⟨W,hW,E,ba,bb,hsz⟩:=boxes2 w #[.int .i64 x,.int .i64 y,.int .i64 z] #[.int .i64 0,.int .i64 0,.int .i64 0] 124 124;have hgW:=E.cell hg;have hz':=hz.neg;have hy':=hy.neg;have B3:Blk W (w.heap.size+1) 124 #[.int .i64 0,.int .i64 0,.int .i64 0]:=by
  rw[←hW];have:=Blk.new (w.alloc (.cells #[.int .i64 x,.int .i64 y,.int .i64 z] 124)) #[.int .i64 0,.int .i64 0,.int .i64 0] 124;rwa [World.size_alloc] at this
 go_enter Tryz.func172,Tryz.ntmps172
 go_wp2
 refine wp_region_tail 7 (by kernel_rfl) (by kernel_rfl) ?_;simp only[List.take_succ_cons,List.take_zero,List.drop_succ_cons,List.drop_zero]
 repeat (go_big_quiet_step ((go_at_call 169;exact quiet_ext (tn1_c _ _ _ _ (by assumption)))))
 refine wpQuiet_nil ?_;intro W2 hW2;have E2:Ext W W2:=by
  obtain⟨x,rfl⟩:=hW2;exact(Ext.refl _).grow x
 clear hW2;have B32:=B3.ext E2;have cc:=B32.cell;have ff:=B32.frozen
 go_wp2
 refine bodyPost_ret (v:= .agg #[.int .i64 x,.int .i64 z,.int .i64 (-y)]) (by simp[results,Tryz.results172,go_sem,cc]) rfl ⟨rfl,?_⟩;exact(((E.trans E2).setCell (Nat.le_succ _) _).setCell (Nat.le_succ _) _).setCell (Nat.le_succ _) _
end Go.Proofs.YtojolpbpjimfgaaGreatDoor
