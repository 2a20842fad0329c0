
/- Worlds that have only grown (new blocks, draws), and the one walk of a drawn region whose callees only make new blocks. Slices that read as rows of cells. A block that is known whole. A drawn region whose first n operations are quiet in a class of worlds, and whose other operations come one behind the other, behind all of those: one walk of the text's order serves every order. append of one element onto a row of the call's own, as a step of a region or of a walk. Worlds in which some blocks have turned; append of one element, and whether it grew. What a world that has only grown keeps, as rules for the walk. Maps that the call makes, whose keys are structs or arrays: they read as lists of pairs. A block that holds rows of one width: read, stored into, made. A drawn region by an invariant over what has come up so far: one small goal for each operation serves every order. A drawn region by an invariant that may know the slots ahead of it. As wp_region_by0, with the frame behind the operations written out once for all of them. Rows of the call's own beside each other; append of a whole slice, whatever its source. Maps that the call makes, whose keys are structs or arrays: m[k] = append(m[k], ..) (an entry, and the store into it), and a range over one. -/
import Derived.Test.YtjacbhomhjoolaaGreatRows
import Derived.WalkKit
import Derived.WalkSpells
import Derived.WalkLawsBesides
import Derived.Deep.QuietTactic
import Derived.BigQuiet
import Derived.Lib.Hide
import Derived.StillTail
import Derived.Deep.RegionHeld3
import Derived.Deep.RegionLaw
import Derived.Maps.Own
import Derived.WideKeyRuns
import Derived.Laws.MakeOwn
import Derived.RegionIn
import Derived.Laws.AppendOwnNone
import Derived.Maps.RangeRun
import Derived.Maps.RangeWalk
namespace Go.Proofs.YtjacbhomhjoolaaGreat
theorem zs.{u} : (∀ {α : Type u} (l : List α) (i : Nat) (a : α),l.toArray.setIfInBounds i a = (l.set i a).toArray) ∧ (∀ {α : Type u} {x : α} {xs : List α} {n : Nat} {a : α},(x :: xs).set (n + 1) a = x :: xs.set n a) ∧ (∀ {α : Type u} {x : α} {xs : List α} {a : α},(x :: xs).set 0 a = a :: xs) := ⟨by intros; simp,by intros; rfl,by intros; rfl⟩
open Go.RowKit

structure Growth where
 bs : Array Obj
 n : Nat
instance : Inhabited Growth := ⟨⟨#[],0⟩⟩
def grow (w : World) (x : Growth) : World := { w with heap := w.heap ++ x.bs,drawn := x.n }

theorem grow_below (w : World) (x : Growth) : Below w.heap.size w (grow w x) :=
 ⟨rfl,rfl,rfl,by simp [grow],fun k hk => by simp [grow,Array.getElem?_append,hk]⟩

theorem grow_of_below {w w' : World} (h : Below w.heap.size w w') : ∃ x : Growth,w' = grow w x := by
 obtain ⟨h1,h2,h3,h4,h5⟩ := h
 obtain ⟨heap,tape,drawn,os,output⟩ := w
 obtain ⟨heap',tape',drawn',os',output'⟩ := w'
 simp only at h1 h2 h3 h4 h5
 subst h1 h2 h3
 refine ⟨⟨heap'.extract heap.size heap'.size,drawn'⟩,?_⟩
 simp only [grow,World.mk.injEq,and_true]
 apply Array.ext_getElem?
 intro i
 rw [Array.getElem?_append]
 split
 ·rename_i hi
  exact h5 i hi
 ·rename_i hi
  rw [Array.getElem?_extract]
  split
  ·congr 1
   omega
  ·rw [Array.getElem?_eq_none]
   omega

theorem cell?_grow (w : World) (x : Growth) (a : Addr) (h : (w.cell? a).isSome = true) : (grow w x).cell? a = w.cell? a := by
 obtain ⟨u,hu⟩ := Option.isSome_iff_exists.1 h
 exact (grow_below w x).cell (World.block_lt_of_cell? w a hu)

attribute [go_sem] cell?_grow
theorem below_of_grow {w w' : World} {x : Growth} (h : Below (grow w x).heap.size (grow w x) w') : Below w.heap.size w w' :=
 (grow_below w x).trans (h.mono (by simp [grow]))

theorem quiet_grow {P : Program} {f : FuncId} {args : Array Value} {w : World} {x : Growth} {v : Value}
  (h : Calls P f args (grow w x) fun e w' => e = .returned v ∧ Below (grow w x).heap.size (grow w x) w') :
  Calls P f args (grow w x) fun e w' => e = .returned v ∧ ∃ x',w' = grow w x' :=
 h.mono fun _ _ ⟨he,hb⟩ => ⟨he,grow_of_below (below_of_grow hb)⟩
theorem quiet_grow_same {P : Program} {f : FuncId} {args : Array Value} {w : World} {x : Growth} {v : Value}
  (h : Calls P f args (grow w x) fun e w' => e = .returned v ∧ grow w x = w') :
  Calls P f args (grow w x) fun e w' => e = .returned v ∧ ∃ x',w' = grow w x' :=
 h.mono fun _ _ ⟨he,hb⟩ => ⟨he,x,hb.symm⟩

theorem wp_region_grow {P : Program} {id : Nat} {Q : Exit → Act → World → Prop} {a : Act} {w : World} {l : List Oper} (hm : P.follows .mixedOrders = true) (hB : Region.lexB .any l.toArray = true)
  (h : wpQuiet P l.toArray (fun w' => ∃ x,w' = grow w x) (fun a' => ∀ w',(∃ x,w' = grow w x) → Q .normal a' w') l a) : (Code.region id l.toArray true).wp P Q a w :=
 wp_region_quiet (C := fun w' => ∃ x,w' = grow w x) hm hB ⟨⟨#[],w.drawn + 1⟩,by simp [grow]⟩ (by simpa using h)

def Ext (a w : World) : Prop := Below a.heap.size a w
theorem Ext.refl (w : World) : Ext w w := Below.refl _ _
theorem Ext.trans {a b c : World} (h : Ext a b) (k : Ext b c) : Ext a c := Below.trans h (k.mono h.size)
theorem Ext.drew {a w : World} (h : Ext a w) : Ext a w.drew := Below.drew h
theorem Ext.drewN {a w : World} (h : Ext a w) (n : Nat) : Ext a (w.drewN n) := h.trans ⟨rfl,rfl,rfl,Nat.le_refl _,fun _ _ => rfl⟩
theorem Ext.alloc {a w : World} (h : Ext a w) (o : Obj) : Ext a (w.alloc o) := Below.alloc h h.size o
theorem Ext.setCell {a w : World} (h : Ext a w) {p : Addr} (hp : a.heap.size ≤ p.block) (u : Value) : Ext a (w.setCell p u) := Below.setCell h hp u
theorem Ext.grown {a w w' : World} {row : Option Nat} (h : Ext a w) (hg : w.grownBy w' row) (hr : ∀ k,row = some k → a.heap.size ≤ k) : Ext a w' := Below.grown h hg h.size hr
theorem Ext.grow {a w : World} (h : Ext a w) (x : Growth) : Ext a (Go.Proofs.YtjacbhomhjoolaaGreat.grow w x) := h.trans (grow_below w x)
theorem Ext.cell {w w' : World} (h : Ext w w') {p : Addr} {v : Value} (hc : w.cell? p = some v) : w'.cell? p = some v := by
 rw [Below.cell h (World.block_lt_of_cell? w p hc)]; exact hc
theorem Ext.size {w w' : World} (h : Ext w w') : w.heap.size ≤ w'.heap.size := Below.size h
theorem Ext.frozen {w w' : World} (h : Ext w w') {p : Addr} (hp : p.block < w.heap.size) : w'.frozen? p = w.frozen? p := Below.frozen h hp
theorem quiet_ext {P : Program} {f : FuncId} {args : Array Value} {w : World} {x : Growth} {v : Value}
  (h : Calls P f args (Go.Proofs.YtjacbhomhjoolaaGreat.grow w x) fun e w' => e = .returned v ∧ Ext (Go.Proofs.YtjacbhomhjoolaaGreat.grow w x) w') :
  Calls P f args (Go.Proofs.YtjacbhomhjoolaaGreat.grow w x) fun e w' => e = .returned v ∧ ∃ x',w' = Go.Proofs.YtjacbhomhjoolaaGreat.grow w x' := quiet_grow h

theorem cell_new (w : World) (cs : Array Value) (t : TypeId) (i : Nat) : (w.alloc (.cells cs t)).cell? ⟨w.heap.size,i,none⟩ = cs[i]? := by
 rw [World.cell?_alloc_at _ _ _ _ rfl]
theorem cell_old (w : World) (o : Obj) (a : Addr) (h : a.block < w.heap.size) : (w.alloc o).cell? a = w.cell? a := World.cell?_alloc_lt _ _ _ h
theorem boxes1 (w : World) (ca : Array Value) (ta : TypeId) : ∃ W,w.alloc (.cells ca ta) = W ∧ Ext w W ∧ (∀ i,W.cell? ⟨w.heap.size,i,none⟩ = ca[i]?) ∧ W.heap.size = w.heap.size + 1 :=
 ⟨_,rfl,(Ext.refl w).alloc _,fun i => cell_new _ _ _ _,by simp⟩
theorem boxes2 (w : World) (ca cb : Array Value) (ta tb : TypeId) : ∃ W,(w.alloc (.cells ca ta)).alloc (.cells cb tb) = W ∧ Ext w W ∧ (∀ i,W.cell? ⟨w.heap.size,i,none⟩ = ca[i]?) ∧
  (∀ i,W.cell? ⟨w.heap.size + 1,i,none⟩ = cb[i]?) ∧ W.heap.size = w.heap.size + 2 := by
 refine ⟨_,rfl,((Ext.refl w).alloc _).alloc _,fun i => ?_,fun i => ?_,by simp⟩
 ·rw [cell_old _ _ _ (by simp),cell_new]
 ·have := cell_new (w.alloc (.cells ca ta)) cb tb i
  rwa [World.size_alloc] at this

structure SliceIs (w : World) (A : Option Addr) (n cap sz : Nat) (rows : List (List Value)) : Prop where
 len : rows.length = n
 le : n ≤ cap
 small : cap ≤ maxLen
 wide : ∀ r ∈ rows,r.length = sz
 cells : 0 < n → ∃ b off,A = some ⟨b,off,none⟩ ∧ b < w.heap.size ∧ ∀ i r,rows[i]? = some r → ∀ j u,r[j]? = some u → w.cell? ⟨b,off + i * sz + j,none⟩ = some u

theorem SliceIs.ext {w w' : World} {A : Option Addr} {n cap sz : Nat} {rows : List (List Value)} (h : SliceIs w A n cap sz rows) (e : Ext w w') : SliceIs w' A n cap sz rows := by
 obtain ⟨h1,h2,h3,h4,h5⟩ := h
 refine ⟨h1,h2,h3,h4,fun hn => ?_⟩
 obtain ⟨b,off,hA,hb,hc⟩ := h5 hn
 exact ⟨b,off,hA,Nat.lt_of_lt_of_le hb e.size,fun i r hr j u hu => e.cell (hc i r hr j u hu)⟩


def Blk (w : World) (g : Nat) (t : TypeId) (cs : Array Value) : Prop := w.heap[g]? = some (.cells cs t (0,0))

section
variable {w w' : World} {g : Nat} {t : TypeId} {cs : Array Value}
theorem Blk.lt (h : Blk w g t cs) : g < w.heap.size := by
 rcases Nat.lt_or_ge g w.heap.size with hlt | hge
 ·exact hlt
 ·unfold Blk at h
  rw [Array.getElem?_eq_none hge] at h
  cases h
theorem Blk.cell (h : Blk w g t cs) (i : Nat) : w.cell? ⟨g,i,none⟩ = cs[i]? := by
 unfold Blk at h
 simp [World.cell?,h]
theorem Blk.frozen (h : Blk w g t cs) (i : Nat) : w.frozen? ⟨g,i,none⟩ = false := by
 unfold Blk at h
 simp [World.frozen?,h]
theorem Blk.new (w : World) (cs : Array Value) (t : TypeId) : Blk (w.alloc (.cells cs t)) w.heap.size t cs := by
 show (w.heap.push _)[w.heap.size]? = _
 simp
theorem Blk.ext (h : Blk w g t cs) (e : Ext w w') : Blk w' g t cs := (Below.block e g h.lt).trans h
theorem Blk.drew (h : Blk w g t cs) : Blk w.drew g t cs := h
theorem Blk.drewN (h : Blk w g t cs) (n : Nat) : Blk (w.drewN n) g t cs := h
theorem Blk.alloc (h : Blk w g t cs) (o : Obj) : Blk (w.alloc o) g t cs := h.ext ((Ext.refl w).alloc o)
theorem Blk.set_ (h : Blk w g t cs) (i : Nat) (u : Value) : Blk (w.setCell ⟨g,i,none⟩ u) g t (cs.setIfInBounds i u) := by
 unfold Blk at h ⊢
 simp [World.setCell,Array.getElem?_modify,h]
theorem Blk.far (h : Blk w g t cs) {p : Addr} (hp : g ≠ p.block) (u : Value) : Blk (w.setCell p u) g t cs := (Below.heap_setCell w p u g hp).trans h
theorem Blk.below {B : Nat} (h : Blk w g t cs) (hb : Below B w w') (hg : g < B) : Blk w' g t cs := (hb.block g hg).trans h
theorem Blk.grown {row : Option Nat} (h : Blk w g t cs) (hb : w.grownBy w' row) (hg : some g ≠ row) : Blk w' g t cs := (hb.block g h.lt hg).trans h

theorem Blk.store3 {a b c : Value} (h : Blk w g t #[a,b,c]) (a' b' c' : Value) : ∃ w2,((w.setCell ⟨g,0,none⟩ a').setCell ⟨g,1,none⟩ b').setCell ⟨g,2,none⟩ c' = w2 ∧ Blk w2 g t #[a',b',c'] ∧
  (∀ k t' cs',k ≠ g → Blk w k t' cs' → Blk w2 k t' cs') ∧ (∀ w0,Ext w0 w → w0.heap.size ≤ g → Ext w0 w2) ∧ w2.heap.size = w.heap.size := by
 refine ⟨_,rfl,?_,fun k t' cs' hk hb => ((hb.far hk _).far hk _).far hk _,fun w0 hE hg => ((hE.setCell hg _).setCell hg _).setCell hg _,by simp [World.setCell]⟩
 have := ((h.set_ 0 a').set_ 1 b').set_ 2 c'
 simpa using this
end

section
variable {P : Program} {ops : Array Oper} {md : Region.Mode} {C : World → Prop}

def headQ (P : Program) (md : Region.Mode) (ops : Array Oper) (C : World → Prop) (n : Nat) (L : Array Bool → Act → Prop) : Nat → Array Bool → Act → Prop
 | 0,listed,a => L listed a
 | f + 1,listed,a => Region.ready md ops listed ≠ [] ∧ ∀ i ∈ Region.ready md ops listed,i < n ∧ qOp P ops C i (headQ P md ops C n L f (listed.setIfInBounds i true)) a

theorem any_of_headQ {n g : Nat} {L : Array Bool → Act → Prop} {Q' : Exit → Act → World → Prop} (hL : ∀ listed a,L listed a → ∀ w,C w → wpAny P md ops Q' g listed a w) (f : Nat) :
  ∀ (listed : Array Bool) (a : Act),headQ P md ops C n L f listed a → ∀ w,C w → wpAny P md ops Q' (f + g) listed a w := by
 induction f with
 | zero =>
  intro listed a h w hw
  rw [Nat.zero_add]
  exact hL _ _ h w hw
 | succ f ih =>
  intro listed a h w hw
  rw [show f + 1 + g = (f + g) + 1 from by omega]
  refine ⟨fun h0 => absurd h0 h.1,fun i hi => ?_⟩
  exact wpOp_of_qOp hw (fun a' w' hw' h' => ih _ a' h' w' hw') (h.2 i hi).2

theorem headQ_first {n i : Nat} {oi : Oper} {v : Value} {L : Array Bool → Act → Prop} (hi : ops[i]? = some oi) (hsel : ∀ (j : Nat) (o : Oper) cs b,ops[j]? = some o → o.op ≠ .select cs b)
  (hs : Region.sinkB md ops n = true) (hc : Region.chainB md ops n = true) (hn : n < ops.size) (hin : i < n) (hdone : ∀ listed a,L listed a → ∀ j ∈ Region.ready md ops listed,n ≤ j) (f : Nat) :
  ∀ (listed : Array Bool) (a : Act),HeadInv md ops n listed →
   (∀ j oj,ops[j]? = some oj → j ≠ i → listed.getD j true = false → (∀ e ∈ oj.after,Region.binds md e = true → e.on ≠ i) → oi.apart ops oj = true) →
   i ∈ Region.ready md ops listed → YieldsIn P ops C oi v a → headQ P md ops C n L f (listed.setIfInBounds i true) (a.put oi.dst v) → headQ P md ops C n L (f + 1) listed a := by
 have small : ∀ {listed : Array Bool},HeadInv md ops n listed → i ∈ Region.ready md ops listed → ∀ j ∈ Region.ready md ops listed,j < n := fun inv hr j hj => by
  rcases Nat.lt_or_ge j n with h | h
  ·exact h
  ·exact absurd hj (tail_waits hs hc hn inv _ i rfl hin (mem_ready.1 hr).1 j h)
 induction f with
 | zero =>
  intro listed a inv _ hr hy H
  refine ⟨fun h => (by rw [h] at hr; cases hr),fun j hj => ⟨small inv hr j hj,?_⟩⟩
  by_cases hji : j = i
  ·subst hji
   exact hy.qOp hi H
  ·have h1 := hdone _ _ H j (ready_mono hj hji)
   have h2 := small inv hr j hj
   omega
 | succ f ih =>
  intro listed a inv hfree hr hy H
  refine ⟨fun h => (by rw [h] at hr; cases hr),fun j hj => ⟨small inv hr j hj,?_⟩⟩
  by_cases hji : j = i
  ·subst hji
   exact hy.qOp hi H
  ·have hun := (mem_ready.1 hr).1
   have h1 := (H.2 j (ready_mono hj hji)).2
   obtain ⟨hjun,oj,hoj,hall⟩ := mem_ready.1 hj
   have hnot : ∀ e ∈ oj.after,Region.binds md e = true → e.on ≠ i := fun e he hb heq => by
    have h3 := hall e he hb
    rw [heq,getD_both hun] at h3
    cases h3
   have h2 := qOp_put hoj (hfree j oj hoj hji hjun hnot) (fun cs b => hsel i oi cs b hi) (fun cs b => hsel j oj cs b hoj) hy h1
   refine qOp_mono (fun a' h3 => ih (listed.setIfInBounds j true) a' (inv.set hj (small inv hr j hj)) (fun k ok hk hki hunk hno => ?_) (ready_mono hr (Ne.symm hji)) h3.1 ?_) h2
   ·refine hfree k ok hk hki ?_ hno
    by_cases hjk : j = k
    ·subst hjk
     exact hjun
    ·rwa [getD_set_ne true hjk] at hunk
   ·rw [Array.setIfInBounds_comm _ _ hji]
    exact h3.2

theorem headQ_lex {n g : Nat} {Lq : Act → Prop} (hsel : Region.noSelect ops = true) (hs : Region.sinkB md ops n = true) (hc : Region.chainB md ops n = true) (hn : n < ops.size) (l : List Oper) :
  ∀ (k : Nat) (listed : Array Bool) (a : Act),(∀ j,j < l.length → l[j]? = ops[k + j]?) → k + l.length = n → HeadInv md ops n listed →
  Region.lexHead md ops g l.length k listed = true → wpQuiet P ops C Lq l a →
  headQ P md ops C n (fun listed' a' => Region.seqB md ops g n listed' = true ∧ Lq a') l.length listed a := by
 induction l with
 | nil =>
  intro k listed a _ hk _ hB h
  have hk' : k = n := by simpa using hk
  subst hk'
  exact ⟨by simpa [Region.lexHead] using hB,h⟩
 | cons o l ih =>
  intro k listed a hl hk inv hB h
  have h0 : ops[k]? = some o := by simpa using (hl 0 (by simp)).symm
  simp only [List.length_cons,Region.lexHead,Bool.and_eq_true] at hB hk
  obtain ⟨⟨hr,hf⟩,hB'⟩ := hB
  have hr' : k ∈ Region.ready md ops listed := by simpa using hr
  have hq : qOp P ops C k (wpQuiet P ops C Lq l) a := by
   unfold qOp
   simp only [h0]
   exact h
  obtain ⟨v,hy,hK⟩ := yieldsIn_of_qOp h0 hq
  refine headQ_first h0 (Region.noSelect_spec hsel) hs hc hn (by omega) (fun listed' a' hL => seqB_ready hL.1) l.length listed a inv (Region.free_spec h0 hf) hr' hy ?_
  refine ih (k + 1) _ _ (fun j hj => ?_) (by omega) (inv.set hr' (by omega)) hB' hK
  have := hl (j + 1) (by simp; omega)
  simpa [Nat.add_assoc,Nat.add_comm 1 j] using this

theorem wp_region_tail {id : Nat} {Q : Exit → Act → World → Prop} {a : Act} {w : World} {l : List Oper} (n : Nat) (hm : P.follows .mixedOrders = true) (hB : Region.lexTailB .any l.toArray n = true)
  (h : wpQuiet P l.toArray (fun w' => ∃ x,w' = grow w x) (fun a' => ∀ w',(∃ x,w' = grow w x) → wpList P l.toArray Q (l.drop n) a' w') (l.take n) a) : (Code.region id l.toArray true).wp P Q a w := by
 simp only [Region.lexTailB,Bool.and_eq_true,decide_eq_true_eq] at hB
 obtain ⟨⟨⟨⟨hsel,hn⟩,hs⟩,hc⟩,hlex⟩ := hB
 have hn' : n < l.length := by simpa using hn
 have htl : (l.take n).length = n := by simp; omega
 have hdl : (l.drop n).length = l.toArray.size - n := by simp
 have inv0 : HeadInv .any l.toArray n (Array.replicate l.toArray.size false) :=
  ⟨by simp,fun j oj _ hl => (by rw [getD_replicate_false] at hl; cases hl),fun t _ ht => getD_in (by simpa using ht) (getD_replicate_false _ _)⟩
 have H := headQ_lex (P := P) (C := fun w' => ∃ x,w' = grow w x) (md := .any) (g := l.toArray.size - n) hsel hs hc hn (l.take n) 0 _ a (fun j hj => by
  rw [htl] at hj
  simp [hj]) (by simpa using htl) inv0 (by rw [htl]; exact hlex) h
 refine wp_region_any hm ?_
 have H2 := any_of_headQ (Q' := Q) (g := l.toArray.size - n) (fun listed a' hL w' hw' => by
  have := wpAny_of_seq (md := .any) (Q' := Q) (l.drop n) n listed a' w' (fun j => by simp [List.getElem?_drop]) (by rw [hdl]; exact hL.1) (hL.2 w' hw')
  rwa [hdl] at this) _ _ _ H { w with drawn := w.drawn + 1 } ⟨⟨#[],w.drawn + 1⟩,by simp [grow]⟩
 rw [htl,show n + (l.toArray.size - n) = l.toArray.size from by omega] at H2
 exact H2
end

theorem own_ext {w w' : World} {base : Nat} {e : TypeId} {size : Nat} {v : Value} {n : Nat} {xs : List Value} (h : w.ownsRow base e size v n xs) (E : Ext w w') : w'.ownsRow base e size v n xs := by
 obtain ⟨h1,h2⟩ := h
 refine ⟨h1,?_⟩
 rcases h2 with h2 | ⟨g,cap,cur,hv,hg,hh,r⟩
 ·exact Or.inl h2
 ·refine Or.inr ⟨g,cap,cur,hv,hg,?_,r⟩
  have hlt : g < w.heap.size := (Array.getElem?_eq_some_iff.1 hh).1
  rw [Below.block E g hlt]
  exact hh
theorem own_base {w : World} {base base' : Nat} {e : TypeId} {size : Nat} {v : Value} {n : Nat} {xs : List Value} (h : w.ownsRow base e size v n xs) (hb : base' ≤ base) : w.ownsRow base' e size v n xs := by
 obtain ⟨h1,h2⟩ := h
 refine ⟨h1,?_⟩
 rcases h2 with h2 | ⟨g,cap,cur,hv,hg,r⟩
 ·exact Or.inl h2
 ·exact Or.inr ⟨g,cap,cur,hv,Nat.le_trans hb hg,r⟩
theorem own_setCell {w : World} {base : Nat} {e : TypeId} {size : Nat} {v : Value} {n : Nat} {xs : List Value} (h : w.ownsRow base e size v n xs) {p : Addr} (hp : p.block < base) (u : Value) : (w.setCell p u).ownsRow base e size v n xs := by
 obtain ⟨h1,h2⟩ := h
 refine ⟨h1,?_⟩
 rcases h2 with h2 | ⟨g,cap,cur,hv,hg,hh,r⟩
 ·exact Or.inl h2
 ·exact Or.inr ⟨g,cap,cur,hv,hg,by rw [Below.heap_setCell _ _ _ _ (by omega)]; exact hh,r⟩
theorem own_ne {w : World} {base : Nat} {e : TypeId} {size : Nat} {v : Value} {n : Nat} {xs : List Value} (h : w.ownsRow base e size v n xs) {g : Nat} (hg : g < base) : some g ≠ v.ownBlock := fun he => by
 have := (h.lt g he.symm).1
 omega

theorem own_form {w : World} {base : Nat} {e : TypeId} {size : Nat} {v : Value} {n : Nat} {xs : List Value} (h : w.ownsRow base e size v n xs) (hn : 0 < n) : ∃ g cap,v = .slice (some ⟨g,0,none⟩) n cap := by
 rcases h.2 with ⟨_,h0⟩ | ⟨g,cap,cur,hv,_⟩
 ·omega
 ·exact ⟨g,cap,hv⟩
theorem add_zero_addr (g j : Nat) : (⟨g,0,none⟩ : Addr).add j = ⟨g,j,none⟩ := by
 unfold Addr.add
 split
 ·subst_vars; rfl
 ·simp

section
variable {P : Program} {w : World} {ops : Array Oper} {o : Oper} {a : Act} {K : Act → World → Prop} {Q : Exit → Act → World → Prop} {F : Prop}

theorem step_append_new (hgd : o.guard = none) (s x : Operand) (t : TypeId) (ho : o.op = .call { callee := .builtin .append,args := #[s,x],argTypes := #[t,t] })
  (base : Nat) (e : TypeId) (i : TypeInfo) (z : Value) (size bytes : Nat) (ht : P.underlying t = some (.slice e)) (hi : P.info? e = some i) (hz : i.zero = some z)
  (hsize : i.size = size) (hby : i.bytes = bytes) (hzs : z.cells.size = size) (hsz : 0 < size)
  (v : Value) (n : Nat) (xs : List Value) (hs : a.eval s = v) (hown : w.ownsRow base e size v n xs)
  (g m c : Nat) (news : List Value) (hx : a.eval x = .slice (some ⟨g,0,none⟩) m c) (hl : news.length = m * size) (hnews : ∀ j,w.cell? ⟨g,j,none⟩ = news[j]?) (h1 : ∀ u ∈ news,u.oneCell' = true)
  (h63 : n + m ≤ maxLen) (hbytes : (n + m) * bytes ≤ 140737488355328) (hbase : base ≤ w.heap.size)
  (h : ∀ v' w',w'.ownsRow base e size v' (n + m) (xs ++ news) → w.grownBy w' v.ownBlock → K (a.put o.dst v') w') : if Region.wanted o (yielded ops a.tmps) = true then o.wp P a w K Q else F := by
 rw [if_pos (by simp [Region.wanted,hgd])]
 exact wp_append_own w s x t ho base e i z size bytes ht hi hz hsize hby hzs hsz v n xs hs hown ⟨g,0,none⟩ m c news hx hl
  (fun j u hu => by rw [add_zero_addr,hnews j]; exact hu) h1 h63 hbytes hbase fun v' w' h2 h3 _ => h v' w' h2 h3

theorem step_append_one {w : World} (cs : Array Value) (hgd : o.guard = none) (s x : Operand) (t : TypeId) (ho : o.op = .call { callee := .builtin .append,args := #[s,x],argTypes := #[t,t] })
  (base : Nat) (e te : TypeId) (i : TypeInfo) (z : Value) (size bytes : Nat) (ht : P.underlying t = some (.slice e)) (hi : P.info? e = some i) (hz : i.zero = some z)
  (hsize : i.size = size) (hby : i.bytes = bytes) (hzs : z.cells.size = size) (hsz : 0 < size)
  (v : Value) (n c : Nat) (xs : List Value) (hs : a.eval s = v) (hown : w.ownsRow base e size v n xs)
  (hx : a.eval x = .slice (some ⟨w.heap.size,0,none⟩) 1 c) (hl : cs.size = size) (h1 : ∀ u ∈ cs.toList,u.oneCell' = true)
  (h63 : n + 1 ≤ maxLen) (hbytes : (n + 1) * bytes ≤ 140737488355328) (hbase : base ≤ w.heap.size)
  (h : ∀ g' cap' w',w'.ownsRow base e size (.slice (some ⟨g',0,none⟩) (n + 1) cap') (n + 1) (xs ++ cs.toList) → (w.alloc (.cells cs te)).grownBy w' v.ownBlock → K (a.put o.dst (.slice (some ⟨g',0,none⟩) (n + 1) cap')) w') :
  if Region.wanted o (yielded ops a.tmps) = true then o.wp P a (w.alloc (.cells cs te)) K Q else F :=
 step_append_new hgd s x t ho base e i z size bytes ht hi hz hsize hby hzs hsz v n xs hs (hown.alloc _) w.heap.size 1 c cs.toList hx (by simp [hl]) (fun j => by rw [cell_new]; simp) h1 h63 hbytes
  (by simp; omega) fun v' w' h2 h3 => by
   obtain ⟨g',cap',rfl⟩ := own_form h2 (by omega)
   exact h g' cap' w' h2 h3
theorem wpList_append_one {w : World} {rest : List Oper} (cs : Array Value) (hgd : o.guard = none) (s x : Operand) (t : TypeId) (ho : o.op = .call { callee := .builtin .append,args := #[s,x],argTypes := #[t,t] })
  (base : Nat) (e te : TypeId) (i : TypeInfo) (z : Value) (size bytes : Nat) (ht : P.underlying t = some (.slice e)) (hi : P.info? e = some i) (hz : i.zero = some z)
  (hsize : i.size = size) (hby : i.bytes = bytes) (hzs : z.cells.size = size) (hsz : 0 < size)
  (v : Value) (n c : Nat) (xs : List Value) (hs : a.eval s = v) (hown : w.ownsRow base e size v n xs)
  (hx : a.eval x = .slice (some ⟨w.heap.size,0,none⟩) 1 c) (hl : cs.size = size) (h1 : ∀ u ∈ cs.toList,u.oneCell' = true)
  (h63 : n + 1 ≤ maxLen) (hbytes : (n + 1) * bytes ≤ 140737488355328) (hbase : base ≤ w.heap.size)
  (h : ∀ g' cap' w',w'.ownsRow base e size (.slice (some ⟨g',0,none⟩) (n + 1) cap') (n + 1) (xs ++ cs.toList) → (w.alloc (.cells cs te)).grownBy w' v.ownBlock → wpList P ops Q rest (a.put o.dst (.slice (some ⟨g',0,none⟩) (n + 1) cap')) w') :
  wpList P ops Q (o :: rest) a (w.alloc (.cells cs te)) :=
 wpList_plain hgd fun _ hK => by
  have := step_append_one (P := P) (ops := ops) (o := o) (a := a) (Q := Q) (F := True) cs hgd s x t ho base e te i z size bytes ht hi hz hsize hby hzs hsz v n c xs hs hown hx hl h1 h63 hbytes hbase (fun g' cap' w' h2 h3 => hK _ _ (h g' cap' w' h2 h3))
  rwa [if_pos (by simp [Region.wanted,hgd])] at this
end

structure Only (K : Nat → Prop) (w w' : World) : Prop where
 os : w'.os = w.os
 tape : w'.tape = w.tape
 output : w'.output = w.output
 size : w.heap.size ≤ w'.heap.size
 block : ∀ k,k < w.heap.size → ¬ K k → w'.heap[k]? = w.heap[k]?
theorem Only.refl (K : Nat → Prop) (w : World) : Only K w w := ⟨rfl,rfl,rfl,Nat.le_refl _,fun _ _ _ => rfl⟩
theorem Only.trans {K K' : Nat → Prop} {a b c : World} (h : Only K a b) (k : Only K' b c) (hk : ∀ i,i < a.heap.size → K' i → K i) : Only K a c :=
 ⟨k.os.trans h.os,k.tape.trans h.tape,k.output.trans h.output,Nat.le_trans h.size k.size,fun i hi hK =>
  (k.block i (Nat.lt_of_lt_of_le hi h.size) (fun e => hK (hk i hi e))).trans (h.block i hi hK)⟩
theorem Only.mono {K K' : Nat → Prop} {a b : World} (h : Only K a b) (hk : ∀ i,i < a.heap.size → K i → K' i) : Only K' a b :=
 ⟨h.os,h.tape,h.output,h.size,fun i hi hK => h.block i hi (fun e => hK (hk i hi e))⟩
theorem Only.of_ext (K : Nat → Prop) {a b : World} (h : Ext a b) : Only K a b := ⟨h.1,h.2,h.3,h.size,fun k hk _ => h.block k hk⟩
theorem Only.ext {K : Nat → Prop} {a b c : World} (h : Only K a b) (k : Ext b c) : Only K a c := h.trans (Only.of_ext (fun _ => False) k) (fun _ _ e => e.elim)
theorem Only.alloc {K : Nat → Prop} {a b : World} (h : Only K a b) (o : Obj) : Only K a (b.alloc o) := h.ext ((Ext.refl b).alloc o)
theorem Only.of_grown {K : Nat → Prop} {a b : World} {row : Option Nat} (h : a.grownBy b row) (hk : ∀ r,row = some r → K r) : Only K a b :=
 ⟨h.os,h.tape,h.output,h.size,fun k hk' hK => h.block k hk' (fun e => hK (hk k e.symm))⟩
theorem Only.grown {K : Nat → Prop} {a b c : World} {row : Option Nat} (h : Only K a b) (g : b.grownBy c row) (hk : ∀ r,row = some r → r < a.heap.size → K r) : Only K a c :=
 h.trans (Only.of_grown (K := fun r => row = some r) g (fun _ e => e)) (fun i hi e => hk i e hi)
theorem Only.setCell {K : Nat → Prop} {a b : World} (h : Only K a b) {p : Addr} (hp : p.block < a.heap.size → K p.block) (u : Value) : Only K a (b.setCell p u) :=
 ⟨h.os,h.tape,h.output,by rw [show (b.setCell p u).heap.size = b.heap.size by simp [World.setCell]]; exact h.size,fun k hk hK => by
  have hne : k ≠ p.block := fun e => hK (by rw [e]; exact hp (by rw [← e]; exact hk))
  rw [Below.heap_setCell _ _ _ _ hne]
  exact h.block k hk hK⟩
theorem Only.below {K : Nat → Prop} {t a b : World} (h0 : Ext t a) (h : Only K a b) (hk : ∀ k,K k → t.heap.size ≤ k) : Ext t b :=
 ⟨h.os.trans h0.1,h.tape.trans h0.2,h.output.trans h0.3,Nat.le_trans h0.size h.size,fun k hk' =>
  (h.block k (Nat.lt_of_lt_of_le hk' h0.size) (fun e => by have := hk k e; omega)).trans (h0.block k hk')⟩
theorem Blk.only {K : Nat → Prop} {a b : World} {g : Nat} {t : TypeId} {cs : Array Value} (h : Blk a g t cs) (k : Only K a b) (hg : ¬ K g) : Blk b g t cs := (k.block g h.lt hg).trans h
theorem own_only {K : Nat → Prop} {a b : World} {base : Nat} {e : TypeId} {size : Nat} {v : Value} {n : Nat} {xs : List Value} (h : a.ownsRow base e size v n xs) (k : Only K a b) (hv : ∀ r,v.ownBlock = some r → ¬ K r) : b.ownsRow base e size v n xs := by
 obtain ⟨h1,h2⟩ := h
 refine ⟨h1,?_⟩
 rcases h2 with h2 | ⟨g,cap,cur,hv',hg,hh,r⟩
 ·exact Or.inl h2
 ·refine Or.inr ⟨g,cap,cur,hv',hg,?_,r⟩
  rw [k.block g (Array.getElem?_eq_some_iff.1 hh).1 (hv g (by rw [hv']; rfl))]
  exact hh
theorem SliceIs.only {K : Nat → Prop} {a b : World} {A : Option Addr} {n cap sz : Nat} {rows : List (List Value)} (h : SliceIs a A n cap sz rows) (k : Only K a b) (hA : ∀ q,A = some q → ¬ K q.block) : SliceIs b A n cap sz rows := by
 obtain ⟨h1,h2,h3,h4,h5⟩ := h
 refine ⟨h1,h2,h3,h4,fun hn => ?_⟩
 obtain ⟨g,off,rfl,hb,hc⟩ := h5 hn
 refine ⟨g,off,rfl,Nat.lt_of_lt_of_le hb k.size,fun i r hr j u hu => ?_⟩
 have := hc i r hr j u hu
 rw [← this]
 exact World.cell?_of_block (k.block g hb (hA _ rfl))

theorem own_typed {w : World} {base : Nat} {e : TypeId} {size : Nat} {v : Value} {n : Nat} {xs : List Value} (h : w.ownsRow base e size v n xs) {r : Nat} (hr : v.ownBlock = some r) : ∃ cs,Blk w r e cs := by
 rcases h.2 with ⟨rfl,_⟩ | ⟨g,cap,cur,rfl,hg,hh,_⟩
 ·cases hr
 ·cases hr
  exact ⟨cur,hh⟩
theorem Blk.types {w : World} {g : Nat} {t t' : TypeId} {cs cs' : Array Value} (h : Blk w g t cs) (h' : Blk w g t' cs') : t = t' := by
 have := h.symm.trans h'
 cases this
 rfl
def Fate (W w' : World) (base : Nat) (e : TypeId) (size : Nat) (v v' : Value) (n : Nat) (xs news : List Value) : Prop :=
 w'.ownsRow base e size v' (n + 1) (xs ++ news) ∧ ∃ g cap,v' = .slice (some ⟨g,0,none⟩) (n + 1) cap ∧ ((v = .slice (some ⟨g,0,none⟩) n cap ∧ W.grownBy w' (some g)) ∨ (W.heap.size ≤ g ∧ W.grownBy w' none))
section
variable {P : Program}
theorem run_append_fate (w : World) (base : Nat) (t ty e : TypeId) (i : TypeInfo) (z : Value) (size bytes : Nat) (ht : P.underlying t = some (.slice e)) (hi : P.info? e = some i) (hz : i.zero = some z)
  (hsize : i.size = size) (hby : i.bytes = bytes) (hzs : z.cells.size = size) (hsz : 0 < size)
  (v : Value) (n : Nat) (xs : List Value) (hown : w.ownsRow base e size v n xs)
  (g c : Nat) (news : List Value) (hl : news.length = size) (hnews : ∀ j,w.cell? ⟨g,j,none⟩ = news[j]?) (h1 : ∀ u ∈ news,u.oneCell' = true)
  (h63 : n + 1 ≤ maxLen) (hbytes : (n + 1) * bytes ≤ 140737488355328) (hbase : base ≤ w.heap.size) :
  ∃ v' w',(Builtin.append_ #[t,t] ty #[v,.slice (some ⟨g,0,none⟩) 1 c]).run P w = .ok v' w' ∧ Fate w w' base e size v v' n xs news := by
 have hl' : news.length = 1 * size := by omega
 have hn' : ∀ j u,news[j]? = some u → w.cell? ((⟨g,0,none⟩ : Addr).add j) = some u := fun j u hu => by rw [add_zero_addr,hnews j]; exact hu
 obtain ⟨v',w',hr,h2,h3,h4⟩ := run_append_own (P := P) w base t ty e i z size bytes ht hi hz hsize hby hzs hsz v n xs hown ⟨g,0,none⟩ 1 c news hl' hn' h1 h63 hbytes hbase
 refine ⟨v',w',hr,h2,?_⟩
 rcases hown.2 with ⟨rfl,rfl⟩ | ⟨b,cap,cur,rfl,hbg,hg,hnc,hcm,hcs,htake⟩
 ·have hx : xs = [] := List.eq_nil_of_length_eq_zero (by simpa using hown.1)
  subst hx
  obtain ⟨v2,w2,hr2,h5,h6,_⟩ := run_append_own (P := P) w w.heap.size t ty e i z size bytes ht hi hz hsize hby hzs hsz (.slice none 0 0) 0 [] (World.ownsRow_nil w _ e size) ⟨g,0,none⟩ 1 c news hl' hn' h1 h63 hbytes (Nat.le_refl _)
  rw [hr] at hr2
  cases hr2
  obtain ⟨b,cap,rfl⟩ := own_form h5 (by omega)
  exact ⟨b,cap,rfl,Or.inr ⟨(h5.lt b rfl).1,h6⟩⟩
 ·by_cases hroom : n + 1 ≤ cap
  ·have hr2 := run_append_room (P := P) w t ty e i ht hi b n cap cur hg ⟨g,0,none⟩ 1 c news (by rw [hsize]; exact hl') hn' h1 hroom (by rw [hsize,hl',hcs,← Nat.add_mul]; exact Nat.mul_le_mul_right _ hroom)
   rw [hr] at hr2
   injection hr2 with e1 e2
   exact ⟨b,cap,e1,Or.inl ⟨rfl,h3⟩⟩
  ·have hx : ∀ j u,xs[j]? = some u → w.cell? ((⟨b,0,none⟩ : Addr).add j) = some u := hown.cells (g := b) rfl
   obtain ⟨v2,w2,hr2,h5,h6⟩ := run_append_arg_grows (P := P) w t ty e i z size bytes ht hi hz hsize hby hzs hsz ⟨b,0,none⟩ n cap xs hown.1 hx ⟨g,0,none⟩ 1 c news hl' hn' (by omega) h63 hbytes
   rw [hr] at hr2
   cases hr2
   obtain ⟨b2,cap2,rfl⟩ := own_form h5 (by omega)
   exact ⟨b2,cap2,rfl,Or.inr ⟨(h5.lt b2 rfl).1,h6⟩⟩
theorem step_append_fate {w : World} {ops : Array Oper} {o : Oper} {a : Act} {K : Act → World → Prop} {Q : Exit → Act → World → Prop} {F : Prop} (hgd : o.guard = none) (s x : Operand) (t : TypeId) (ho : o.op = .call { callee := .builtin .append,args := #[s,x],argTypes := #[t,t] })
  (base : Nat) (e : TypeId) (i : TypeInfo) (z : Value) (size bytes : Nat) (ht : P.underlying t = some (.slice e)) (hi : P.info? e = some i) (hz : i.zero = some z)
  (hsize : i.size = size) (hby : i.bytes = bytes) (hzs : z.cells.size = size) (hsz : 0 < size)
  (v : Value) (n : Nat) (xs : List Value) (hs : a.eval s = v) (hown : w.ownsRow base e size v n xs)
  (g c : Nat) (news : List Value) (hx : a.eval x = .slice (some ⟨g,0,none⟩) 1 c) (hl : news.length = size) (hnews : ∀ j,w.cell? ⟨g,j,none⟩ = news[j]?) (h1 : ∀ u ∈ news,u.oneCell' = true)
  (h63 : n + 1 ≤ maxLen) (hbytes : (n + 1) * bytes ≤ 140737488355328) (hbase : base ≤ w.heap.size)
  (h : ∀ v' w',Fate w w' base e size v v' n xs news → K (a.put o.dst v') w') : if Region.wanted o (yielded ops a.tmps) = true then o.wp P a w K Q else F := by
 rw [if_pos (by simp [Region.wanted,hgd])]
 obtain ⟨v',w',hr,hf⟩ := run_append_fate (P := P) w base t o.type e i z size bytes ht hi hz hsize hby hzs hsz v n xs hown g c news hl hnews h1 h63 hbytes hbase
 unfold Oper.wp execOp
 simp only [ho,resolve,invoke,builtin,Sem.run_bind,Sem.run_pure,Result.andThen_ok,List.map_toArray,List.map_cons,List.map_nil,hs,hx,hr]
 exact h v' w' hf
end

theorem ext_facts {w w' : World} (E : Ext w w') :
  (∀ a,(w.cell? a).isSome = true → w'.cell? a = w.cell? a) ∧ (∀ a,(w.cell? a).isSome = true → w'.frozen? a = w.frozen? a) ∧ w.heap.size ≤ w'.heap.size := by
 refine ⟨fun a h => ?_,fun a h => ?_,E.size⟩
 ·obtain ⟨u,hu⟩ := Option.isSome_iff_exists.1 h
  rw [hu]
  exact E.cell hu
 ·obtain ⟨u,hu⟩ := Option.isSome_iff_exists.1 h
  exact E.frozen (World.block_lt_of_cell? w a hu)

/-! A loop that may leave early, as a fold that may fail. -/
section
variable {α : Type}
def runs (f : Nat → α → Option α) : Nat → α → Option α
 | 0,a => some a
 | k + 1,a => (runs f k a).bind (f k)
end

/-! ### lists of pairs -/
section
variable {K V : Type} [DecidableEq K]
def lookAt : List (K × V) → K → Nat → Option (Nat × V)
 | [],_,_ => none
 | p :: m,x,i => if x = p.1 then some (i,p.2) else lookAt m x (i + 1)
def getK : List (K × V) → K → Option V
 | [],_ => none
 | p :: m,x => if x = p.1 then some p.2 else getK m x
def putK : List (K × V) → K → V → List (K × V)
 | [],x,v => [(x,v)]
 | p :: m,x,v => if x = p.1 then (x,v) :: m else p :: putK m x v
theorem getK_putK (m : List (K × V)) (x y : K) (v : V) : getK (putK m x v) y = if y = x then some v else getK m y := by
 induction m with
 | nil => rfl
 | cons p m ih =>
  unfold putK
  by_cases h : x = p.1
  ·rw [if_pos h]
   unfold getK
   simp only
   by_cases hy : y = x
   ·rw [if_pos hy,if_pos hy]
   ·rw [if_neg hy,if_neg hy,if_neg (by rw [← h]; exact hy)]
  ·rw [if_neg h]
   unfold getK
   rw [ih]
   by_cases hy : y = p.1
   ·rw [if_pos hy,if_pos hy,if_neg (fun e => h (by rw [← e,hy]))]
   ·rw [if_neg hy,if_neg hy]
theorem lookAt_getK (m : List (K × V)) (x : K) (i : Nat) : (lookAt m x i).map (·.2) = getK m x := by
 induction m generalizing i with
 | nil => rfl
 | cons p m ih =>
  unfold lookAt getK
  split
  ·rfl
  ·exact ih _
theorem lookAt_none {m : List (K × V)} {x : K} {i : Nat} (h : lookAt m x i = none) (v : V) : putK m x v = m ++ [(x,v)] := by
 induction m generalizing i with
 | nil => rfl
 | cons p m ih =>
  unfold lookAt at h
  unfold putK
  split at h
  ·cases h
  ·rename_i hx
   rw [if_neg hx,ih h]
   rfl
theorem lookAt_some {m : List (K × V)} {x : K} {i j : Nat} {u : V} (h : lookAt m x i = some (j,u)) (v : V) : ∃ k,j = i + k ∧ m[k]? = some (x,u) ∧ putK m x v = m.set k (x,v) := by
 induction m generalizing i with
 | nil => cases h
 | cons p m ih =>
  unfold lookAt at h
  unfold putK
  split at h
  ·rename_i hx
   cases h
   refine ⟨0,rfl,?_,?_⟩
   ·rw [hx]
    rfl
   ·rw [if_pos hx]
    rfl
  ·rename_i hx
   obtain ⟨k,rfl,h1,h2⟩ := ih h
   refine ⟨k + 1,by omega,h1,?_⟩
   rw [if_neg hx,h2]
   rfl
theorem putK_keys (m : List (K × V)) (x : K) (v : V) (h : (m.map (·.1)).Nodup) : ((putK m x v).map (·.1)).Nodup := by
 cases hl : lookAt m x 0 with
 | none =>
  rw [lookAt_none hl]
  have hx : ∀ (m : List (K × V)) (i : Nat),lookAt m x i = none → x ∉ m.map (·.1) := by
   intro m
   induction m with
   | nil => intro _ _; simp
   | cons p m ih =>
    intro i hi
    unfold lookAt at hi
    split at hi
    ·cases hi
    ·rename_i hne
     simp only [List.map_cons,List.mem_cons,not_or]
     exact ⟨hne,ih _ hi⟩
  rw [List.map_append,List.nodup_append]
  refine ⟨h,by simp,fun a ha b hb => ?_⟩
  simp only [List.map_cons,List.map_nil,List.mem_singleton] at hb
  rintro rfl
  subst hb
  exact hx m 0 hl ha
 | some r =>
  obtain ⟨j,u⟩ := r
  obtain ⟨k,_,h1,h2⟩ := lookAt_some hl v
  rw [h2]
  have : (m.set k (x,v)).map (·.1) = m.map (·.1) := by
   apply List.ext_getElem?
   intro i
   simp only [List.getElem?_map,List.getElem?_set]
   split
   ·subst_vars
    rw [h1]
    split <;> simp_all
   ·rfl
  rw [this]
  exact h
end

/-! ### in memory -/
structure KeyEnc (P : Program) (k : TypeId) {K : Type} [DecidableEq K] (enc : K → Value) : Prop where
 wide : (match P.underlying k with | some (.array _ _) | some (.struct _) => true | _ => false) = true
 eq : ∀ w x y,(Op.equal k (enc x) (enc y)).run P w = .ok (decide (x = y)) w
 check : ∀ w em x,(Instr.checkKey em 10000 k (enc x)).run P w = .ok () w
 same : ∀ x,Instr.sameBits 10000 (enc x) (enc x) = true

section
variable {P : Program} {k : TypeId} {K V : Type} {enc : K → Value} {ev : V → Value}

def MapOf (enc : K → Value) (ev : V → Value) (w : World) (b : Nat) (m : List (K × V)) : Prop :=
 ∃ es clock,w.heap[b]? = some (.map es clock) ∧ es.toList.map (fun e => (e.key,e.val)) = m.map (fun p => (enc p.1,ev p.2)) ∧ (∀ e ∈ es.toList,e.born < clock) ∧ (es.toList.map (·.born)).Nodup

theorem MapOf.lt {w : World} {b : Nat} {m : List (K × V)} (h : MapOf enc ev w b m) : b < w.heap.size := by
 obtain ⟨es,clock,hb,_⟩ := h
 exact (Array.getElem?_eq_some_iff.1 hb).1
theorem MapOf.ext {w w' : World} {b : Nat} {m : List (K × V)} (h : MapOf enc ev w b m) (E : Ext w w') : MapOf enc ev w' b m := by
 have hlt := h.lt
 obtain ⟨es,clock,hb,r⟩ := h
 exact ⟨es,clock,(Below.block E b hlt).trans hb,r⟩
theorem MapOf.grown {w w' : World} {b : Nat} {m : List (K × V)} {row : Option Nat} (h : MapOf enc ev w b m) (g : w.grownBy w' row) (hr : some b ≠ row) : MapOf enc ev w' b m := by
 have hlt := h.lt
 obtain ⟨es,clock,hb,r⟩ := h
 exact ⟨es,clock,(g.block b hlt hr).trans hb,r⟩
theorem MapOf.made (w : World) : MapOf enc ev (w.alloc (.map #[] 0)) w.heap.size ([] : List (K × V)) :=
 ⟨#[],0,(MapKept.heap_alloc w _).1,rfl,by simp,by simp⟩

theorem mapbox_ (enc : K → Value) (ev : V → Value) (w : World) : ∃ W,w.alloc (.map #[] 0) = W ∧ Ext w W ∧ MapOf enc ev W w.heap.size [] ∧ W.heap.size = w.heap.size + 1 :=
 ⟨_,rfl,(Ext.refl w).alloc _,MapOf.made w,by simp⟩
variable [DecidableEq K]
theorem find_run (E : KeyEnc P k enc) (w : World) (x : K) : ∀ (es : List MapEntry) (m : List (K × V)) (i : Nat),es.map (fun e => (e.key,e.val)) = m.map (fun p => (enc p.1,ev p.2)) →
  (Instr.findAsking k (enc x) es i).run P w = .ok ((lookAt m x i).map fun r => (r.1,ev r.2)) w
 | [], [],i,_ => by simp [Instr.findAsking,lookAt]
 | [],p :: m,_,h => by simp at h
 | e :: es, [],_,h => by simp at h
 | e :: es,p :: m,i,h => by
  simp only [List.map_cons,List.cons.injEq,Prod.mk.injEq] at h
  obtain ⟨⟨h1,h2⟩,h3⟩ := h
  have ih := find_run E w x es m (i + 1) h3
  unfold lookAt
  by_cases hx : x = p.1
  ·simp [Instr.findAsking,h1,E.eq,hx,h2]
  ·simp [Instr.findAsking,h1,E.eq,hx,ih]

theorem lookup_run (E : KeyEnc P k enc) {t e : TypeId} (ht : P.underlying t = some (.map k e)) {w : World} {z : Value} (hz : (zeroValue e).run P w = .ok z w) {b : Nat} {m : List (K × V)} (h : MapOf enc ev w b m) (x : K) (ok : Bool) :
  (Instr.lookup t (.map (some b)) (enc x) ok).run P w = .ok (match getK m x with
   | some v => if ok then .tuple #[ev v,.bool true] else ev v
   | none => if ok then .tuple #[z,.bool false] else z) w := by
 obtain ⟨es,clock,hb,hm,_⟩ := h
 have hf := find_run E w x es.toList m 0 hm
 rw [← run_findKey_eq w E.wide] at hf
 rw [← lookAt_getK m x 0]
 cases hl : lookAt m x 0 with
 | none =>
  rw [hl] at hf
  simp [Instr.lookup,run_underlying ht,MapKept.run_getObj_map hb,E.check,hf,hz,Result.andThen]
 | some r =>
  rw [hl] at hf
  simp [Instr.lookup,run_underlying ht,MapKept.run_getObj_map hb,E.check,hf,Result.andThen]

theorem update_run (E : KeyEnc P k enc) {t e : TypeId} (ht : P.underlying t = some (.map k e)) {w : World} {b : Nat} {m : List (K × V)} (h : MapOf enc ev w b m) (x : K) (v : V) :
  ∃ w',(Instr.mapUpdate t (.map (some b)) (enc x) (ev v)).run P w = .ok () w' ∧ MapOf enc ev w' b (putK m x v) ∧ w.grownBy w' (some b) ∧ w'.heap.size = w.heap.size := by
 obtain ⟨es,clock,hb,hm,hs1,hs2⟩ := h
 have hf := find_run E w x es.toList m 0 hm
 rw [← run_findKey_eq w E.wide] at hf
 have grown : ∀ o,w.grownBy (ChangeMaps.setBlock w b o) (some b) := fun o => ⟨rfl,rfl,rfl,by simp [ChangeMaps.setBlock],fun i _ hi => ChangeMaps.heap_setBlock_other hb _ (fun e => hi (by rw [e]))⟩
 have hsz : ∀ o,(ChangeMaps.setBlock w b o).heap.size = w.heap.size := fun o => by simp [ChangeMaps.setBlock]
 cases hl : lookAt m x 0 with
 | none =>
  rw [hl] at hf
  refine ⟨ChangeMaps.setBlock w b (.map (es.push { key := enc x,val := ev v,born := clock }) (clock + 1)),?_,⟨_,_,ChangeMaps.heap_setBlock_same hb _,?_,?_,?_⟩,grown _,hsz _⟩
  ·simp [Instr.mapUpdate,run_underlying ht,MapKept.run_getObj_map hb,E.check,hf,MapKept.run_setObj_map _ hb,Result.andThen,ChangeMaps.setBlock]
  ·rw [lookAt_none hl]
   simp [hm]
  ·intro y hy
   simp only [Array.toList_push,List.mem_append,List.mem_singleton] at hy
   rcases hy with hy | rfl
   ·exact Nat.lt_succ_of_lt (hs1 y hy)
   ·exact Nat.lt_succ_self _
  ·simp only [Array.toList_push,List.map_append,List.map_cons,List.map_nil]
   refine List.nodup_append.2 ⟨hs2,by simp,?_⟩
   intro a ha b hb
   simp only [List.mem_singleton] at hb
   subst hb
   obtain ⟨y,hy,rfl⟩ := List.mem_map.1 ha
   exact Nat.ne_of_lt (hs1 y hy)
 | some r =>
  obtain ⟨j,u⟩ := r
  rw [hl] at hf
  obtain ⟨j',hj',h1,h2⟩ := lookAt_some hl v
  obtain rfl : j = j' := by omega
  have hlen : es.toList.length = m.length := by
   have := congrArg List.length hm
   simpa using this
  have hjl : j < es.toList.length := by
   rw [hlen]
   exact (List.getElem?_eq_some_iff.1 h1).1
  have hjm : (es.toList.map (fun e => (e.key,e.val)))[j]? = some (enc x,ev u) := by
   rw [hm,List.getElem?_map,h1]
   rfl
  obtain ⟨e0,hej⟩ : ∃ e0,es.toList[j]? = some e0 := ⟨_,List.getElem?_eq_getElem hjl⟩
  have hmem : e0 ∈ es.toList := List.mem_of_getElem? hej
  have hkey : e0.key = enc x := by
   rw [List.getElem?_map,hej] at hjm
   simp only [Option.map_some,Option.some.injEq,Prod.mk.injEq] at hjm
   exact hjm.1
  have hej' : es[j]? = some e0 := by rw [← hej]; simp
  have hlist : (es.modify j (fun e' => { e' with key := enc x,val := ev v })).toList = es.toList.set j { e0 with key := enc x,val := ev v } := by
   rw [Array.toList_modify,ChangeMaps.modify_eq_set _ _ _ _ hej]
  refine ⟨ChangeMaps.setBlock w b (.map (es.modify j (fun e' => { e' with key := enc x,val := ev v })) clock),?_,⟨_,_,ChangeMaps.heap_setBlock_same hb _,?_,?_,?_⟩,grown _,hsz _⟩
  ·simp [Instr.mapUpdate,run_underlying ht,MapKept.run_getObj_map hb,E.check,hf,hej',hkey,Instr.keyThatStays,E.same,MapKept.run_setObj_map _ hb,Result.andThen,ChangeMaps.setBlock]
  ·rw [hlist,h2,List.map_set,List.map_set,hm]
  ·intro y hy
   rw [hlist] at hy
   rcases List.mem_or_eq_of_mem_set hy with hy | rfl
   ·exact hs1 y hy
   ·exact hs1 e0 hmem
  ·rw [hlist,List.map_set]
   have : (es.toList.map (·.born)).set j e0.born = es.toList.map (·.born) := by
    apply List.ext_getElem?
    intro i
    rw [List.getElem?_set]
    split
    ·rename_i hji
     subst hji
     rw [if_pos (by simpa using hjl),List.getElem?_map,hej]
     rfl
    ·rfl
   rw [this]
   exact hs2
theorem wpList_put (E : KeyEnc P k enc) {w : World} {ops : Array Oper} {rest : List Oper} {o : Oper} {a : Act} {Q : Exit → Act → World → Prop}
  (hg : o.guard = none) (mo xo vo : Operand) (t : TypeId) (hop : o.op = Op.mapUpdate t mo xo vo) (e : TypeId) (ht : P.underlying t = some (.map k e)) (b : Nat) (m : List (K × V)) (x : K) (v : V)
  (hm : a.eval mo = .map (some b)) (hown : MapOf enc ev w b m) (hx : a.eval xo = enc x) (hv : a.eval vo = ev v)
  (hK : ∀ w',MapOf enc ev w' b (putK m x v) → w.grownBy w' (some b) → w'.heap.size = w.heap.size → wpList P ops Q rest (a.put o.dst undef) w') : wpList P ops Q (o :: rest) a w := by
 refine wpList_plain hg fun K' hK' => ?_
 obtain ⟨w',hrun,r1,r2,r3⟩ := update_run E ht hown x v
 unfold Oper.wp
 simp [execOp,hop,hm,hx,hv,hrun,Result.andThen]
 exact hK' _ _ (hK w' r1 r2 r3)
end

theorem rowsF_get {sz : Nat} : ∀ {rows : List (List Value)},(∀ r ∈ rows,r.length = sz) → ∀ {i j : Nat},j < sz → rows.flatten[i * sz + j]? = (rows[i]?).bind (·[j]?)
 | [],_,i,j,_ => by simp
 | r :: rs,hw,i,j,hj => by
  have hr := hw r (List.mem_cons_self ..)
  rw [List.flatten_cons]
  cases i with
  | zero =>
   rw [Nat.zero_mul,Nat.zero_add,List.getElem?_append_left (by omega)]
   rfl
  | succ i =>
   rw [List.getElem?_append_right (by rw [hr,Nat.succ_mul]; omega),hr,show (i + 1) * sz + j - sz = i * sz + j by rw [Nat.succ_mul]; omega,rowsF_get (fun r h => hw r (List.mem_cons_of_mem _ h)) hj]
   rfl
theorem rowsF_len {sz : Nat} : ∀ {rows : List (List Value)},(∀ r ∈ rows,r.length = sz) → rows.flatten.length = rows.length * sz
 | [],_ => by simp
 | r :: rs,hw => by
  rw [List.flatten_cons,List.length_append,hw r (List.mem_cons_self ..),rowsF_len (fun r h => hw r (List.mem_cons_of_mem _ h)),List.length_cons,Nat.succ_mul,Nat.add_comm]
def rowsA (rows : List (List Value)) : Array Value := rows.flatten.toArray
theorem rowsA_get {sz : Nat} {rows : List (List Value)} (hw : ∀ r ∈ rows,r.length = sz) {i j : Nat} {r : List Value} {u : Value} (hr : rows[i]? = some r) (hu : r[j]? = some u) : (rowsA rows)[i * sz + j]? = some u := by
 have hj : j < sz := by
  have := (List.getElem?_eq_some_iff.1 hu).1
  rw [hw r (List.mem_of_getElem? hr)] at this
  exact this
 unfold rowsA
 rw [List.getElem?_toArray,rowsF_get hw hj,hr]
 exact hu
theorem rowsA_size {sz : Nat} {rows : List (List Value)} (hw : ∀ r ∈ rows,r.length = sz) : (rowsA rows).size = rows.length * sz := by
 unfold rowsA
 rw [List.size_toArray,rowsF_len hw]
theorem rowsA_ext {sz : Nat} {rows : List (List Value)} {c : Array Value} (hw : ∀ r ∈ rows,r.length = sz) (hs : c.size = rows.length * sz) (h : ∀ i j r u,rows[i]? = some r → r[j]? = some u → c[i * sz + j]? = some u) : c = rowsA rows := by
 refine Array.ext_getElem? fun t => ?_
 rcases Nat.lt_or_ge t (rows.length * sz) with ht | ht
 ·have hz : 0 < sz := by
   rcases Nat.eq_zero_or_pos sz with e | e
   ·subst e
    rw [Nat.mul_zero] at ht
    omega
   ·exact e
  have hi : t / sz < rows.length := Nat.div_lt_of_lt_mul (by rwa [Nat.mul_comm])
  have hj : t % sz < sz := Nat.mod_lt _ hz
  have hr : rows[t / sz]? = some rows[t / sz] := List.getElem?_eq_getElem hi
  have hlen : rows[t / sz].length = sz := hw _ (List.getElem_mem hi)
  have hu : rows[t / sz][t % sz]? = some (rows[t / sz][t % sz]'(by rw [hlen]; exact hj)) := List.getElem?_eq_getElem _
  have e : t / sz * sz + t % sz = t := Nat.div_add_mod' t sz
  have h1 := h _ _ _ _ hr hu
  have h2 := rowsA_get hw hr hu
  rw [e] at h1 h2
  rw [h1,h2]
 ·rw [Array.getElem?_eq_none (by omega),Array.getElem?_eq_none (by rw [rowsA_size hw]; exact ht)]
theorem rowsA_made {sz n : Nat} {zs : Array Value} (hz : zs.size = sz) (_hp : 0 < sz) : madeCells zs (n * sz) = rowsA (List.replicate n zs.toList) := by
 refine rowsA_ext (sz := sz) (fun r h => by rw [List.eq_of_mem_replicate h]; simpa using hz) (by simp [size_madeCells]) fun i j r u hr hu => ?_
 rw [List.getElem?_replicate] at hr
 split at hr
 ·rename_i hi
  cases hr
  have hj : j < sz := by
   have := (List.getElem?_eq_some_iff.1 hu).1
   simpa [hz] using this
  have hlt : i * sz + j < n * sz := by
   have : (i + 1) * sz ≤ n * sz := Nat.mul_le_mul_right _ hi
   rw [Nat.succ_mul] at this
   omega
  have hm : (i * sz + j) % sz = j := by rw [Nat.mul_comm,Nat.mul_add_mod]; exact Nat.mod_eq_of_lt hj
  have hu' : zs[j]? = some u := by simpa using hu
  simp [madeCells,hlt,hz,hm]
  rw [getElem!_def,hu']
 ·cases hr
theorem Blk.row3 {w : World} {g : Nat} {t : TypeId} {rows : List (List Value)} (h : Blk w g t (rowsA rows)) (hw : ∀ r ∈ rows,r.length = 3) {k : Nat} (hk : k < rows.length) (a b c : Value) :
  ∃ w2,((w.setCell ⟨g,k * 3,none⟩ a).setCell ⟨g,k * 3 + 1,none⟩ b).setCell ⟨g,k * 3 + 2,none⟩ c = w2 ∧ Blk w2 g t (rowsA (rows.set k [a,b,c])) ∧
  (∀ k t' cs',k ≠ g → Blk w k t' cs' → Blk w2 k t' cs') ∧ (∀ w0,Ext w0 w → w0.heap.size ≤ g → Ext w0 w2) ∧ w2.heap.size = w.heap.size := by
 refine ⟨_,rfl,?_,fun k t' cs' hk hb => ((hb.far hk _).far hk _).far hk _,fun w0 hE hg => ((hE.setCell hg _).setCell hg _).setCell hg _,by simp [World.setCell]⟩
 have e := ((h.set_ (k * 3) a).set_ (k * 3 + 1) b).set_ (k * 3 + 2) c
 have hw' : ∀ r ∈ rows.set k [a,b,c],r.length = 3 := fun r hr => by
  rcases List.mem_or_eq_of_mem_set hr with h | h
  ·exact hw r h
  ·rw [h]
   rfl
 have q : (((rowsA rows).setIfInBounds (k * 3) a).setIfInBounds (k * 3 + 1) b).setIfInBounds (k * 3 + 2) c = rowsA (rows.set k [a,b,c]) := rowsA_ext (sz := 3) hw' (by simp [rowsA_size hw]) fun i j r u hr hu => by
  have hj : j < 3 := by
   have := (List.getElem?_eq_some_iff.1 hu).1
   rwa [hw' r (List.mem_of_getElem? hr)] at this
  rw [List.getElem?_set] at hr
  by_cases hik : k = i
  ·subst hik
   rw [if_pos rfl,if_pos hk] at hr
   cases hr
   have hsz : k * 3 + 2 < (rowsA rows).size := by
    rw [rowsA_size hw]
    omega
   have h3 : j = 0 ∨ j = 1 ∨ j = 2 := by omega
   rcases h3 with rfl | rfl | rfl
   ·simp only [List.getElem?_cons_zero,Option.some.injEq] at hu
    subst hu
    simp [show k * 3 < (rowsA rows).size by omega]
   ·simp only [List.getElem?_cons_succ,List.getElem?_cons_zero,Option.some.injEq] at hu
    subst hu
    simp [show k * 3 + 1 < (rowsA rows).size by omega]
   ·simp only [List.getElem?_cons_succ,List.getElem?_cons_zero,Option.some.injEq] at hu
    subst hu
    simp [hsz]
  ·rw [if_neg hik] at hr
   rw [Array.getElem?_setIfInBounds,if_neg (by omega),Array.getElem?_setIfInBounds,if_neg (by omega),Array.getElem?_setIfInBounds,if_neg (by omega)]
   exact rowsA_get hw hr hu
 rwa [q] at e
def setsW (w : World) (g : Nat) : Nat → List Value → World
 | _, [] => w
 | o,v :: vs => setsW (w.setCell ⟨g,o,none⟩ v) g (o + 1) vs
def setsA (c : Array Value) : Nat → List Value → Array Value
 | _, [] => c
 | o,v :: vs => setsA (c.setIfInBounds o v) (o + 1) vs
theorem setsA_size : ∀ (vs : List Value) (c : Array Value) (o : Nat),(setsA c o vs).size = c.size
 | [],_,_ => rfl
 | v :: vs,c,o => by
  unfold setsA
  rw [setsA_size vs,Array.size_setIfInBounds]
theorem setsA_get : ∀ (vs : List Value) (c : Array Value) (o t : Nat),o + vs.length ≤ c.size → (setsA c o vs)[t]? = if o ≤ t ∧ t < o + vs.length then vs[t - o]? else c[t]?
 | [],c,o,t,_ => by
  have : ¬ (o ≤ t ∧ t < o + ([] : List Value).length) := by
   show ¬ (o ≤ t ∧ t < o + 0)
   omega
  rw [if_neg this]
  rfl
 | v :: vs,c,o,t,h => by
  have hl : (v :: vs).length = vs.length + 1 := rfl
  unfold setsA
  rw [setsA_get vs _ _ _ (by rw [Array.size_setIfInBounds]; omega),Array.getElem?_setIfInBounds]
  by_cases h1 : o = t
  ·subst h1
   rw [if_neg (by omega),if_pos rfl,if_pos (by omega),if_pos (by omega),Nat.sub_self]
   rfl
  ·by_cases h2 : o + 1 ≤ t ∧ t < o + 1 + vs.length
   ·rw [if_pos h2,if_pos (by omega),show t - o = (t - (o + 1)) + 1 by omega]
    rfl
   ·rw [if_neg h2,if_neg h1,if_neg (by omega)]
theorem setsW_blk : ∀ (vs : List Value) {w : World} {g : Nat} {t : TypeId} {c : Array Value} (o : Nat),Blk w g t c → Blk (setsW w g o vs) g t (setsA c o vs)
 | [],_,_,_,_,_,h => h
 | v :: vs,_,_,_,_,o,h => setsW_blk vs (o + 1) (h.set_ o v)
theorem setsW_far : ∀ (vs : List Value) {w : World} {g k : Nat} {t : TypeId} {c : Array Value} (o : Nat),k ≠ g → Blk w k t c → Blk (setsW w g o vs) k t c
 | [],_,_,_,_,_,_,_,h => h
 | v :: vs,_,_,_,_,_,o,hk,h => setsW_far vs (o + 1) hk (h.far hk v)
theorem setsW_ext : ∀ (vs : List Value) {w0 w : World} {g : Nat} (o : Nat),Ext w0 w → w0.heap.size ≤ g → Ext w0 (setsW w g o vs)
 | [],_,_,_,_,h,_ => h
 | v :: vs,_,_,_,o,h,hg => setsW_ext vs (o + 1) (h.setCell hg v) hg
theorem Blk.rowN {w : World} {g : Nat} {t : TypeId} {rows : List (List Value)} {sz : Nat} (h : Blk w g t (rowsA rows)) (hw : ∀ r ∈ rows,r.length = sz) {k : Nat} (hk : k < rows.length) (vs : List Value) (hv : vs.length = sz) :
  Blk (setsW w g (k * sz) vs) g t (rowsA (rows.set k vs)) := by
 have e := setsW_blk vs (k * sz) h
 have hw' : ∀ r ∈ rows.set k vs,r.length = sz := fun r hr => by
  rcases List.mem_or_eq_of_mem_set hr with h | h
  ·exact hw r h
  ·rw [h]
   exact hv
 have hsz : k * sz + vs.length ≤ (rowsA rows).size := by
  rw [rowsA_size hw,hv]
  have : (k + 1) * sz ≤ rows.length * sz := Nat.mul_le_mul_right _ hk
  rwa [Nat.succ_mul] at this
 have q : setsA (rowsA rows) (k * sz) vs = rowsA (rows.set k vs) := rowsA_ext (sz := sz) hw' (by rw [setsA_size,rowsA_size hw,List.length_set]) fun i j r u hr hu => by
  have hj : j < sz := by
   have := (List.getElem?_eq_some_iff.1 hu).1
   rwa [hw' r (List.mem_of_getElem? hr)] at this
  rw [List.getElem?_set] at hr
  rw [setsA_get _ _ _ _ hsz]
  by_cases hik : k = i
  ·subst hik
   rw [if_pos rfl,if_pos hk] at hr
   cases hr
   rw [if_pos (by omega),show k * sz + j - k * sz = j by omega]
   exact hu
  ·rw [if_neg hik] at hr
   rw [if_neg (by
    rcases Nat.lt_or_ge i k with h | h
    ·have : (i + 1) * sz ≤ k * sz := Nat.mul_le_mul_right _ h
     rw [Nat.succ_mul] at this
     omega
    ·have : (k + 1) * sz ≤ i * sz := Nat.mul_le_mul_right _ (by omega)
     rw [Nat.succ_mul] at this
     omega)]
   exact rowsA_get hw hr hu
 rwa [q] at e
theorem Blk.row5 {w : World} {g : Nat} {t : TypeId} {rows : List (List Value)} (h : Blk w g t (rowsA rows)) (hw : ∀ r ∈ rows,r.length = 5) {k : Nat} (hk : k < rows.length) (a b c d e : Value) :
  ∃ w2,((((w.setCell ⟨g,k * 5,none⟩ a).setCell ⟨g,k * 5 + 1,none⟩ b).setCell ⟨g,k * 5 + 2,none⟩ c).setCell ⟨g,k * 5 + 3,none⟩ d).setCell ⟨g,k * 5 + 4,none⟩ e = w2 ∧ Blk w2 g t (rowsA (rows.set k [a,b,c,d,e])) ∧
  (∀ k t' cs',k ≠ g → Blk w k t' cs' → Blk w2 k t' cs') ∧ (∀ w0,Ext w0 w → w0.heap.size ≤ g → Ext w0 w2) :=
 ⟨_,rfl,h.rowN hw hk [a,b,c,d,e] rfl,fun _ _ _ hk' hb => setsW_far [a,b,c,d,e] (k * 5) hk' hb,fun _ hE hg => setsW_ext [a,b,c,d,e] (k * 5) hE hg⟩
theorem Blk.slice {w : World} {g : Nat} {t : TypeId} {rows : List (List Value)} {sz : Nat} (h : Blk w g t (rowsA rows)) (hw : ∀ r ∈ rows,r.length = sz) (hn : rows.length ≤ 100000) : SliceIs w (some ⟨g,0,none⟩) rows.length rows.length sz rows :=
 ⟨rfl,Nat.le_refl _,by unfold maxLen; omega,hw,fun _ => ⟨g,0,rfl,h.lt,fun i r hr j u hu => by
  rw [Nat.zero_add,h.cell]
  exact rowsA_get hw hr hu⟩⟩

/-! A row of the call's own, behind which its block may hold more. -/
def RowX (w : World) (g : Nat) (t : TypeId) (rows : List (List Value)) : Prop := ∃ ex,Blk w g t (rowsA rows ++ ex)
theorem RowX.ext {w w' : World} {g : Nat} {t : TypeId} {rows : List (List Value)} (h : RowX w g t rows) (e : Ext w w') : RowX w' g t rows := by
 obtain ⟨ex,hb⟩ := h
 exact ⟨ex,hb.ext e⟩
theorem RowX.drew {w : World} {g : Nat} {t : TypeId} {rows : List (List Value)} (h : RowX w g t rows) : RowX w.drew g t rows := h
theorem RowX.lt {w : World} {g : Nat} {t : TypeId} {rows : List (List Value)} (h : RowX w g t rows) : g < w.heap.size := by
 obtain ⟨ex,hb⟩ := h
 exact hb.lt
theorem RowX.frozen {w : World} {g : Nat} {t : TypeId} {rows : List (List Value)} (h : RowX w g t rows) (i : Nat) : w.frozen? ⟨g,i,none⟩ = false := by
 obtain ⟨ex,hb⟩ := h
 exact hb.frozen i
theorem RowX.cell {w : World} {g : Nat} {t : TypeId} {rows : List (List Value)} {sz : Nat} (h : RowX w g t rows) (hw : ∀ r ∈ rows,r.length = sz) {i j : Nat} {r : List Value} {u : Value} (hr : rows[i]? = some r) (hu : r[j]? = some u) : w.cell? ⟨g,i * sz + j,none⟩ = some u := by
 obtain ⟨ex,hb⟩ := h
 have h1 := rowsA_get hw hr hu
 have hlt := (Array.getElem?_eq_some_iff.1 h1).1
 rw [hb.cell,Array.getElem?_append_left hlt]
 exact h1
theorem RowX.of_own {w : World} {base g n cap : Nat} {e : TypeId} {sz : Nat} {rows : List (List Value)} (h : w.ownsRow base e sz (.slice (some ⟨g,0,none⟩) n cap) n rows.flatten) : RowX w g e rows ∧ base ≤ g ∧ n ≤ cap ∧ cap ≤ maxLen := by
 rcases h.2 with ⟨h0,_⟩ | ⟨g',cap',cur,hv,hg,hb,h1,h2,_,h4⟩
 ·cases h0
 ·cases hv
  refine ⟨⟨(cur.toList.drop (n * sz)).toArray,?_⟩,hg,h1,h2⟩
  have e : rowsA rows ++ (cur.toList.drop (n * sz)).toArray = cur := by
   unfold rowsA
   rw [← h4]
   simp
  rw [e]
  exact hb
theorem setsA_append : ∀ (vs : List Value) (c ex : Array Value) (o : Nat),o + vs.length ≤ c.size → setsA (c ++ ex) o vs = setsA c o vs ++ ex
 | [],_,_,_,_ => rfl
 | v :: vs,c,ex,o,h => by
  have hl : (v :: vs).length = vs.length + 1 := rfl
  unfold setsA
  rw [show (c ++ ex).setIfInBounds o v = c.setIfInBounds o v ++ ex from by
   rw [Array.setIfInBounds_append,if_pos (by omega)]]
  exact setsA_append vs _ ex (o + 1) (by rw [Array.size_setIfInBounds]; omega)
theorem rowsA_sets {rows : List (List Value)} {sz : Nat} (hw : ∀ r ∈ rows,r.length = sz) {k : Nat} (hk : k < rows.length) {vs : List Value} (hv : vs.length = sz) : setsA (rowsA rows) (k * sz) vs = rowsA (rows.set k vs) ∧ k * sz + vs.length ≤ (rowsA rows).size := by
 have w0 : World := default
 have hsz : k * sz + vs.length ≤ (rowsA rows).size := by
  rw [rowsA_size hw,hv]
  have : (k + 1) * sz ≤ rows.length * sz := Nat.mul_le_mul_right _ hk
  rwa [Nat.succ_mul] at this
 have hB := Blk.new w0 (rowsA rows) 0
 have h1 := hB.rowN hw hk vs hv
 have h2 := setsW_blk vs (k * sz) hB
 unfold Blk at h1 h2
 rw [h1] at h2
 injection h2 with h2
 injection h2 with h2
 exact ⟨h2.symm,hsz⟩
theorem RowX.store {w : World} {g : Nat} {t : TypeId} {rows : List (List Value)} {sz : Nat} (h : RowX w g t rows) (hw : ∀ r ∈ rows,r.length = sz) {k : Nat} (hk : k < rows.length) (vs : List Value) (hv : vs.length = sz) : RowX (setsW w g (k * sz) vs) g t (rows.set k vs) := by
 obtain ⟨ex,hb⟩ := h
 obtain ⟨q1,q2⟩ := rowsA_sets hw hk hv
 refine ⟨ex,?_⟩
 have := setsW_blk vs (k * sz) hb
 rwa [setsA_append _ _ _ _ q2,q1] at this
theorem RowX.slice {w : World} {g : Nat} {t : TypeId} {rows : List (List Value)} {sz n cap : Nat} (h : RowX w g t rows) (hw : ∀ r ∈ rows,r.length = sz) (hn : rows.length = n) (h1 : n ≤ cap) (h2 : cap ≤ maxLen) : SliceIs w (some ⟨g,0,none⟩) n cap sz rows :=
 ⟨hn,h1,h2,hw,fun _ => ⟨g,0,rfl,h.lt,fun i r hr j u hu => by
  rw [Nat.zero_add]
  exact h.cell hw hr hu⟩⟩
theorem SliceIs.adds {w : World} {A : Option Addr} {n cap sz : Nat} {rows : List (List Value)} (h : SliceIs w A n cap sz rows) (hn : 0 < n) (hsz : 0 < sz) : ∃ b off,A = some ⟨b,off,none⟩ ∧ ∀ j u,rows.flatten[j]? = some u → w.cell? ((⟨b,off,none⟩ : Addr).add j) = some u := by
 obtain ⟨b,off,hA,_,hc⟩ := h.cells hn
 refine ⟨b,off,hA,fun j u hu => ?_⟩
 have e : j / sz * sz + j % sz = j := Nat.div_add_mod' j sz
 rw [← e,rowsF_get h.wide (Nat.mod_lt _ hsz)] at hu
 obtain ⟨r,hr,hu⟩ := Option.bind_eq_some_iff.1 hu
 have := hc _ _ hr _ _ hu
 rw [Nat.add_assoc,e] at this
 unfold Addr.add
 split
 ·subst_vars
  exact this
 ·exact this

def putAll (us : Nat → Value) : List Oper → Nat → Act → Act
 | [],_,a => a
 | o :: l,i,a => putAll us l (i + 1) (a.put o.dst (us i))
def updF {α : Type} (f : Nat → α) (i : Nat) (v : α) : Nat → α := fun k => bif Nat.beq k i then v else f k
theorem updF_at {α : Type} (f : Nat → α) (i : Nat) (v : α) : updF f i v i = v := by simp [updF,Nat.beq_refl]
theorem updF_ne {α : Type} (f : Nat → α) {i k : Nat} (v : α) (h : k ≠ i) : updF f i v k = f k := by
 have : Nat.beq k i = false := by
  cases hb : Nat.beq k i
  ·rfl
  ·exact absurd (Nat.eq_of_beq_eq_true hb) h
 simp [updF,this]
theorem put_put (a : Act) (d : Tmp) (u v : Value) : (a.put (some d) u).put (some d) v = a.put (some d) v := by
 simp [Act.put]
theorem put_ne (a : Act) {x y : Option Tmp} (u v : Value) (h : ∀ d,x = some d → y ≠ some d) : (a.put x u).put y v = (a.put y v).put x u := by
 cases x with
 | none => rfl
 | some d =>
  cases y with
  | none => rfl
  | some e =>
   have : d ≠ e := fun he => h d rfl (by rw [he])
   simp [Act.put,Array.setIfInBounds_comm _ _ this]
def dsts (l : List Oper) : List Tmp := l.filterMap (·.dst)
theorem putAll_put {us : Nat → Value} {x : Option Tmp} (v : Value) : ∀ (l : List Oper) (i : Nat) (a : Act),(∀ d,x = some d → d ∉ dsts l) → putAll us l i (a.put x v) = (putAll us l i a).put x v
 | [],_,_,_ => rfl
 | o :: l,i,a,h => by
  show putAll us l (i + 1) ((a.put x v).put o.dst (us i)) = (putAll us l (i + 1) (a.put o.dst (us i))).put x v
  rw [put_ne,putAll_put v l (i + 1) _ fun d hd hm => h d hd (by
   unfold dsts at hm ⊢
   rw [List.filterMap_cons]
   split
   ·exact hm
   ·exact List.mem_cons_of_mem _ hm)]
  intro d hd he
  refine h d hd ?_
  unfold dsts
  rw [List.filterMap_cons,he]
  exact List.mem_cons_self ..
theorem putAll_congr {us vs : Nat → Value} : ∀ (l : List Oper) (i : Nat) (a : Act),(∀ k,i ≤ k → us k = vs k) → putAll us l i a = putAll vs l i a
 | [],_,_,_ => rfl
 | o :: l,i,a,h => by
  show putAll us l (i + 1) (a.put o.dst (us i)) = putAll vs l (i + 1) (a.put o.dst (vs i))
  rw [h i (Nat.le_refl _)]
  exact putAll_congr l (i + 1) _ fun k hk => h k (by omega)
theorem putAll_upd {us : Nat → Value} (v : Value) : ∀ (l : List Oper) (k : Nat) (a : Act) (j : Nat) (o : Oper),(dsts l).Nodup → l[j]? = some o → (putAll us l k a).put o.dst v = putAll (updF us (k + j) v) l k a
 | [],_,_,_,_,_,h => by simp at h
 | q :: l,k,a,0,o,hn,h => by
  obtain rfl : q = o := by simpa using h
  show (putAll us l (k + 1) (a.put q.dst (us k))).put q.dst v = putAll (updF us (k + 0) v) l (k + 1) (a.put q.dst (updF us (k + 0) v k))
  have hx : ∀ d,q.dst = some d → d ∉ dsts l := fun d hd hm => by
   unfold dsts at hn hm
   rw [List.filterMap_cons,hd] at hn
   exact (List.nodup_cons.1 hn).1 hm
  have e0 : updF us (k + 0) v k = v := updF_at us k v
  rw [← putAll_put v l _ _ hx,e0]
  rw [putAll_congr (us := updF us (k + 0) v) (vs := us) l (k + 1) _ fun m hm => updF_ne _ _ (by omega)]
  congr 1
  cases hd : q.dst with
  | none => rfl
  | some d => exact put_put _ _ _ _
 | q :: l,k,a,j + 1,o,hn,h => by
  show (putAll us l (k + 1) (a.put q.dst (us k))).put o.dst v = putAll (updF us (k + (j + 1)) v) l (k + 1) (a.put q.dst (updF us (k + (j + 1)) v k))
  have hn' : (dsts l).Nodup := by
   unfold dsts at hn ⊢
   rw [List.filterMap_cons] at hn
   split at hn
   ·exact hn
   ·exact (List.nodup_cons.1 hn).2
  rw [putAll_upd v l (k + 1) _ j o hn' (by simpa using h),updF_ne _ _ (by omega),show k + 1 + j = k + (j + 1) from by omega]
theorem putAll_self : ∀ (l : List Oper) (k : Nat) (a : Act) (us : Nat → Value),(∀ j o,l[j]? = some o → ∀ d,o.dst = some d → us (k + j) = a.tmps.getD d undef) → putAll us l k a = a
 | [],_,_,_,_ => rfl
 | q :: l,k,a,us,h => by
  show putAll us l (k + 1) (a.put q.dst (us k)) = a
  have h0 : a.put q.dst (us k) = a := by
   cases hd : q.dst with
   | none => rfl
   | some d =>
    have := h 0 q rfl d hd
    rw [Nat.add_zero] at this
    rw [this]
    unfold Act.put
    simp only
    congr 1
    apply Array.ext_getElem?
    intro i
    rw [Array.getElem?_setIfInBounds]
    split
    ·rename_i e
     subst e
     split
     ·rename_i hlt
      simp [Array.getElem?_eq_getElem hlt]
     ·rename_i hge
      rw [Array.getElem?_eq_none (by omega)]
    ·rfl
  rw [h0]
  exact putAll_self l (k + 1) a us fun j o hj d hd => by
   have := h (j + 1) o (by simpa using hj) d hd
   rwa [show k + (j + 1) = k + 1 + j from by omega] at this

def aheadOf (l : List Oper) (i : Nat) : List Nat := match l[i]? with
 | none => []
 | some o => (o.after.toList.filter fun e => Region.binds .any e).map (·.on)
def Region.forthB (l : List Oper) : Bool := (List.range l.length).all fun i => (aheadOf l i).all fun k => decide (k < i)

section
variable {P : Program} {l : List Oper} {I : (Nat → Bool) → (Nat → Value) → World → Prop} {a0 : Act} {Q : Exit → Act → World → Prop}

def OneOp (P : Program) (l : List Oper) (I : (Nat → Bool) → (Nat → Value) → World → Prop) (a0 : Act) (Q : Exit → Act → World → Prop) (o : Oper) (i : Nat) : Prop :=
 ∀ (L : Nat → Bool) (us : Nat → Value) (w : World) (K : Act → World → Prop) (a : Act),putAll us l 0 a0 = a → (∀ k,(aheadOf l i).contains k = true → L k = true) → (∀ j k,L j = true → (aheadOf l j).contains k = true → L k = true) → L i = false → I L us w →
  (∀ v w',I (updF L i true) (updF us i v) w' → K (a.put o.dst v) w') →
  if Region.wanted o (yielded l.toArray a.tmps) = true then Oper.wp P o a w K Q else K (a.put o.dst undef) w
def EachOp (P : Program) (l : List Oper) (I : (Nat → Bool) → (Nat → Value) → World → Prop) (a0 : Act) (Q : Exit → Act → World → Prop) : List Oper → Nat → Prop
 | [],_ => True
 | o :: r,i => OneOp P l I a0 Q o i ∧ EachOp P l I a0 Q r (i + 1)
theorem EachOp.at_ : ∀ {r : List Oper} {i : Nat},EachOp P l I a0 Q r i → ∀ (j : Nat) (o : Oper),r[j]? = some o → OneOp P l I a0 Q o (i + j)
 | [],_,_,_,_,h => by simp at h
 | q :: r,i,h,0,o,ho => by
  obtain rfl : q = o := by simpa using ho
  exact h.1
 | q :: r,i,h,j + 1,o,ho => by
  have := EachOp.at_ h.2 j o (by simpa using ho)
  rwa [show i + (j + 1) = i + 1 + j from by omega]

def Down (l : List Oper) (L : Nat → Bool) : Prop := ∀ i k,L i = true → k ∈ aheadOf l i → L k = true
theorem ahead_ready {listed : Array Bool} {i : Nat} (h : i ∈ Region.ready .any l.toArray listed) : ∀ k ∈ aheadOf l i,listed.getD k false = true := fun k hk => by
 obtain ⟨-,o,ho,ha⟩ := mem_ready.1 h
 have ho' : l[i]? = some o := by simpa using ho
 unfold aheadOf at hk
 rw [ho'] at hk
 obtain ⟨e,he,rfl⟩ := List.mem_map.1 hk
 obtain ⟨he,hb⟩ := List.mem_filter.1 he
 exact ha e (by simpa using he) hb
theorem lt_all {n : Nat} {p : Nat → Prop} (h : ∀ i,i < n → (∀ k,k < i → p k) → p i) : ∀ i,i < n → p i := by
 intro i
 induction i using Nat.strongRecOn with
 | _ i ih => exact fun hi => h i hi fun k hk => ih k hk (by omega)
theorem none_ready {listed : Array Bool} (hf : Region.forthB l = true) (hz : listed.size = l.length) (h : Region.ready .any l.toArray listed = []) : ∀ i,i < l.length → listed.getD i false = true := by
 refine lt_all fun i hi hk => ?_
 by_cases hx : listed.getD i false = true
 ·exact hx
 exfalso
 have hi' : i < listed.size := by omega
 have hm : i ∈ Region.ready .any l.toArray listed := by
  refine mem_ready.2 ⟨?_,l[i],by simp [hi],fun e he hb => hk e.on ?_⟩
  ·simpa [Array.getElem?_eq_getElem hi'] using hx
  ·unfold Region.forthB at hf
   rw [List.all_eq_true] at hf
   have := hf i (List.mem_range.2 hi)
   rw [List.all_eq_true] at this
   refine of_decide_eq_true (this e.on ?_)
   unfold aheadOf
   rw [List.getElem?_eq_getElem hi]
   exact List.mem_map.2 ⟨e,List.mem_filter.2 ⟨by simpa using he,hb⟩,rfl⟩
 rw [h] at hm
 cases hm
theorem listed_upd {listed : Array Bool} {i : Nat} (hi : i < listed.size) : (fun k => (listed.setIfInBounds i true).getD k false) = updF (fun k => listed.getD k false) i true := by
 funext k
 by_cases h : k = i
 ·subst h
  rw [updF_at]
  simp [hi]
 ·rw [updF_ne _ _ h]
  exact getD_set_ne false (Ne.symm h)
def fewer (listed : Array Bool) : Nat := (List.range listed.size).countP fun k => !listed.getD k false
theorem any_by (hn : (dsts l).Nodup) (hf : Region.forthB l = true) (hs : EachOp P l I a0 Q l 0) (he : ∀ L us w,(∀ k,k < l.length → L k = true) → I L us w → Q .normal (putAll us l 0 a0) w) :
  ∀ (fuel : Nat) (listed : Array Bool) (us : Nat → Value) (w : World),listed.size = l.length → (fuel = 0 → ∀ k,k < l.length → listed.getD k false = true) → (∀ k,k < l.length → listed.getD k false = false → ∃ f,fuel = f + 1) → 
   fewer listed ≤ fuel → Down l (fun k => listed.getD k false) → I (fun k => listed.getD k false) us w → wpAny P .any l.toArray Q fuel listed (putAll us l 0 a0) w := by
 intro fuel
 induction fuel with
 | zero =>
  intro listed us w hz h0 _ _ _ hI
  have hall := h0 rfl
  refine ⟨?_,he _ _ _ hall hI⟩
  rw [List.eq_nil_iff_forall_not_mem]
  intro i hi
  have hm := mem_ready.1 hi
  obtain ⟨hm,o,ho, -⟩ := hm
  have hlt : i < l.length := by
   have := (Array.getElem?_eq_some_iff.1 ho).1
   simpa using this
  have := hall i hlt
  have hi' : i < listed.size := by omega
  simp [Array.getElem?_eq_getElem hi'] at this hm
  rw [hm] at this
  cases this
 | succ fuel ih =>
  intro listed us w hz _ _ hfew hD hI
  refine ⟨fun hr => he _ _ _ (none_ready hf hz hr) hI,fun i hi => ?_⟩
  obtain ⟨hun,o,ho, -⟩ := mem_ready.1 hi
  have ho' : l[i]? = some o := by simpa using ho
  have hlt : i < l.length := (List.getElem?_eq_some_iff.1 ho').1
  have hi' : i < listed.size := by omega
  have hun' : listed.getD i false = false := by simpa [Array.getElem?_eq_getElem hi'] using hun
  have hgo := hs.at_ i o ho'
  rw [Nat.zero_add] at hgo
  have hah := ahead_ready hi
  refine wpOp_step ho fun K' hK' => ?_
  refine hgo _ us w K' _ rfl (fun k hk => ?_) (fun j k hj hk => ?_) hun' hI fun v w' hI' => ?_
  ·exact hah k (by simpa using hk)
  ·exact hD j k hj (by simpa using hk)
  ·rw [putAll_upd v l 0 a0 i o hn ho',Nat.zero_add]
   refine hK' _ _ ?_
   have hle : fewer (listed.setIfInBounds i true) + 1 ≤ fewer listed := by
    unfold fewer
    rw [Array.size_setIfInBounds]
    have h1 : ∀ (r : List Nat),r.Nodup → i ∈ r → (r.countP fun k => !(listed.setIfInBounds i true).getD k false) + 1 ≤ r.countP fun k => !listed.getD k false := by
     intro r
     induction r with
     | nil => intro _ h; cases h
     | cons x r ihr =>
      intro hnd hm
      rw [List.countP_cons,List.countP_cons]
      obtain ⟨hx,hr⟩ := List.nodup_cons.1 hnd
      have mono : ∀ (r : List Nat),(r.countP fun k => !(listed.setIfInBounds i true).getD k false) ≤ r.countP fun k => !listed.getD k false := fun r => List.countP_mono_left fun k _ hk => by
       by_cases hki : k = i
       ·subst hki
        simp [hun']
       ·rw [getD_set_ne false (Ne.symm hki)] at hk
        exact hk
      rcases List.mem_cons.1 hm with rfl | hm
      ·have e1 : (listed.setIfInBounds i true).getD i false = true := by simp [hi']
       have := mono r
       rw [e1,hun']
       simp only [Bool.not_true,Bool.not_false,if_true,Bool.false_eq_true,if_false]
       omega
      ·have := ihr hr hm
       have hki : x ≠ i := fun e => hx (e ▸ hm)
       rw [getD_set_ne false (Ne.symm hki)]
       omega
    exact h1 _ List.nodup_range (List.mem_range.2 hi')
   have hpos : ∀ (m : Array Bool),m.size = l.length → ∀ k,k < l.length → m.getD k false = false → 0 < fewer m := fun m hm k hk hk' => by
    unfold fewer
    rw [List.countP_pos_iff]
    exact ⟨k,List.mem_range.2 (by omega),by simp only [hk',Bool.not_false]⟩
   have hz' : (listed.setIfInBounds i true).size = l.length := by rw [Array.size_setIfInBounds,hz]
   refine ih _ _ _ hz' (fun h0 k hk => ?_) (fun k hk hk' => ?_) (by omega) ?_ (by rw [listed_upd hi']; exact hI')
   ·by_cases hx : (listed.setIfInBounds i true).getD k false = true
    ·exact hx
    ·have := hpos _ hz' k hk (by simpa using hx)
     omega
   ·have := hpos _ hz' k hk hk'
    exact ⟨fuel - 1,by omega⟩
   ·rw [listed_upd hi']
    intro j k hj hk
    by_cases hki : k = i
    ·subst hki
     exact updF_at _ _ _
    ·rw [updF_ne _ _ hki]
     by_cases hji : j = i
     ·subst hji
      exact hah k hk
     ·rw [updF_ne _ _ hji] at hj
      exact hD j k hj hk
theorem wp_region_by {id : Nat} {w : World} (I : (Nat → Bool) → (Nat → Value) → World → Prop) (hm : P.follows .mixedOrders = true) (hn : decide (dsts l).Nodup = true) (hf : Region.forthB l = true)
  (h0 : ∀ us,I (fun _ => false) us w.drew) (hs : EachOp P l I a0 Q l 0) (he : ∀ L us w,(∀ k,k < l.length → L k = true) → I L us w → Q .normal (putAll us l 0 a0) w) : (Code.region id l.toArray true).wp P Q a0 w := by
 refine wp_region_any hm ?_
 have ea : putAll (fun k => ((l[k]?).bind (·.dst)).elim undef fun d => a0.tmps.getD d undef) l 0 a0 = a0 := putAll_self l 0 a0 _ fun j o hj d hd => by
  simp [hj,hd]
 have eL : (fun k => (Array.replicate l.toArray.size false).getD k false) = fun _ => false := by
  funext k
  rw [Array.getD_eq_getD_getElem?,Array.getElem?_replicate]
  split <;> rfl
 have := any_by (of_decide_eq_true hn) hf hs he l.toArray.size (Array.replicate l.toArray.size false) (fun k => ((l[k]?).bind (·.dst)).elim undef fun d => a0.tmps.getD d undef) w.drew (by simp) (fun h k hk => by simp at h; simp [h] at hk) (fun k hk _ => ⟨l.length - 1,by simp; omega⟩)
  (by unfold fewer; refine Nat.le_trans List.countP_le_length ?_; simp) (fun i k hi => by rw [eL] at hi; cases hi) (by rw [eL]; exact h0 _)
 rw [ea] at this
 exact this
end

/-! Inside a fence. -/
section
variable {F : Fence} {n : Nat} {P : Program} {l : List Oper} {I : (Nat → Bool) → (Nat → Value) → World → Prop} {a0 : Act} {Q : Exit → Act → World → Prop}
def OneOpIn (F : Fence) (n : Nat) (P : Program) (l : List Oper) (I : (Nat → Bool) → (Nat → Value) → World → Prop) (a0 : Act) (Q : Exit → Act → World → Prop) (o : Oper) (i : Nat) : Prop :=
 ∀ (L : Nat → Bool) (us : Nat → Value) (w : World) (K : Act → World → Prop) (a : Act),putAll us l 0 a0 = a → (∀ k,(aheadOf l i).contains k = true → L k = true) → (∀ j k,L j = true → (aheadOf l j).contains k = true → L k = true) → L i = false → I L us w →
  (∀ v w',I (updF L i true) (updF us i v) w' → K (a.put o.dst v) w') →
  if Region.wanted o (yielded l.toArray a.tmps) = true then Oper.wpIn F n P o a w K Q else (∀ f,o.about P w a.eval = some f → F.fn f) ∧ K (a.put o.dst undef) w
def EachOpIn (F : Fence) (n : Nat) (P : Program) (l : List Oper) (I : (Nat → Bool) → (Nat → Value) → World → Prop) (a0 : Act) (Q : Exit → Act → World → Prop) : List Oper → Nat → Prop
 | [],_ => True
 | o :: r,i => OneOpIn F n P l I a0 Q o i ∧ EachOpIn F n P l I a0 Q r (i + 1)
theorem EachOpIn.at_ : ∀ {r : List Oper} {i : Nat},EachOpIn F n P l I a0 Q r i → ∀ (j : Nat) (o : Oper),r[j]? = some o → OneOpIn F n P l I a0 Q o (i + j)
 | [],_,_,_,_,h => by simp at h
 | q :: r,i,h,0,o,ho => by
  obtain rfl : q = o := by simpa using ho
  exact h.1
 | q :: r,i,h,j + 1,o,ho => by
  have := EachOpIn.at_ h.2 j o (by simpa using ho)
  rwa [show i + (j + 1) = i + 1 + j from by omega]
end
/-! Blocks that operations make, each its own. -/
def bk : Value → Nat
 | .pointer (some a) => a.block
 | .slice (some a) _ _ => a.block
 | _ => 0
structure Owns (N : List Nat) (W0 : World) (L : Nat → Bool) (us : Nat → Value) (w : World) : Prop where
 e : Ext W0 w
 lt : ∀ i ∈ N,L i = true → W0.heap.size ≤ bk (us i) ∧ bk (us i) < w.heap.size
 ne : ∀ i ∈ N,∀ j ∈ N,i ≠ j → L i = true → L j = true → bk (us i) ≠ bk (us j)
section
variable {N : List Nat} {W0 w w' : World} {L : Nat → Bool} {us : Nat → Value}
theorem Owns.start (h : Ext W0 w) : Owns N W0 (fun _ => false) us w := ⟨h,(fun _ _ h => by cases h),(fun _ _ _ _ _ h => by cases h)⟩
theorem Owns.ext (h : Owns N W0 L us w) {i : Nat} (hi : N.contains i = false) (v : Value) (E : Ext w w') : Owns N W0 (updF L i true) (updF us i v) w' := by
 have hn : ∀ k ∈ N,k ≠ i := fun k hk e => by
  subst e
  simp [hk] at hi
 refine ⟨h.e.trans E,fun k hk hl => ?_,fun j hj k hk hjk hl hm => ?_⟩
 ·rw [updF_ne _ _ (hn k hk)] at hl ⊢
  have := h.lt k hk hl
  have := E.size
  omega
 ·rw [updF_ne _ _ (hn k hk)] at hm ⊢
  rw [updF_ne _ _ (hn j hj)] at hl ⊢
  exact h.ne j hj k hk hjk hl hm
theorem Owns.pure (h : Owns N W0 L us w) {i : Nat} (hi : N.contains i = false) (v : Value) : Owns N W0 (updF L i true) (updF us i v) w := h.ext hi v (Ext.refl w)
theorem Owns.new (h : Owns N W0 L us w) {i : Nat} (hl : L i = false) (v : Value) (E : Ext w w') (h1 : w.heap.size ≤ bk v) (h2 : bk v < w'.heap.size) : Owns N W0 (updF L i true) (updF us i v) w' := by
 have hs := E.size
 have hs0 := h.e.size
 refine ⟨h.e.trans E,fun k hk hlk => ?_,fun j hj k hk hjk hlj hlk => ?_⟩
 ·by_cases hki : k = i
  ·subst hki
   rw [updF_at]
   omega
  ·rw [updF_ne _ _ hki] at hlk ⊢
   have := h.lt k hk hlk
   omega
 ·by_cases hki : k = i
  ·subst hki
   have hji : j ≠ k := hjk
   rw [updF_ne _ _ hji] at hlj ⊢
   rw [updF_at]
   have := h.lt j hj hlj
   omega
  ·rw [updF_ne _ _ hki] at hlk ⊢
   by_cases hji : j = i
   ·subst hji
    rw [updF_at]
    have := h.lt k hk hlk
    omega
   ·rw [updF_ne _ _ hji] at hlj ⊢
    exact h.ne j hj k hk hjk hlj hlk
theorem Owns.set_ (h : Owns N W0 L us w) {i : Nat} (hi : N.contains i = false) (v : Value) {p : Nat} (hp : N.contains p = true) (hl : L p = true) (hk : ∀ W,Ext W w → W.heap.size ≤ bk (us p) → Ext W w') (hz : w'.heap.size = w.heap.size) : Owns N W0 (updF L i true) (updF us i v) w' := by
 have hpl := h.lt p (by simpa using hp) hl
 have h' : Owns N W0 L us w' := ⟨hk W0 h.e hpl.1,fun k hk hl => by rw [hz]; exact h.lt k hk hl,h.ne⟩
 exact h'.pure hi v
theorem Owns.far (h : Owns N W0 L us w) {i j : Nat} (hi : N.contains i = true) (hj : N.contains j = true) (hij : i ≠ j) (h1 : L i = true) (h2 : L j = true) : bk (us i) ≠ bk (us j) := h.ne i (by simpa using hi) j (by simpa using hj) hij h1 h2
end

theorem wp_region_by0 {P : Program} {l : List Oper} {a0 : Act} {Q : Exit → Act → World → Prop} {id : Nat} {w : World} (I : (Nat → Bool) → (Nat → Value) → World → Prop) (hm : P.follows .mixedOrders = true) (hn : decide (dsts l).Nodup = true) (hf : Region.forthB l = true)
  (h0 : I (fun _ => false) (fun k => ((l[k]?).bind (·.dst)).elim undef fun d => a0.tmps.getD d undef) w.drew) (hs : EachOp P l I a0 Q l 0) (he : ∀ L us w,(∀ k,k < l.length → L k = true) → I L us w → Q .normal (putAll us l 0 a0) w) : (Code.region id l.toArray true).wp P Q a0 w := by
 refine wp_region_any hm ?_
 have ea : putAll (fun k => ((l[k]?).bind (·.dst)).elim undef fun d => a0.tmps.getD d undef) l 0 a0 = a0 := putAll_self l 0 a0 _ fun j o hj d hd => by
  simp [hj,hd]
 have eL : (fun k => (Array.replicate l.toArray.size false).getD k false) = fun _ => false := by
  funext k
  rw [Array.getD_eq_getD_getElem?,Array.getElem?_replicate]
  split <;> rfl
 have := any_by (of_decide_eq_true hn) hf hs he l.toArray.size (Array.replicate l.toArray.size false) (fun k => ((l[k]?).bind (·.dst)).elim undef fun d => a0.tmps.getD d undef) w.drew (by simp) (fun h k hk => by simp at h; simp [h] at hk) (fun k hk _ => ⟨l.length - 1,by simp; omega⟩)
  (by unfold fewer; refine Nat.le_trans List.countP_le_length ?_; simp) (fun i k hi => by rw [eL] at hi; cases hi) (by rw [eL]; exact h0)
 rw [ea] at this
 exact this

section
variable {P : Program} {l : List Oper} {I : (Nat → Bool) → (Nat → Value) → World → Prop} {a0 : Act} {Q : Exit → Act → World → Prop}
def OneOpF (P : Program) (l : List Oper) (I : (Nat → Bool) → (Nat → Value) → World → Prop) (F : (Nat → Value) → Act) (Q : Exit → Act → World → Prop) (o : Oper) (i : Nat) : Prop :=
 ∀ (L : Nat → Bool) (us : Nat → Value) (w : World) (K : Act → World → Prop) (a : Act),F us = a → (∀ k,(aheadOf l i).contains k = true → L k = true) → (∀ j k,L j = true → (aheadOf l j).contains k = true → L k = true) → L i = false → I L us w →
  (∀ v w',I (updF L i true) (updF us i v) w' → K (a.put o.dst v) w') →
  if Region.wanted o (yielded l.toArray a.tmps) = true then Oper.wp P o a w K Q else K (a.put o.dst undef) w
def EachOpF (P : Program) (l : List Oper) (I : (Nat → Bool) → (Nat → Value) → World → Prop) (F : (Nat → Value) → Act) (Q : Exit → Act → World → Prop) : List Oper → Nat → Prop
 | [],_ => True
 | o :: r,i => OneOpF P l I F Q o i ∧ EachOpF P l I F Q r (i + 1)
theorem EachOpF.to {F : (Nat → Value) → Act} (hF : ∀ us,putAll us l 0 a0 = F us) : ∀ {r : List Oper} {i : Nat},EachOpF P l I F Q r i → EachOp P l I a0 Q r i
 | [],_,_ => trivial
 | _ :: _,_,h => ⟨fun L us w K a ha => h.1 L us w K a ((hF us).symm.trans ha),EachOpF.to hF h.2⟩
theorem wp_region_byF {id : Nat} {w : World} (I : (Nat → Bool) → (Nat → Value) → World → Prop) {F : (Nat → Value) → Act} (hF : ∀ us,putAll us l 0 a0 = F us) (hm : P.follows .mixedOrders = true) (hn : decide (dsts l).Nodup = true) (hf : Region.forthB l = true)
  (h0 : I (fun _ => false) (fun k => ((l[k]?).bind (·.dst)).elim undef fun d => a0.tmps.getD d undef) w.drew) (hs : EachOpF P l I F Q l 0) (he : ∀ L us w,(∀ k,k < l.length → L k = true) → I L us w → Q .normal (F us) w) : (Code.region id l.toArray true).wp P Q a0 w :=
 wp_region_by0 I hm hn hf h0 (hs.to hF) fun L us w h1 h2 => by
  rw [hF]
  exact he L us w h1 h2
end

theorem ownApart {w : World} {b b' : Nat} {e e' : TypeId} {sz sz' : Nat} {v v' : Value} {n n' : Nat} {xs xs' : List Value} (h : w.ownsRow b e sz v n xs) (h' : w.ownsRow b' e' sz' v' n' xs') (he : e ≠ e') : v.ownBlock = none ∨ v.ownBlock ≠ v'.ownBlock := by
 rcases h.2 with ⟨rfl,_⟩ | ⟨g,cap,cur,rfl,_,hg,_⟩
 ·exact Or.inl rfl
 ·right
  rcases h'.2 with ⟨rfl,_⟩ | ⟨g',cap',cur',rfl,_,hg',_⟩
  ·intro e1
   cases e1
  ·intro e1
   simp only [Value.ownBlock,Option.some.injEq] at e1
   subst e1
   rw [hg] at hg'
   simp only [Option.some.injEq,Obj.cells.injEq] at hg'
   exact he hg'.2.1
theorem ownGrown {w w' : World} {base : Nat} {e : TypeId} {size : Nat} {v : Value} {n : Nat} {xs : List Value} {row : Option Nat} (h : w.ownsRow base e size v n xs) (hg : w.grownBy w' row) (hr : v.ownBlock = none ∨ v.ownBlock ≠ row) :
  w'.ownsRow base e size v n xs :=
 own_only (K := fun k => row = some k) h (Only.of_grown hg fun _ e => e) fun r hr' e => by
  rcases hr with hr | hr
  ·rw [hr] at hr'; cases hr'
  ·exact hr (hr'.trans e.symm)
theorem ownForm {w : World} {base : Nat} {e : TypeId} {size : Nat} {v : Value} {n : Nat} {xs : List Value} (h : w.ownsRow base e size v n xs) : ∃ A cap,v = .slice A n cap := by
 rcases h.2 with ⟨rfl,rfl⟩ | ⟨g,cap,cur,hv,_⟩
 ·exact ⟨none,0,rfl⟩
 ·exact ⟨_,cap,hv⟩
theorem blkGrown {w w' : World} {g : Nat} {t : TypeId} {cs : Array Value} {b : Nat} {e : TypeId} {sz : Nat} {v : Value} {n : Nat} {xs : List Value} (h : Blk w g t cs) (own : w.ownsRow b e sz v n xs) (hg : w.grownBy w' v.ownBlock) (hne : t ≠ e) : Blk w' g t cs := by
 refine h.grown hg fun e1 => ?_
 obtain ⟨cs',h'⟩ := own_typed own e1.symm
 unfold Blk at h h'
 rw [h] at h'
 cases h'
 exact hne rfl
section
variable {P : Program} {w : World} {ops : Array Oper} {o : Oper} {a : Act} {K : Act → World → Prop} {Q : Exit → Act → World → Prop} {F : Prop}
theorem step_append_any (hgd : o.guard = none) (s x : Operand) (t : TypeId) (ho : o.op = .call { callee := .builtin .append,args := #[s,x],argTypes := #[t,t] })
  (base : Nat) (e : TypeId) (i : TypeInfo) (z : Value) (size bytes : Nat) (ht : P.underlying t = some (.slice e)) (hi : P.info? e = some i) (hz : i.zero = some z)
  (hsize : i.size = size) (hby : i.bytes = bytes) (hzs : z.cells.size = size) (hsz : 0 < size)
  (v : Value) (n : Nat) (xs : List Value) (hs : a.eval s = v) (hown : w.ownsRow base e size v n xs)
  (A : Option Addr) (m c : Nat) (rows : List (List Value)) (hx : a.eval x = .slice A m c) (hsrc : SliceIs w A m c size rows) (hnil : A = none → c = 0) (h1 : ∀ u ∈ rows.flatten,u.oneCell' = true)
  (h63 : n + m ≤ maxLen) (hbytes : (n + m) * bytes ≤ 140737488355328) (hbase : base ≤ w.heap.size)
  (h : ∀ v' w',w'.ownsRow base e size v' (n + m) (xs ++ rows.flatten) → w.grownBy w' v.ownBlock → K (a.put o.dst v') w') : if Region.wanted o (yielded ops a.tmps) = true then o.wp P a w K Q else F := by
 rw [if_pos (by simp [Region.wanted,hgd])]
 have hfl : rows.flatten.length = m * size := by rw [rowsF_len hsrc.wide,hsrc.len]
 cases A with
 | none =>
  obtain rfl := hnil rfl
  obtain rfl : m = 0 := by
   have := hsrc.le
   omega
  have e0 : rows.flatten = [] := List.eq_nil_of_length_eq_zero (by rw [hfl,Nat.zero_mul])
  rw [e0,List.append_nil] at h
  have hrun := run_append_owned_none (P := P) (w := w) base t o.type e i size ht hi v n xs hown
  unfold Oper.wp
  simp [execOp,ho,resolve,invoke,builtin,hs,hx,hrun,Result.andThen]
  exact h _ _ hown (World.grownBy.refl _ _)
 | some ad =>
  refine wp_append_own w s x t ho base e i z size bytes ht hi hz hsize hby hzs hsz v n xs hs hown ad m c rows.flatten hx hfl (fun j u hu => ?_) h1 h63 hbytes hbase fun v' w' h2 h3 _ => h v' w' h2 h3
  by_cases hm : 0 < m
  ·obtain ⟨b,off,hA,hc⟩ := hsrc.adds hm hsz
   cases hA
   exact hc j u hu
  ·obtain rfl : m = 0 := by omega
   have e0 : rows.flatten = [] := List.eq_nil_of_length_eq_zero (by rw [hfl,Nat.zero_mul])
   rw [e0] at hu
   simp at hu
end

section
variable {P : Program} {k : TypeId} {K V : Type} {enc : K → Value} {ev : V → Value} [DecidableEq K]
def EntOf (enc : K → Value) (ev : V → Value) (w : World) (b : Nat) (m : List (K × V)) (x : K) (born : Nat) : Prop :=
 ∃ es clock,w.heap[b]? = some (.map es clock) ∧ es.toList.map (fun e => (e.key,e.val)) = m.map (fun p => (enc p.1,ev p.2)) ∧ (∀ e ∈ es.toList,e.born < clock) ∧ (es.toList.map (·.born)).Nodup ∧
  ∃ j e0 u,es.toList[j]? = some e0 ∧ e0.born = born ∧ m[j]? = some (x,u) ∧ (∀ v,putK m x v = m.set j (x,v))
theorem EntOf.grown {w w' : World} {b : Nat} {m : List (K × V)} {x : K} {born : Nat} {row : Option Nat} (h : EntOf enc ev w b m x born) (g : w.grownBy w' row) (hr : some b ≠ row) : EntOf enc ev w' b m x born := by
 obtain ⟨es,clock,hb,r⟩ := h
 have hlt := (Array.getElem?_eq_some_iff.1 hb).1
 exact ⟨es,clock,(g.block b hlt hr).trans hb,r⟩
theorem EntOf.lt {w : World} {b : Nat} {m : List (K × V)} {x : K} {born : Nat} (h : EntOf enc ev w b m x born) : b < w.heap.size := by
 obtain ⟨es,clock,hb,_⟩ := h
 exact (Array.getElem?_eq_some_iff.1 hb).1
theorem entry_run (E : KeyEnc P k enc) {t e : TypeId} (ht : P.underlying t = some (.map k e)) {w : World} {z : V} (hz : (zeroValue e).run P w = .ok (ev z) w) {b : Nat} {m : List (K × V)} (h : MapOf enc ev w b m) (x : K) :
  ∃ w' born,(Instr.mapEntry t (.map (some b)) (enc x)).run P w = .ok (.tuple #[ev ((getK m x).getD z),.int .i64 (born : Nat)]) w' ∧ EntOf enc ev w' b (putK m x ((getK m x).getD z)) x born ∧ w.grownBy w' (some b) ∧ w'.heap.size = w.heap.size := by
 obtain ⟨es,clock,hb,hm,hs1,hs2⟩ := h
 have hf := find_run E w x es.toList m 0 hm
 rw [← run_findKey_eq w E.wide] at hf
 have grown : ∀ o,w.grownBy (ChangeMaps.setBlock w b o) (some b) := fun o => ⟨rfl,rfl,rfl,by simp [ChangeMaps.setBlock],fun i _ hi => ChangeMaps.heap_setBlock_other hb _ (fun e => hi (by rw [e]))⟩
 have hsz : ∀ o,(ChangeMaps.setBlock w b o).heap.size = w.heap.size := fun o => by simp [ChangeMaps.setBlock]
 have hlen : es.toList.length = m.length := by
  have := congrArg List.length hm
  simpa using this
 cases hl : lookAt m x 0 with
 | none =>
  rw [hl] at hf
  have hg : getK m x = none := by rw [← lookAt_getK m x 0,hl]; rfl
  refine ⟨ChangeMaps.setBlock w b (.map (es.push { key := enc x,val := ev z,born := clock }) (clock + 1)),clock,?_,⟨_,_,ChangeMaps.heap_setBlock_same hb _,?_,?_,?_,m.length, { key := enc x,val := ev z,born := clock },z,?_,rfl,?_,?_⟩,grown _,hsz _⟩
  ·simp [Instr.mapEntry,run_underlying ht,MapKept.run_getObj_map hb,E.check,hf,hz,hg,MapKept.run_setObj_map _ hb,Result.andThen,ChangeMaps.setBlock,goInt]
  ·rw [hg,lookAt_none hl]
   simp [hm]
  ·intro y hy
   simp only [Array.toList_push,List.mem_append,List.mem_singleton] at hy
   rcases hy with hy | rfl
   ·exact Nat.lt_succ_of_lt (hs1 y hy)
   ·exact Nat.lt_succ_self _
  ·simp only [Array.toList_push,List.map_append,List.map_cons,List.map_nil]
   refine List.nodup_append.2 ⟨hs2,by simp,?_⟩
   intro a ha b hb
   simp only [List.mem_singleton] at hb
   subst hb
   obtain ⟨y,hy,rfl⟩ := List.mem_map.1 ha
   exact Nat.ne_of_lt (hs1 y hy)
  ·rw [← hlen]
   simp
  ·rw [hg,lookAt_none hl]
   simp
  ·intro v
   rw [hg]
   rw [lookAt_none hl]
   have h2 : lookAt (m ++ [(x,(none : Option V).getD z)]) x 0 = some (m.length,z) := by
    have key : ∀ (m : List (K × V)) (i : Nat),lookAt m x i = none → lookAt (m ++ [(x,z)]) x i = some (i + m.length,z) := by
     intro m
     induction m with
     | nil => intro i _; simp [lookAt]
     | cons p m ih =>
      intro i hi
      unfold lookAt at hi
      split at hi
      ·cases hi
      ·rename_i hne
       show (if x = p.1 then _ else lookAt (m ++ [(x,z)]) x (i + 1)) = _
       rw [if_neg hne,ih _ hi,List.length_cons]
       congr 2
       omega
    have := key m 0 hl
    rwa [Nat.zero_add] at this
   obtain ⟨j,hj,_,h3⟩ := lookAt_some h2 v
   rw [h3,hj,Nat.zero_add]
 | some r =>
  obtain ⟨j,u⟩ := r
  rw [hl] at hf
  have hg : getK m x = some u := by rw [← lookAt_getK m x 0,hl]; rfl
  obtain ⟨j',hj',h1,h2⟩ := lookAt_some hl u
  obtain rfl : j = j' := by omega
  have hjl : j < es.toList.length := by
   rw [hlen]
   exact (List.getElem?_eq_some_iff.1 h1).1
  obtain ⟨e0,hej⟩ : ∃ e0,es.toList[j]? = some e0 := ⟨_,List.getElem?_eq_getElem hjl⟩
  have hjm : (es.toList.map (fun e => (e.key,e.val)))[j]? = some (enc x,ev u) := by
   rw [hm,List.getElem?_map,h1]
   rfl
  have hkey : e0.key = enc x := by
   rw [List.getElem?_map,hej] at hjm
   simp only [Option.map_some,Option.some.injEq,Prod.mk.injEq] at hjm
   exact hjm.1
  have hej' : es[j]? = some e0 := by rw [← hej]; simp
  have hput : putK m x u = m := by
   rw [h2]
   exact List.ext_getElem? fun i => by
    by_cases e : j = i
    ·subst e
     rw [List.getElem?_set_self (List.getElem?_eq_some_iff.1 h1).1,h1]
    ·rw [List.getElem?_set_ne e]
  have hlist : (es.modify j (fun e' => { e' with key := enc x })).toList = es.toList := by
   rw [Array.toList_modify,ChangeMaps.modify_eq_set _ _ _ _ hej]
   exact List.ext_getElem? fun i => by
    by_cases e : j = i
    ·subst e
     rw [List.getElem?_set_self hjl,hej,← hkey]
    ·rw [List.getElem?_set_ne e]
  refine ⟨ChangeMaps.setBlock w b (.map (es.modify j (fun e' => { e' with key := enc x })) clock),e0.born,?_,⟨_,_,ChangeMaps.heap_setBlock_same hb _,?_,?_,?_,j,e0,u,by rw [hlist]; exact hej,rfl,?_,?_⟩,grown _,hsz _⟩
  ·simp [Instr.mapEntry,run_underlying ht,MapKept.run_getObj_map hb,E.check,hf,hg,hej',hkey,Instr.keyThatStays,E.same,MapKept.run_setObj_map _ hb,Result.andThen,ChangeMaps.setBlock,goInt]
  ·rw [hlist,hg]
   show _ = (putK m x u).map _
   rw [hput]
   exact hm
  ·rw [hlist]
   exact hs1
  ·rw [hlist]
   exact hs2
  ·rw [hg]
   show (putK m x u)[j]? = _
   rw [hput]
   exact h1
  ·intro v
   rw [hg]
   show putK (putK m x u) x v = (putK m x u).set j (x,v)
   rw [hput]
   obtain ⟨j',hj',_,h3⟩ := lookAt_some hl v
   obtain rfl : j = j' := by omega
   exact h3
theorem store_run {w : World} {b : Nat} {m : List (K × V)} {x : K} {born : Nat} (h : EntOf enc ev w b m x born) (t : TypeId) (v : V) :
  ∃ w',(Instr.entryStore t (.map (some b)) (.int .i64 (born : Nat)) (ev v)).run P w = .ok () w' ∧ MapOf enc ev w' b (putK m x v) ∧ w.grownBy w' (some b) ∧ w'.heap.size = w.heap.size := by
 obtain ⟨es,clock,hb,hm,hs1,hs2,j,e0,u,hj,rfl,hmj,hput⟩ := h
 have hjl : j < es.toList.length := (List.getElem?_eq_some_iff.1 hj).1
 have hfi : es.findIdx? (fun e => (e.born : Int) == (e0.born : Int)) = some j := by
  rw [show es.findIdx? (fun e => (e.born : Int) == (e0.born : Int)) = es.toList.findIdx? (fun e => (e.born : Int) == (e0.born : Int)) from by
   obtain ⟨l⟩ := es
   exact List.findIdx?_toArray ..,List.findIdx?_eq_some_iff_getElem]
  refine ⟨hjl,?_,fun i hi => ?_⟩
  ·have : es.toList[j] = e0 := (List.getElem?_eq_some_iff.1 hj).2
   rw [this]
   simp
  ·have hil : i < es.toList.length := by omega
   have h0 : es.toList[j] = e0 := (List.getElem?_eq_some_iff.1 hj).2
   have hne : (es.toList[i]).born ≠ e0.born := fun e => by
    have h1 := List.pairwise_iff_getElem.1 hs2 i j (by simpa using hil) (by simpa using hjl) hi
    rw [List.getElem_map,List.getElem_map,h0] at h1
    exact h1 e
   simp only [beq_iff_eq]
   omega
 have hlist : (es.modify j (fun e' => { e' with val := ev v })).toList = es.toList.set j { e0 with val := ev v } := by
  rw [Array.toList_modify,ChangeMaps.modify_eq_set _ _ _ _ hj]
 have hkey : e0.key = enc x := by
  have : (es.toList.map (fun e => (e.key,e.val)))[j]? = some (enc x,ev u) := by
   rw [hm,List.getElem?_map,hmj]
   rfl
  rw [List.getElem?_map,hj] at this
  simp only [Option.map_some,Option.some.injEq,Prod.mk.injEq] at this
  exact this.1
 refine ⟨ChangeMaps.setBlock w b (.map (es.modify j (fun e' => { e' with val := ev v })) clock),?_,⟨_,_,ChangeMaps.heap_setBlock_same hb _,?_,?_,?_⟩,⟨rfl,rfl,rfl,by simp [ChangeMaps.setBlock],fun i _ hi => ChangeMaps.heap_setBlock_other hb _ (fun e => hi (by rw [e]))⟩,by simp [ChangeMaps.setBlock]⟩
 ·simp [Instr.entryStore,MapKept.run_getObj_map hb,asInt,asIntOf,hfi,MapKept.run_setObj_map _ hb,Result.andThen,ChangeMaps.setBlock]
 ·rw [hlist,hput v,List.map_set,List.map_set,hm,hkey]
 ·intro y hy
  rw [hlist] at hy
  rcases List.mem_or_eq_of_mem_set hy with hy | rfl
  ·exact hs1 y hy
  ·exact hs1 e0 (List.mem_of_getElem? hj)
 ·rw [hlist,List.map_set]
  have : (es.toList.map (·.born)).set j e0.born = es.toList.map (·.born) := by
   apply List.ext_getElem?
   intro i
   rw [List.getElem?_set]
   split
   ·rename_i hji
    subst hji
    rw [if_pos (by simpa using hjl),List.getElem?_map,hj]
    rfl
   ·rfl
  rw [this]
  exact hs2
theorem wpList_entry (E : KeyEnc P k enc) {w : World} {ops : Array Oper} {rest : List Oper} {o : Oper} {a : Act} {Q : Exit → Act → World → Prop}
  (hg : o.guard = none) (mo xo : Operand) (t : TypeId) (hop : o.op = Op.mapEntry t mo xo) (e : TypeId) (ht : P.underlying t = some (.map k e)) (z : V) (hz : (zeroValue e).run P w = .ok (ev z) w) (b : Nat) (m : List (K × V)) (x : K)
  (hm : a.eval mo = .map (some b)) (hown : MapOf enc ev w b m) (hx : a.eval xo = enc x)
  (hK : ∀ w' (born : Nat),EntOf enc ev w' b (putK m x ((getK m x).getD z)) x born → w.grownBy w' (some b) → w'.heap.size = w.heap.size → wpList P ops Q rest (a.put o.dst (.tuple #[ev ((getK m x).getD z),.int .i64 born])) w') : wpList P ops Q (o :: rest) a w := by
 refine wpList_plain hg fun K' hK' => ?_
 obtain ⟨w',born,hrun,r1,r2,r3⟩ := entry_run E ht hz hown x
 unfold Oper.wp
 simp [execOp,hop,hm,hx,hrun,Result.andThen]
 exact hK' _ _ (hK w' born r1 r2 r3)
theorem wpList_estore {w : World} {ops : Array Oper} {rest : List Oper} {o : Oper} {a : Act} {Q : Exit → Act → World → Prop}
  (hg : o.guard = none) (mo so vo : Operand) (t : TypeId) (hop : o.op = Op.entryStore t mo so vo) (b : Nat) (m : List (K × V)) (x : K) (born : Nat) (v : V)
  (hm : a.eval mo = .map (some b)) (hown : EntOf enc ev w b m x born) (hs : a.eval so = .int .i64 born) (hv : a.eval vo = ev v)
  (hK : ∀ w',MapOf enc ev w' b (putK m x v) → w.grownBy w' (some b) → w'.heap.size = w.heap.size → wpList P ops Q rest (a.put o.dst undef) w') : wpList P ops Q (o :: rest) a w := by
 refine wpList_plain hg fun K' hK' => ?_
 obtain ⟨w',hrun,r1,r2,r3⟩ := store_run (P := P) hown t v
 unfold Oper.wp
 simp only [execOp,hop,hm,hs,hv,Sem.run_bind,hrun,Result.andThen]
 exact hK' _ _ (hK w' r1 r2 r3)
omit [DecidableEq K] in
theorem putK_put [DecidableEq K] (m : List (K × V)) (x : K) (u v : V) : putK (putK m x u) x v = putK m x v := by
 induction m with
 | nil => simp [putK]
 | cons p m ih =>
  by_cases h : x = p.1
  ·have e1 : ∀ y,putK (p :: m) x y = (x,y) :: m := fun y => by
    unfold putK
    rw [if_pos h]
   rw [e1,e1]
   unfold putK
   rw [if_pos rfl]
  ·have e1 : ∀ (l : List (K × V)) y,putK (p :: l) x y = p :: putK l x y := fun l y => by
    conv => lhs; unfold putK
    rw [if_neg h]
   rw [e1,e1,e1,ih]

/-! ### a range -/
def RngOf (enc : K → Value) (ev : V → Value) (w : World) (b r : Nat) (m : List (K × V)) (done left : List K) : Prop :=
 ∃ es clock since seen c0,w.heap[b]? = some (.map es clock) ∧ es.toList.map (fun e => (e.key,e.val)) = m.map (fun p => (enc p.1,ev p.2)) ∧ (∀ e ∈ es.toList,e.born < since) ∧ (es.toList.map (·.born)).Nodup ∧
  w.heap[r]? = some (.mapIter (some b) since seen c0) ∧ since ≤ c0 ∧ since ≤ clock ∧ (leftOf es seen).toList.map (·.key) = left.map enc ∧ (done ++ left).Perm (m.map (·.1))
omit [DecidableEq K] in
theorem RngOf.left_eq {w : World} {b r : Nat} {m : List (K × V)} {done left : List K} (h : RngOf enc ev w b r m done left) : w.rangeLeft b r = left.length := by
 obtain ⟨es,clock,since,seen,c0,hb,_,_,_,hr,_,_,hl,_⟩ := h
 have := congrArg List.length hl
 simp only [List.length_map] at this
 unfold World.rangeLeft
 rw [hb,hr]
 simpa using this
omit [DecidableEq K] in
theorem RngOf.kept {w w' : World} {b r : Nat} {m : List (K × V)} {done left : List K} {row : Option Nat} (h : RngOf enc ev w b r m done left) (g : w.grownBy w' row) (h1 : some b ≠ row) (h2 : some r ≠ row) : RngOf enc ev w' b r m done left := by
 obtain ⟨es,clock,since,seen,c0,hb,q1,q2,q3,hr,q⟩ := h
 exact ⟨es,clock,since,seen,c0,(g.block b (Array.getElem?_eq_some_iff.1 hb).1 h1).trans hb,q1,q2,q3,(g.block r (Array.getElem?_eq_some_iff.1 hr).1 h2).trans hr,q⟩
omit [DecidableEq K] in
theorem RngOf.lt {w : World} {b r : Nat} {m : List (K × V)} {done left : List K} (h : RngOf enc ev w b r m done left) : b < w.heap.size ∧ r < w.heap.size := by
 obtain ⟨es,clock,since,seen,c0,hb,q1,q2,q3,hr,q⟩ := h
 exact ⟨(Array.getElem?_eq_some_iff.1 hb).1,(Array.getElem?_eq_some_iff.1 hr).1⟩
omit [DecidableEq K] in
theorem range_run {t e : TypeId} (ht : P.underlying t = some (.map k e)) {w : World} {b : Nat} {m : List (K × V)} (h : MapOf enc ev w b m) :
  ∃ w',(Instr.range t (.map (some b))).run P w = .ok (.pointer (some ⟨w.heap.size,0,none⟩)) w' ∧ RngOf enc ev w' b w.heap.size m [] (m.map (·.1)) ∧ w.grownBy w' none ∧ w'.heap.size = w.heap.size + 1 := by
 have hlt := h.lt
 obtain ⟨es,clock,hb,hm,hs1,hs2⟩ := h
 refine ⟨_,run_range_map w t k e b es clock ht hb,⟨es,clock,clock,#[],clock,((MapKept.heap_alloc w _).2 b hlt).trans hb,hm,hs1,hs2,(MapKept.heap_alloc w _).1,Nat.le_refl _,Nat.le_refl _,?_,List.Perm.refl _⟩,World.grownBy_alloc w _ none,by simp⟩
 have := congrArg (List.map Prod.fst) hm
 simp only [List.map_map] at this
 rw [List.map_map]
 have e0 : (leftOf es #[]).toList = es.toList := by
  unfold leftOf
  rw [Array.toList_filter]
  exact List.filter_eq_self.2 (fun _ _ => by simp)
 rw [e0]
 simpa [Function.comp_def] using this
omit [DecidableEq K] in
theorem next_run {w : World} {b r : Nat} {m : List (K × V)} {done left : List K} (h : RngOf enc ev w b r m done left) (ty : TypeId) :
  (left = [] ∧ (Instr.next (.pointer (some ⟨r,0,none⟩)) false ty).run P w = .ok (.tuple #[.bool false]) w) ∨
  ∃ x u left' w',(Instr.next (.pointer (some ⟨r,0,none⟩)) false ty).run P w = .ok (.tuple #[.bool true,enc x,u]) w' ∧ RngOf enc ev w' b r m (done ++ [x]) left' ∧ left'.length < left.length ∧ w.grownBy w' (some r) ∧ w'.heap.size = w.heap.size ∧
   (Instr.entry (.pointer (some ⟨r,0,none⟩))).run P w' = .ok (.tuple #[enc x,u]) w' := by
 obtain ⟨es,clock,since,seen,c0,hb,hm,hs1,hs2,hr,hc,hcl,hl,hp⟩ := h
 rcases run_next_at (P := P) w ty r b since c0 seen es clock hr hb hs1 hc with ⟨h0,hrun⟩ | ⟨e,he,w1,hal,hrun⟩
 ·refine Or.inl ⟨?_,hrun⟩
  have := congrArg List.length hl
  simp only [List.length_map] at this
  exact List.eq_nil_of_length_eq_zero (by rw [← this]; simpa using h0)
 ·right
  have hne : r ≠ b := fun e => by
   subst e
   rw [hb] at hr
   cases hr
  obtain ⟨hem,hes⟩ := mem_left he
  obtain ⟨l1,l2,hsplit⟩ := List.append_of_mem he
  rw [hsplit,List.map_append,List.map_cons] at hl
  obtain ⟨k1,k',rfl,hk1,hk'⟩ := List.map_eq_append_iff.1 hl.symm
  obtain ⟨x,k2,rfl,hx,hk2⟩ := List.map_eq_cons_iff.1 hk'
  have hr1 : w1.heap[r]? = some (.mapIter (some b) since seen c0) := by rcases hal with rfl | rfl <;> exact hr
  have hb1 : w1.heap[b]? = some (.map es clock) := by rcases hal with rfl | rfl <;> exact hb
  have hset := MapKept.heap_set (o' := .mapIter (some b) since (seen.push e.born) clock) hr1
  have hb' : (ChangeMaps.setBlock w1 r (.mapIter (some b) since (seen.push e.born) clock)).heap[b]? = some (.map es clock) := (hset.2 b (fun e1 => hne e1.symm)).trans hb1
  have hleft : (leftOf es (seen.push e.born)).toList = l1 ++ l2 := by
   have e1 : (leftOf es (seen.push e.born)).toList = ((leftOf es seen).toList).filter fun y => !(y.born == e.born) := by
    unfold leftOf
    rw [Array.toList_filter,Array.toList_filter,List.filter_filter]
    refine List.filter_congr fun y _ => ?_
    rw [contains_push]
    cases seen.contains y.born <;> cases (y.born == e.born) <;> rfl
   have hnd : ((leftOf es seen).toList.map (·.born)).Nodup := by
    unfold leftOf
    rw [Array.toList_filter]
    exact List.Sublist.nodup (List.Sublist.map _ List.filter_sublist) hs2
   rw [hsplit,List.map_append,List.map_cons,List.nodup_append] at hnd
   obtain ⟨n1,n2,n3⟩ := hnd
   rw [List.nodup_cons] at n2
   rw [e1,hsplit,List.filter_append,List.filter_cons]
   simp only [beq_self_eq_true,Bool.not_true,Bool.false_eq_true,if_false]
   congr 1
   ·refine List.filter_eq_self.2 fun y hy => ?_
    have := n3 y.born (List.mem_map.2 ⟨y,hy,rfl⟩) e.born (List.mem_cons_self ..)
    simpa using this
   ·refine List.filter_eq_self.2 fun y hy => ?_
    have : y.born ≠ e.born := fun h => n2.1 (List.mem_map.2 ⟨y,hy,h⟩)
    simpa using this
  rw [← hx] at hrun
  refine ⟨x,e.val,k1 ++ k2,_,hrun,⟨es,clock,since,seen.push e.born,clock,hb',hm,hs1,hs2,hset.1,hcl,hcl,?_,?_⟩,by simp,?_,?_,?_⟩
  ·rw [hleft,List.map_append,List.map_append,hk1,hk2]
  ·refine List.Perm.trans ?_ hp
   rw [List.append_assoc]
   refine List.Perm.append_left _ ?_
   show (x :: (k1 ++ k2)).Perm _
   exact List.perm_middle.symm
  ·rcases hal with rfl | rfl <;> exact ⟨rfl,rfl,rfl,by simp [ChangeMaps.setBlock],fun i _ hi => hset.2 i (fun e1 => hi (by rw [e1]))⟩
  ·rcases hal with rfl | rfl <;> simp [ChangeMaps.setBlock]
  ·rw [hx]
   exact run_entry_at _ r b since seen es clock e hset.1 hb' hem hs2
omit [DecidableEq K] in
theorem wpList_rng {w : World} {ops : Array Oper} {rest : List Oper} {o : Oper} {a : Act} {Q : Exit → Act → World → Prop} (hg : o.guard = none) (mo : Operand) (t : TypeId) (hop : o.op = Op.range t mo) (e : TypeId) (ht : P.underlying t = some (.map k e)) (b : Nat) (m : List (K × V))
  (hm : a.eval mo = .map (some b)) (hown : MapOf enc ev w b m)
  (hK : ∀ w',RngOf enc ev w' b w.heap.size m [] (m.map (·.1)) → w.grownBy w' none → w'.heap.size = w.heap.size + 1 → wpList P ops Q rest (a.put o.dst (.pointer (some ⟨w.heap.size,0,none⟩))) w') : wpList P ops Q (o :: rest) a w := by
 refine wpList_plain hg fun K' hK' => ?_
 obtain ⟨w',hrun,r1,r2,r3⟩ := range_run ht hown
 unfold Oper.wp
 simp [execOp,hop,hm,hrun,Result.andThen]
 exact hK' _ _ (hK w' r1 r2 r3)
omit [DecidableEq K] in
theorem wpList_nxt {w : World} {ops : Array Oper} {rest : List Oper} {o : Oper} {a : Act} {Q : Exit → Act → World → Prop} (hg : o.guard = none) (it : Operand) (hop : o.op = Op.next it false) (b r : Nat) (m : List (K × V)) (done left : List K)
  (hit : a.eval it = .pointer (some ⟨r,0,none⟩)) (h : RngOf enc ev w b r m done left)
  (hDone : left = [] → wpList P ops Q rest (a.put o.dst (.tuple #[.bool false])) w)
  (hMore : ∀ (x : K) (u : Value) (left' : List K) (w' : World),RngOf enc ev w' b r m (done ++ [x]) left' → left'.length < left.length → w.grownBy w' (some r) → w'.heap.size = w.heap.size →
   (Instr.entry (.pointer (some ⟨r,0,none⟩))).run P w' = .ok (.tuple #[enc x,u]) w' → wpList P ops Q rest (a.put o.dst (.tuple #[.bool true,enc x,u])) w') : wpList P ops Q (o :: rest) a w := by
 refine wpList_plain hg fun K' hK' => ?_
 unfold Oper.wp
 rcases next_run (P := P) h o.type with ⟨h0,hrun⟩ | ⟨x,u,left',w',hrun,h1,h2,h3,h4,h5⟩
 ·simp [execOp,hop,hit,hrun,Result.andThen]
  exact hK' _ _ (hDone h0)
 ·simp [execOp,hop,hit,hrun,Result.andThen]
  exact hK' _ _ (hMore x u left' w' h1 h2 h3 h4 h5)
end
end Go.Proofs.YtjacbhomhjoolaaGreat
