/- Worlds that have only grown (new blocks, draws), and the one walk of a drawn region whose callees only make new blocks. A block that is known whole. A drawn region whose first n operations are quiet in a class of worlds, and whose other operations come one behind the other, behind all of those: one walk of the text's order serves every order. append of one element onto a row of the call's own, as a step of a region or of a walk. lattice: the closures of turners, and turners itself. lattice.turners and lattice.turn. studworkref01.Turned: the same turns. Slices that read as rows of cells. near, Near, isTurn, IsTurn. -/
import Derived.Test.YtenigkngmdofiaaRows
import Derived.WalkKit
import Derived.WalkSpells
import Derived.WalkLawsBesides
import Derived.Deep.QuietTactic
import Derived.BigQuiet
import Derived.Lib.Hide
import Derived.StillTail
import Derived.Deep.RegionHeld3
import Derived.Deep.RegionLaw
import Derived.Laws.EntriesVeiled

namespace Go.Proofs.Ytenigkngmdofiaa
open Go.RowKit

/-- What a world has grown by: new blocks; the count of draws is whatever it is. -/
structure Growth where
  bs : Array Obj
  n : Nat
instance : Inhabited Growth := ⟨⟨#[], 0⟩⟩
/-- w with some blocks more, and some number of draws. -/
def grow (w : World) (x : Growth) : World := { w with heap := w.heap ++ x.bs, drawn := x.n }

theorem grow_size (w : World) (x : Growth) : (grow w x).heap.size = w.heap.size + x.bs.size := by simp [grow]

theorem grow_below (w : World) (x : Growth) : Below w.heap.size w (grow w x) :=
  ⟨rfl, rfl, rfl, by simp [grow], fun k hk => by simp [grow, Array.getElem?_append, hk]⟩

theorem grow_of_below {w w' : World} (h : Below w.heap.size w w') : ∃ x : Growth, w' = grow w x := by
  obtain ⟨h1, h2, h3, h4, h5⟩ := h
  obtain ⟨heap, tape, drawn, os, output⟩ := w
  obtain ⟨heap', tape', drawn', os', output'⟩ := w'
  simp only at h1 h2 h3 h4 h5
  subst h1 h2 h3
  refine ⟨⟨heap'.extract heap.size heap'.size, drawn'⟩, ?_⟩
  simp only [grow, World.mk.injEq, and_true]
  apply Array.ext_getElem?
  intro i
  rw [Array.getElem?_append]
  split
  · rename_i hi
    exact h5 i hi
  · rename_i hi
    rw [Array.getElem?_extract]
    split
    · congr 1
      omega
    · rw [Array.getElem?_eq_none]
      omega

theorem cell?_grow (w : World) (x : Growth) (a : Addr) (h : (w.cell? a).isSome = true) : (grow w x).cell? a = w.cell? a := by
  obtain ⟨u, hu⟩ := Option.isSome_iff_exists.1 h
  exact (grow_below w x).cell (World.block_lt_of_cell? w a hu)

attribute [go_sem] cell?_grow
theorem frozen?_grow (w : World) (x : Growth) (a : Addr) (h : a.block < w.heap.size) : (grow w x).frozen? a = w.frozen? a :=
  (grow_below w x).frozen h

theorem drew_grow (w : World) : w.drew = grow w ⟨#[], w.drawn + 1⟩ := by
  show ({ w with drawn := w.drawn + 1 } : World) = _
  simp [grow]
theorem drewN_grow (w : World) (n : Nat) : w.drewN n = grow w ⟨#[], w.drawn + n⟩ := by
  show ({ w with drawn := w.drawn + n } : World) = _
  simp [grow]

theorem below_of_grow {w w' : World} {x : Growth} (h : Below (grow w x).heap.size (grow w x) w') : Below w.heap.size w w' :=
  (grow_below w x).trans (h.mono (by simp [grow]))

/-- A callee that only makes new blocks, met in a world that has only grown. -/
theorem quiet_grow {P : Program} {f : FuncId} {args : Array Value} {w : World} {x : Growth} {v : Value}
    (h : Calls P f args (grow w x) fun e w' => e = .returned v ∧ Below (grow w x).heap.size (grow w x) w') :
    Calls P f args (grow w x) fun e w' => e = .returned v ∧ ∃ x', w' = grow w x' :=
  h.mono fun _ _ ⟨he, hb⟩ => ⟨he, grow_of_below (below_of_grow hb)⟩
theorem quiet_grow_same {P : Program} {f : FuncId} {args : Array Value} {w : World} {x : Growth} {v : Value}
    (h : Calls P f args (grow w x) fun e w' => e = .returned v ∧ grow w x = w') :
    Calls P f args (grow w x) fun e w' => e = .returned v ∧ ∃ x', w' = grow w x' :=
  h.mono fun _ _ ⟨he, hb⟩ => ⟨he, x, hb.symm⟩

theorem wp_region_grow {P : Program} {id : Nat} {Q : Exit → Act → World → Prop} {a : Act} {w : World} {l : List Oper} (hm : P.follows .mixedOrders = true) (hB : Region.lexB .any l.toArray = true)
    (h : wpQuiet P l.toArray (fun w' => ∃ x, w' = grow w x) (fun a' => ∀ w', (∃ x, w' = grow w x) → Q .normal a' w') l a) : (Code.region id l.toArray true).wp P Q a w :=
  wp_region_quiet (C := fun w' => ∃ x, w' = grow w x) hm hB ⟨⟨#[], w.drawn + 1⟩, by simp [grow]⟩ (by simpa using h)

/-- Nothing of what was there in a has turned in w; w may have more blocks and more draws. -/
def Ext (a w : World) : Prop := Below a.heap.size a w
theorem Ext.refl (w : World) : Ext w w := Below.refl _ _
theorem Ext.trans {a b c : World} (h : Ext a b) (k : Ext b c) : Ext a c := Below.trans h (k.mono h.size)
theorem Ext.drew {a w : World} (h : Ext a w) : Ext a w.drew := Below.drew h
theorem Ext.drewN {a w : World} (h : Ext a w) (n : Nat) : Ext a (w.drewN n) := h.trans ⟨rfl, rfl, rfl, Nat.le_refl _, fun _ _ => rfl⟩
theorem Ext.alloc {a w : World} (h : Ext a w) (o : Obj) : Ext a (w.alloc o) := Below.alloc h h.size o
theorem Ext.setCell {a w : World} (h : Ext a w) {p : Addr} (hp : a.heap.size ≤ p.block) (u : Value) : Ext a (w.setCell p u) := Below.setCell h hp u
theorem Ext.grown {a w w' : World} {row : Option Nat} (h : Ext a w) (hg : w.grownBy w' row) (hr : ∀ k, row = some k → a.heap.size ≤ k) : Ext a w' := Below.grown h hg h.size hr
theorem Ext.grow {a w : World} (h : Ext a w) (x : Growth) : Ext a (Go.Proofs.Ytenigkngmdofiaa.grow w x) := h.trans (grow_below w x)
theorem Ext.cell {w w' : World} (h : Ext w w') {p : Addr} {v : Value} (hc : w.cell? p = some v) : w'.cell? p = some v := by
  rw [Below.cell h (World.block_lt_of_cell? w p hc)]; exact hc
theorem Ext.size {w w' : World} (h : Ext w w') : w.heap.size ≤ w'.heap.size := Below.size h
theorem Ext.frozen {w w' : World} (h : Ext w w') {p : Addr} (hp : p.block < w.heap.size) : w'.frozen? p = w.frozen? p := Below.frozen h hp
theorem grow_of_ext {w w' : World} (h : Ext w w') : ∃ x : Growth, w' = Go.Proofs.Ytenigkngmdofiaa.grow w x := grow_of_below h
theorem quiet_ext {P : Program} {f : FuncId} {args : Array Value} {w : World} {x : Growth} {v : Value}
    (h : Calls P f args (Go.Proofs.Ytenigkngmdofiaa.grow w x) fun e w' => e = .returned v ∧ Ext (Go.Proofs.Ytenigkngmdofiaa.grow w x) w') :
    Calls P f args (Go.Proofs.Ytenigkngmdofiaa.grow w x) fun e w' => e = .returned v ∧ ∃ x', w' = Go.Proofs.Ytenigkngmdofiaa.grow w x' := quiet_grow h

theorem cell_new (w : World) (cs : Array Value) (t : TypeId) (i : Nat) : (w.alloc (.cells cs t)).cell? ⟨w.heap.size, i, none⟩ = cs[i]? := by
  rw [World.cell?_alloc_at _ _ _ _ rfl]
theorem cell_old (w : World) (o : Obj) (a : Addr) (h : a.block < w.heap.size) : (w.alloc o).cell? a = w.cell? a := World.cell?_alloc_lt _ _ _ h
theorem boxes1 (w : World) (ca : Array Value) (ta : TypeId) : ∃ W, w.alloc (.cells ca ta) = W ∧ Ext w W ∧ (∀ i, W.cell? ⟨w.heap.size, i, none⟩ = ca[i]?) ∧ W.heap.size = w.heap.size + 1 :=
  ⟨_, rfl, (Ext.refl w).alloc _, fun i => cell_new _ _ _ _, by simp⟩
theorem boxes2 (w : World) (ca cb : Array Value) (ta tb : TypeId) : ∃ W, (w.alloc (.cells ca ta)).alloc (.cells cb tb) = W ∧ Ext w W ∧ (∀ i, W.cell? ⟨w.heap.size, i, none⟩ = ca[i]?) ∧
    (∀ i, W.cell? ⟨w.heap.size + 1, i, none⟩ = cb[i]?) ∧ W.heap.size = w.heap.size + 2 := by
  refine ⟨_, rfl, ((Ext.refl w).alloc _).alloc _, fun i => ?_, fun i => ?_, by simp⟩
  · rw [cell_old _ _ _ (by simp), cell_new]
  · have := cell_new (w.alloc (.cells ca ta)) cb tb i
    rwa [World.size_alloc] at this
theorem ret_int {k : IntKind} {a b : Int} (h : a = b) : Ending.returned (.int k a) = .returned (.int k b) := by rw [h]
theorem quiet_left {P : Program} {f : FuncId} {args : Array Value} {w : World} {n : Nat} {v : Value}
    (h : Calls P f args (w.drewN n) fun e w' => e = .returned v ∧ w.drewN n = w') : Calls P f args (w.drewN n) fun e w'' => e = .returned v ∧ ∃ m, w'' = w.drewN m :=
  h.mono fun _ _ ⟨he, hm⟩ => ⟨he, n, hm.symm⟩
end Go.Proofs.Ytenigkngmdofiaa

namespace Go.Proofs.Ytenigkngmdofiaa
open Go.RowKit

/-- Block g is the cells cs of element type t, none of them frozen. -/
def Blk (w : World) (g : Nat) (t : TypeId) (cs : Array Value) : Prop := w.heap[g]? = some (.cells cs t (0, 0))

section
variable {w w' : World} {g : Nat} {t : TypeId} {cs : Array Value}
theorem Blk.lt (h : Blk w g t cs) : g < w.heap.size := by
  rcases Nat.lt_or_ge g w.heap.size with hlt | hge
  · exact hlt
  · unfold Blk at h
    rw [Array.getElem?_eq_none hge] at h
    cases h
theorem Blk.cell (h : Blk w g t cs) (i : Nat) : w.cell? ⟨g, i, none⟩ = cs[i]? := by
  unfold Blk at h
  simp [World.cell?, h]
theorem Blk.frozen (h : Blk w g t cs) (i : Nat) : w.frozen? ⟨g, i, none⟩ = false := by
  unfold Blk at h
  simp [World.frozen?, h]
theorem Blk.new (w : World) (cs : Array Value) (t : TypeId) : Blk (w.alloc (.cells cs t)) w.heap.size t cs := by
  show (w.heap.push _)[w.heap.size]? = _
  simp
theorem Blk.ext (h : Blk w g t cs) (e : Ext w w') : Blk w' g t cs := (Below.block e g h.lt).trans h
theorem Blk.drew (h : Blk w g t cs) : Blk w.drew g t cs := h
theorem Blk.drewN (h : Blk w g t cs) (n : Nat) : Blk (w.drewN n) g t cs := h
theorem Blk.alloc (h : Blk w g t cs) (o : Obj) : Blk (w.alloc o) g t cs := h.ext ((Ext.refl w).alloc o)
theorem Blk.set_ (h : Blk w g t cs) (i : Nat) (u : Value) : Blk (w.setCell ⟨g, i, none⟩ u) g t (cs.setIfInBounds i u) := by
  unfold Blk at h ⊢
  simp [World.setCell, Array.getElem?_modify, h]
theorem Blk.far (h : Blk w g t cs) {p : Addr} (hp : g ≠ p.block) (u : Value) : Blk (w.setCell p u) g t cs := (Below.heap_setCell w p u g hp).trans h
theorem Blk.below {B : Nat} (h : Blk w g t cs) (hb : Below B w w') (hg : g < B) : Blk w' g t cs := (hb.block g hg).trans h
theorem Blk.grown {row : Option Nat} (h : Blk w g t cs) (hb : w.grownBy w' row) (hg : some g ≠ row) : Blk w' g t cs := (hb.block g h.lt hg).trans h

/-- Three cells of a block stored: the new world under one name, with what is known of it. -/
theorem Blk.store3 {a b c : Value} (h : Blk w g t #[a, b, c]) (a' b' c' : Value) : ∃ w2, ((w.setCell ⟨g, 0, none⟩ a').setCell ⟨g, 1, none⟩ b').setCell ⟨g, 2, none⟩ c' = w2 ∧ Blk w2 g t #[a', b', c'] ∧
    (∀ k t' cs', k ≠ g → Blk w k t' cs' → Blk w2 k t' cs') ∧ (∀ w0, Ext w0 w → w0.heap.size ≤ g → Ext w0 w2) ∧ w2.heap.size = w.heap.size := by
  refine ⟨_, rfl, ?_, fun k t' cs' hk hb => ((hb.far hk _).far hk _).far hk _, fun w0 hE hg => ((hE.setCell hg _).setCell hg _).setCell hg _, by simp [World.setCell]⟩
  have := ((h.set_ 0 a').set_ 1 b').set_ 2 c'
  simpa using this
end
end Go.Proofs.Ytenigkngmdofiaa

namespace Go.Proofs.Ytenigkngmdofiaa
open Go.RowKit

section
variable {P : Program} {ops : Array Oper} {md : Region.Mode} {C : World → Prop}

/-- Whatever order is picked for the head; L holds of the frame when it is done. -/
def headQ (P : Program) (md : Region.Mode) (ops : Array Oper) (C : World → Prop) (n : Nat) (L : Array Bool → Act → Prop) : Nat → Array Bool → Act → Prop
  | 0, listed, a => L listed a
  | f + 1, listed, a => Region.ready md ops listed ≠ [] ∧ ∀ i ∈ Region.ready md ops listed, i < n ∧ qOp P ops C i (headQ P md ops C n L f (listed.setIfInBounds i true)) a

theorem any_of_headQ {n g : Nat} {L : Array Bool → Act → Prop} {Q' : Exit → Act → World → Prop} (hL : ∀ listed a, L listed a → ∀ w, C w → wpAny P md ops Q' g listed a w) (f : Nat) :
    ∀ (listed : Array Bool) (a : Act), headQ P md ops C n L f listed a → ∀ w, C w → wpAny P md ops Q' (f + g) listed a w := by
  induction f with
  | zero =>
    intro listed a h w hw
    rw [Nat.zero_add]
    exact hL _ _ h w hw
  | succ f ih =>
    intro listed a h w hw
    rw [show f + 1 + g = (f + g) + 1 from by omega]
    refine ⟨fun h0 => absurd h0 h.1, fun i hi => ?_⟩
    exact wpOp_of_qOp hw (fun a' w' hw' h' => ih _ a' h' w' hw') (h.2 i hi).2

theorem headQ_first {n i : Nat} {oi : Oper} {v : Value} {L : Array Bool → Act → Prop} (hi : ops[i]? = some oi) (hsel : ∀ (j : Nat) (o : Oper) cs b, ops[j]? = some o → o.op ≠ .select cs b)
    (hs : Region.sinkB md ops n = true) (hc : Region.chainB md ops n = true) (hn : n < ops.size) (hin : i < n) (hdone : ∀ listed a, L listed a → ∀ j ∈ Region.ready md ops listed, n ≤ j) (f : Nat) :
    ∀ (listed : Array Bool) (a : Act), HeadInv md ops n listed →
      (∀ j oj, ops[j]? = some oj → j ≠ i → listed.getD j true = false → (∀ e ∈ oj.after, Region.binds md e = true → e.on ≠ i) → oi.apart ops oj = true) →
      i ∈ Region.ready md ops listed → YieldsIn P ops C oi v a → headQ P md ops C n L f (listed.setIfInBounds i true) (a.put oi.dst v) → headQ P md ops C n L (f + 1) listed a := by
  have small : ∀ {listed : Array Bool}, HeadInv md ops n listed → i ∈ Region.ready md ops listed → ∀ j ∈ Region.ready md ops listed, j < n := fun inv hr j hj => by
    rcases Nat.lt_or_ge j n with h | h
    · exact h
    · exact absurd hj (tail_waits hs hc hn inv _ i rfl hin (mem_ready.1 hr).1 j h)
  induction f with
  | zero =>
    intro listed a inv _ hr hy H
    refine ⟨fun h => (by rw [h] at hr; cases hr), fun j hj => ⟨small inv hr j hj, ?_⟩⟩
    by_cases hji : j = i
    · subst hji
      exact hy.qOp hi H
    · have h1 := hdone _ _ H j (ready_mono hj hji)
      have h2 := small inv hr j hj
      omega
  | succ f ih =>
    intro listed a inv hfree hr hy H
    refine ⟨fun h => (by rw [h] at hr; cases hr), fun j hj => ⟨small inv hr j hj, ?_⟩⟩
    by_cases hji : j = i
    · subst hji
      exact hy.qOp hi H
    · have hun := (mem_ready.1 hr).1
      have h1 := (H.2 j (ready_mono hj hji)).2
      obtain ⟨hjun, oj, hoj, hall⟩ := mem_ready.1 hj
      have hnot : ∀ e ∈ oj.after, Region.binds md e = true → e.on ≠ i := fun e he hb heq => by
        have h3 := hall e he hb
        rw [heq, getD_both hun] at h3
        cases h3
      have h2 := qOp_put hoj (hfree j oj hoj hji hjun hnot) (fun cs b => hsel i oi cs b hi) (fun cs b => hsel j oj cs b hoj) hy h1
      refine qOp_mono (fun a' h3 => ih (listed.setIfInBounds j true) a' (inv.set hj (small inv hr j hj)) (fun k ok hk hki hunk hno => ?_) (ready_mono hr (Ne.symm hji)) h3.1 ?_) h2
      · refine hfree k ok hk hki ?_ hno
        by_cases hjk : j = k
        · subst hjk
          exact hjun
        · rwa [getD_set_ne true hjk] at hunk
      · rw [Array.setIfInBounds_comm _ _ hji]
        exact h3.2

theorem headQ_lex {n g : Nat} {Lq : Act → Prop} (hsel : Region.noSelect ops = true) (hs : Region.sinkB md ops n = true) (hc : Region.chainB md ops n = true) (hn : n < ops.size) (l : List Oper) :
    ∀ (k : Nat) (listed : Array Bool) (a : Act), (∀ j, j < l.length → l[j]? = ops[k + j]?) → k + l.length = n → HeadInv md ops n listed →
    Region.lexHead md ops g l.length k listed = true → wpQuiet P ops C Lq l a →
    headQ P md ops C n (fun listed' a' => Region.seqB md ops g n listed' = true ∧ Lq a') l.length listed a := by
  induction l with
  | nil =>
    intro k listed a _ hk _ hB h
    have hk' : k = n := by simpa using hk
    subst hk'
    exact ⟨by simpa [Region.lexHead] using hB, h⟩
  | cons o l ih =>
    intro k listed a hl hk inv hB h
    have h0 : ops[k]? = some o := by simpa using (hl 0 (by simp)).symm
    simp only [List.length_cons, Region.lexHead, Bool.and_eq_true] at hB hk
    obtain ⟨⟨hr, hf⟩, hB'⟩ := hB
    have hr' : k ∈ Region.ready md ops listed := by simpa using hr
    have hq : qOp P ops C k (wpQuiet P ops C Lq l) a := by
      unfold qOp
      simp only [h0]
      exact h
    obtain ⟨v, hy, hK⟩ := yieldsIn_of_qOp h0 hq
    refine headQ_first h0 (Region.noSelect_spec hsel) hs hc hn (by omega) (fun listed' a' hL => seqB_ready hL.1) l.length listed a inv (Region.free_spec h0 hf) hr' hy ?_
    refine ih (k + 1) _ _ (fun j hj => ?_) (by omega) (inv.set hr' (by omega)) hB' hK
    have := hl (j + 1) (by simp; omega)
    simpa [Nat.add_assoc, Nat.add_comm 1 j] using this

/-- The theorem, at the class of the worlds that have only grown. -/
theorem wp_region_tail {id : Nat} {Q : Exit → Act → World → Prop} {a : Act} {w : World} {l : List Oper} (n : Nat) (hm : P.follows .mixedOrders = true) (hB : Region.lexTailB .any l.toArray n = true)
    (h : wpQuiet P l.toArray (fun w' => ∃ x, w' = grow w x) (fun a' => ∀ w', (∃ x, w' = grow w x) → wpList P l.toArray Q (l.drop n) a' w') (l.take n) a) : (Code.region id l.toArray true).wp P Q a w := by
  simp only [Region.lexTailB, Bool.and_eq_true, decide_eq_true_eq] at hB
  obtain ⟨⟨⟨⟨hsel, hn⟩, hs⟩, hc⟩, hlex⟩ := hB
  have hn' : n < l.length := by simpa using hn
  have htl : (l.take n).length = n := by simp; omega
  have hdl : (l.drop n).length = l.toArray.size - n := by simp
  have inv0 : HeadInv .any l.toArray n (Array.replicate l.toArray.size false) :=
    ⟨by simp, fun j oj _ hl => (by rw [getD_replicate_false] at hl; cases hl), fun t _ ht => getD_in (by simpa using ht) (getD_replicate_false _ _)⟩
  have H := headQ_lex (P := P) (C := fun w' => ∃ x, w' = grow w x) (md := .any) (g := l.toArray.size - n) hsel hs hc hn (l.take n) 0 _ a (fun j hj => by
    rw [htl] at hj
    simp [hj]) (by simpa using htl) inv0 (by rw [htl]; exact hlex) h
  refine wp_region_any hm ?_
  have H2 := any_of_headQ (Q' := Q) (g := l.toArray.size - n) (fun listed a' hL w' hw' => by
    have := wpAny_of_seq (md := .any) (Q' := Q) (l.drop n) n listed a' w' (fun j => by simp [List.getElem?_drop]) (by rw [hdl]; exact hL.1) (hL.2 w' hw')
    rwa [hdl] at this) _ _ _ H { w with drawn := w.drawn + 1 } ⟨⟨#[], w.drawn + 1⟩, by simp [grow]⟩
  rw [htl, show n + (l.toArray.size - n) = l.toArray.size from by omega] at H2
  exact H2
end
end Go.Proofs.Ytenigkngmdofiaa

namespace Go.Proofs.Ytenigkngmdofiaa
open Go.RowKit

theorem own_ext {w w' : World} {base : Nat} {e : TypeId} {size : Nat} {v : Value} {n : Nat} {xs : List Value} (h : w.ownsRow base e size v n xs) (E : Ext w w') : w'.ownsRow base e size v n xs := by
  obtain ⟨h1, h2⟩ := h
  refine ⟨h1, ?_⟩
  rcases h2 with h2 | ⟨g, cap, cur, hv, hg, hh, r⟩
  · exact Or.inl h2
  · refine Or.inr ⟨g, cap, cur, hv, hg, ?_, r⟩
    have hlt : g < w.heap.size := (Array.getElem?_eq_some_iff.1 hh).1
    rw [Below.block E g hlt]
    exact hh
theorem own_base {w : World} {base base' : Nat} {e : TypeId} {size : Nat} {v : Value} {n : Nat} {xs : List Value} (h : w.ownsRow base e size v n xs) (hb : base' ≤ base) : w.ownsRow base' e size v n xs := by
  obtain ⟨h1, h2⟩ := h
  refine ⟨h1, ?_⟩
  rcases h2 with h2 | ⟨g, cap, cur, hv, hg, r⟩
  · exact Or.inl h2
  · exact Or.inr ⟨g, cap, cur, hv, Nat.le_trans hb hg, r⟩
/-- A row keeps while a block below its base is written. -/
theorem own_setCell {w : World} {base : Nat} {e : TypeId} {size : Nat} {v : Value} {n : Nat} {xs : List Value} (h : w.ownsRow base e size v n xs) {p : Addr} (hp : p.block < base) (u : Value) : (w.setCell p u).ownsRow base e size v n xs := by
  obtain ⟨h1, h2⟩ := h
  refine ⟨h1, ?_⟩
  rcases h2 with h2 | ⟨g, cap, cur, hv, hg, hh, r⟩
  · exact Or.inl h2
  · exact Or.inr ⟨g, cap, cur, hv, hg, by rw [Below.heap_setCell _ _ _ _ (by omega)]; exact hh, r⟩
/-- The block of an owned row is none of the blocks below its base. -/
theorem own_ne {w : World} {base : Nat} {e : TypeId} {size : Nat} {v : Value} {n : Nat} {xs : List Value} (h : w.ownsRow base e size v n xs) {g : Nat} (hg : g < base) : some g ≠ v.ownBlock := fun he => by
  have := (h.lt g he.symm).1
  omega

theorem own_form {w : World} {base : Nat} {e : TypeId} {size : Nat} {v : Value} {n : Nat} {xs : List Value} (h : w.ownsRow base e size v n xs) (hn : 0 < n) : ∃ g cap, v = .slice (some ⟨g, 0, none⟩) n cap := by
  rcases h.2 with ⟨_, h0⟩ | ⟨g, cap, cur, hv, _⟩
  · omega
  · exact ⟨g, cap, hv⟩
theorem add_zero_addr (g j : Nat) : (⟨g, 0, none⟩ : Addr).add j = ⟨g, j, none⟩ := by
  unfold Addr.add
  split
  · subst_vars; rfl
  · simp

section
variable {P : Program} {w : World} {ops : Array Oper} {o : Oper} {a : Act} {K : Act → World → Prop} {Q : Exit → Act → World → Prop} {F : Prop}

/-- append(s, x) where x is a new block's cells news (m elements), as one step of a region that draws its order. -/
theorem step_append_new (hgd : o.guard = none) (s x : Operand) (t : TypeId) (ho : o.op = .call { callee := .builtin .append, args := #[s, x], argTypes := #[t, t] })
    (base : Nat) (e : TypeId) (i : TypeInfo) (z : Value) (size bytes : Nat) (ht : P.underlying t = some (.slice e)) (hi : P.info? e = some i) (hz : i.zero = some z)
    (hsize : i.size = size) (hby : i.bytes = bytes) (hzs : z.cells.size = size) (hsz : 0 < size)
    (v : Value) (n : Nat) (xs : List Value) (hs : a.eval s = v) (hown : w.ownsRow base e size v n xs)
    (g m c : Nat) (news : List Value) (hx : a.eval x = .slice (some ⟨g, 0, none⟩) m c) (hl : news.length = m * size) (hnews : ∀ j, w.cell? ⟨g, j, none⟩ = news[j]?) (h1 : ∀ u ∈ news, u.oneCell' = true)
    (h63 : n + m ≤ maxLen) (hbytes : (n + m) * bytes ≤ 140737488355328) (hbase : base ≤ w.heap.size)
    (h : ∀ v' w', w'.ownsRow base e size v' (n + m) (xs ++ news) → w.grownBy w' v.ownBlock → K (a.put o.dst v') w') : if Region.wanted o (yielded ops a.tmps) = true then o.wp P a w K Q else F := by
  rw [if_pos (by simp [Region.wanted, hgd])]
  exact wp_append_own w s x t ho base e i z size bytes ht hi hz hsize hby hzs hsz v n xs hs hown ⟨g, 0, none⟩ m c news hx hl
    (fun j u hu => by rw [add_zero_addr, hnews j]; exact hu) h1 h63 hbytes hbase fun v' w' h2 h3 _ => h v' w' h2 h3

/-- append(s, x) of ONE element, which has just been laid as a new block's cells. -/
theorem step_append_one {w : World} (cs : Array Value) (hgd : o.guard = none) (s x : Operand) (t : TypeId) (ho : o.op = .call { callee := .builtin .append, args := #[s, x], argTypes := #[t, t] })
    (base : Nat) (e te : TypeId) (i : TypeInfo) (z : Value) (size bytes : Nat) (ht : P.underlying t = some (.slice e)) (hi : P.info? e = some i) (hz : i.zero = some z)
    (hsize : i.size = size) (hby : i.bytes = bytes) (hzs : z.cells.size = size) (hsz : 0 < size)
    (v : Value) (n c : Nat) (xs : List Value) (hs : a.eval s = v) (hown : w.ownsRow base e size v n xs)
    (hx : a.eval x = .slice (some ⟨w.heap.size, 0, none⟩) 1 c) (hl : cs.size = size) (h1 : ∀ u ∈ cs.toList, u.oneCell' = true)
    (h63 : n + 1 ≤ maxLen) (hbytes : (n + 1) * bytes ≤ 140737488355328) (hbase : base ≤ w.heap.size)
    (h : ∀ g' cap' w', w'.ownsRow base e size (.slice (some ⟨g', 0, none⟩) (n + 1) cap') (n + 1) (xs ++ cs.toList) → (w.alloc (.cells cs te)).grownBy w' v.ownBlock → K (a.put o.dst (.slice (some ⟨g', 0, none⟩) (n + 1) cap')) w') :
    if Region.wanted o (yielded ops a.tmps) = true then o.wp P a (w.alloc (.cells cs te)) K Q else F :=
  step_append_new hgd s x t ho base e i z size bytes ht hi hz hsize hby hzs hsz v n xs hs (hown.alloc _) w.heap.size 1 c cs.toList hx (by simp [hl]) (fun j => by rw [cell_new]; simp) h1 h63 hbytes
    (by simp; omega) fun v' w' h2 h3 => by
      obtain ⟨g', cap', rfl⟩ := own_form h2 (by omega)
      exact h g' cap' w' h2 h3
/-- The same as one operation of a plain walk. -/
theorem wpList_append_one {w : World} {rest : List Oper} (cs : Array Value) (hgd : o.guard = none) (s x : Operand) (t : TypeId) (ho : o.op = .call { callee := .builtin .append, args := #[s, x], argTypes := #[t, t] })
    (base : Nat) (e te : TypeId) (i : TypeInfo) (z : Value) (size bytes : Nat) (ht : P.underlying t = some (.slice e)) (hi : P.info? e = some i) (hz : i.zero = some z)
    (hsize : i.size = size) (hby : i.bytes = bytes) (hzs : z.cells.size = size) (hsz : 0 < size)
    (v : Value) (n c : Nat) (xs : List Value) (hs : a.eval s = v) (hown : w.ownsRow base e size v n xs)
    (hx : a.eval x = .slice (some ⟨w.heap.size, 0, none⟩) 1 c) (hl : cs.size = size) (h1 : ∀ u ∈ cs.toList, u.oneCell' = true)
    (h63 : n + 1 ≤ maxLen) (hbytes : (n + 1) * bytes ≤ 140737488355328) (hbase : base ≤ w.heap.size)
    (h : ∀ g' cap' w', w'.ownsRow base e size (.slice (some ⟨g', 0, none⟩) (n + 1) cap') (n + 1) (xs ++ cs.toList) → (w.alloc (.cells cs te)).grownBy w' v.ownBlock → wpList P ops Q rest (a.put o.dst (.slice (some ⟨g', 0, none⟩) (n + 1) cap')) w') :
    wpList P ops Q (o :: rest) a (w.alloc (.cells cs te)) :=
  wpList_plain hgd fun _ hK => by
    have := step_append_one (P := P) (ops := ops) (o := o) (a := a) (Q := Q) (F := True) cs hgd s x t ho base e te i z size bytes ht hi hz hsize hby hzs hsz v n c xs hs hown hx hl h1 h63 hbytes hbase (fun g' cap' w' h2 h3 => hK _ _ (h g' cap' w' h2 h3))
    rwa [if_pos (by simp [Region.wanted, hgd])] at this
end
end Go.Proofs.Ytenigkngmdofiaa

namespace Go.Proofs.Ytenigkngmdofiaa
open Go.RowKit

/-- A coordinate that is not great. -/
def CB (x : Int) : Prop := -1000000 ≤ x ∧ x ≤ 1000000

set_option maxHeartbeats 400000 in
theorem tn1_c (x y z : Int) (w : World) (hz : CB z) :
    Calls Try.prog 97 #[.agg #[.int .i64 x, .int .i64 y, .int .i64 z]] w fun e w' => e = .returned (.agg #[.int .i64 x, .int .i64 (-z), .int .i64 y]) ∧ Ext w w' := by
  obtain ⟨z1, z2⟩ := hz
  go_enter Try.func97, Try.ntmps97
  go_wp2
  exact bodyPost_ret (v := .agg #[.int .i64 x, .int .i64 (-z), .int .i64 y]) (by simp [results, Try.results97, go_sem]) rfl ⟨rfl, by apply_rules [Ext.refl, Ext.alloc]⟩

set_option maxHeartbeats 400000 in
theorem tn2_c (x y z : Int) (w : World) :
    Calls Try.prog 98 #[.agg #[.int .i64 x, .int .i64 y, .int .i64 z]] w fun e w' => e = .returned (.agg #[.int .i64 x, .int .i64 y, .int .i64 z]) ∧ Ext w w' := by
  go_enter Try.func98, Try.ntmps98
  go_wp2
  exact bodyPost_ret (v := .agg #[.int .i64 x, .int .i64 y, .int .i64 z]) (by simp [results, Try.results98, go_sem]) rfl ⟨rfl, by apply_rules [Ext.refl, Ext.alloc]⟩

set_option maxHeartbeats 400000 in
theorem tn5_c (x y z : Int) (w : World) :
    Calls Try.prog 101 #[.agg #[.int .i64 x, .int .i64 y, .int .i64 z]] w fun e w' => e = .returned (.agg #[.int .i64 z, .int .i64 x, .int .i64 y]) ∧ Ext w w' := by
  go_enter Try.func101, Try.ntmps101
  go_wp2
  exact bodyPost_ret (v := .agg #[.int .i64 z, .int .i64 x, .int .i64 y]) (by simp [results, Try.results101, go_sem]) rfl ⟨rfl, by apply_rules [Ext.refl, Ext.alloc]⟩

set_option maxHeartbeats 400000 in
theorem tn6_c (x y z : Int) (w : World) (hx : CB x) (hz : CB z) :
    Calls Try.prog 102 #[.agg #[.int .i64 x, .int .i64 y, .int .i64 z]] w fun e w' => e = .returned (.agg #[.int .i64 (-z), .int .i64 (-x), .int .i64 y]) ∧ Ext w w' := by
  obtain ⟨x1, x2⟩ := hx
  obtain ⟨z1, z2⟩ := hz
  go_enter Try.func102, Try.ntmps102
  go_wp2
  exact bodyPost_ret (v := .agg #[.int .i64 (-z), .int .i64 (-x), .int .i64 y]) (by simp [results, Try.results102, go_sem]) rfl ⟨rfl, by apply_rules [Ext.refl, Ext.alloc]⟩

theorem CB.neg {x : Int} (h : CB x) : CB (-x) := by unfold CB at *; omega

set_option maxHeartbeats 800000 in
theorem tn3_c (x y z : Int) (g : Nat) (w : World) (hy : CB y) (hz : CB z) (hg : w.cell? ⟨g, 0, none⟩ = some (.func (.func 97) #[] #[])) :
    Calls Try.prog 99 #[.agg #[.int .i64 x, .int .i64 y, .int .i64 z], .pointer (some ⟨g, 0, none⟩)] w fun e w' => e = .returned (.agg #[.int .i64 x, .int .i64 (-y), .int .i64 (-z)]) ∧ Ext w w' := by
  obtain ⟨W, hW, E, ba, bb, hsz⟩ := boxes2 w #[.int .i64 x, .int .i64 y, .int .i64 z] #[.int .i64 0, .int .i64 0, .int .i64 0] 23 23
  have hgW := E.cell hg
  have hz' := hz.neg
  have B3 : Blk W (w.heap.size + 1) 23 #[.int .i64 0, .int .i64 0, .int .i64 0] := by
    rw [← hW]
    have := Blk.new (w.alloc (.cells #[.int .i64 x, .int .i64 y, .int .i64 z] 23)) #[.int .i64 0, .int .i64 0, .int .i64 0] 23
    rwa [World.size_alloc] at this
  go_enter Try.func99, Try.ntmps99
  go_wp2
  refine wp_region_tail 5 (by kernel_rfl) (by kernel_rfl) ?_
  simp only [List.take_succ_cons, List.take_zero, List.drop_succ_cons, List.drop_zero]
  repeat (go_big_quiet_step ((go_at_call 97; exact quiet_ext (tn1_c _ _ _ _ (by assumption)))))
  refine wpQuiet_nil ?_
  intro W2 hW2
  have E2 : Ext W W2 := by
    obtain ⟨x, rfl⟩ := hW2
    exact (Ext.refl _).grow x
  clear hW2
  have B32 := B3.ext E2
  have cc := B32.cell
  have ff := B32.frozen
  go_wp2
  refine bodyPost_ret (v := .agg #[.int .i64 x, .int .i64 (-y), .int .i64 (-z)]) (by simp [results, Try.results99, go_sem, cc]) rfl ⟨rfl, ?_⟩
  exact (((E.trans E2).setCell (Nat.le_succ _) _).setCell (Nat.le_succ _) _).setCell (Nat.le_succ _) _

set_option maxHeartbeats 800000 in
theorem tn4_c (x y z : Int) (g : Nat) (w : World) (hy : CB y) (hz : CB z) (hg : w.cell? ⟨g, 0, none⟩ = some (.func (.func 97) #[] #[])) :
    Calls Try.prog 100 #[.agg #[.int .i64 x, .int .i64 y, .int .i64 z], .pointer (some ⟨g, 0, none⟩)] w fun e w' => e = .returned (.agg #[.int .i64 x, .int .i64 z, .int .i64 (-y)]) ∧ Ext w w' := by
  obtain ⟨W, hW, E, ba, bb, hsz⟩ := boxes2 w #[.int .i64 x, .int .i64 y, .int .i64 z] #[.int .i64 0, .int .i64 0, .int .i64 0] 23 23
  have hgW := E.cell hg
  have hz' := hz.neg
  have hy' := hy.neg
  have B3 : Blk W (w.heap.size + 1) 23 #[.int .i64 0, .int .i64 0, .int .i64 0] := by
    rw [← hW]
    have := Blk.new (w.alloc (.cells #[.int .i64 x, .int .i64 y, .int .i64 z] 23)) #[.int .i64 0, .int .i64 0, .int .i64 0] 23
    rwa [World.size_alloc] at this
  go_enter Try.func100, Try.ntmps100
  go_wp2
  refine wp_region_tail 7 (by kernel_rfl) (by kernel_rfl) ?_
  simp only [List.take_succ_cons, List.take_zero, List.drop_succ_cons, List.drop_zero]
  repeat (go_big_quiet_step ((go_at_call 97; exact quiet_ext (tn1_c _ _ _ _ (by assumption)))))
  refine wpQuiet_nil ?_
  intro W2 hW2
  have E2 : Ext W W2 := by
    obtain ⟨x, rfl⟩ := hW2
    exact (Ext.refl _).grow x
  clear hW2
  have B32 := B3.ext E2
  have cc := B32.cell
  have ff := B32.frozen
  go_wp2
  refine bodyPost_ret (v := .agg #[.int .i64 x, .int .i64 z, .int .i64 (-y)]) (by simp [results, Try.results100, go_sem, cc]) rfl ⟨rfl, ?_⟩
  exact (((E.trans E2).setCell (Nat.le_succ _) _).setCell (Nat.le_succ _) _).setCell (Nat.le_succ _) _

end Go.Proofs.Ytenigkngmdofiaa

namespace Go.Proofs.Ytenigkngmdofiaa
open Go.RowKit

set_option maxHeartbeats 800000 in
theorem turners_c (w : World) :
    Calls Try.prog 78 #[] w fun e w' => ∃ g, e = .returned (.agg #[.func (.func 98) #[] #[], .func (.func 97) #[] #[],
      .func (.func 99) #[] #[.pointer (some ⟨g, 0, none⟩)], .func (.func 100) #[] #[.pointer (some ⟨g, 0, none⟩)],
      .func (.func 101) #[] #[], .func (.func 102) #[] #[]]) ∧ w'.cell? ⟨g, 0, none⟩ = some (.func (.func 97) #[] #[]) ∧ Ext w w' := by
  have hmf : ∀ (fn : Fn) (first cap : Array Value) (w : World), (Instr.makeFunc fn first cap).run Try.prog w = .ok (.func fn first cap) w := fun _ _ _ _ => rfl
  go_enter Try.func78, Try.ntmps78
  go_wp2
  refine bodyPost_ret (v := .agg #[.func (.func 98) #[] #[], .func (.func 97) #[] #[],
      .func (.func 99) #[] #[.pointer (some ⟨w.heap.size + 1, 0, none⟩)], .func (.func 100) #[] #[.pointer (some ⟨w.heap.size + 1, 0, none⟩)],
      .func (.func 101) #[] #[], .func (.func 102) #[] #[]]) (by simp [results, Try.results78, go_sem]) rfl ⟨w.heap.size + 1, rfl, ?_, by apply_rules [Ext.refl, Ext.alloc]⟩
  simp [go_sem]

/-- A cell of the lattice. -/
structure Pt where
  x : Int
  y : Int
  z : Int
def Pt.ok (p : Pt) : Prop := CB p.x ∧ CB p.y ∧ CB p.z
def rotZ (p : Pt) : Pt := ⟨-p.y, p.x, p.z⟩
def rotZn (p : Pt) : Nat → Pt
  | 0 => p
  | k + 1 => rotZ (rotZn p k)
/-- What is done to a cell after it was turned about z. -/
def turnQ (p : Pt) (q : Nat) : Pt :=
  match q with
  | 0 => p
  | 1 => ⟨p.x, -p.z, p.y⟩
  | 2 => ⟨p.x, -p.y, -p.z⟩
  | 3 => ⟨p.x, p.z, -p.y⟩
  | 4 => ⟨p.z, p.x, p.y⟩
  | _ => ⟨-p.z, -p.x, p.y⟩
def turnS (p : Pt) (n : Nat) : Pt := turnQ (rotZn p (n % 4)) (n / 4)
theorem rotZn_ok {p : Pt} (h : p.ok) (k : Nat) : (rotZn p k).ok := by
  induction k with
  | zero => exact h
  | succ k ih => exact ⟨ih.2.1.neg, ih.1, ih.2.2⟩
theorem turnQ_ok {p : Pt} (h : p.ok) (q : Nat) : (turnQ p q).ok := by
  obtain ⟨h1, h2, h3⟩ := h
  unfold turnQ
  split
  · exact ⟨h1, h2, h3⟩
  · exact ⟨h1, h3.neg, h2⟩
  · exact ⟨h1, h2.neg, h3.neg⟩
  · exact ⟨h1, h3, h2.neg⟩
  · exact ⟨h3, h1, h2⟩
  · exact ⟨h3.neg, h1.neg, h2⟩
theorem turnS_ok {p : Pt} (h : p.ok) (n : Nat) : (turnS p n).ok := turnQ_ok (rotZn_ok h _) _

set_option maxHeartbeats 3200000 in
theorem turn_c (x y z : Int) (n : Nat) (w : World) (hn : n < 24) (hp : Pt.ok ⟨x, y, z⟩) :
    Calls Try.prog 43 #[.agg #[.int .i64 x, .int .i64 y, .int .i64 z], .int .i64 n] w fun e w' =>
      e = .returned (.agg #[.int .i64 (turnS ⟨x, y, z⟩ n).x, .int .i64 (turnS ⟨x, y, z⟩ n).y, .int .i64 (turnS ⟨x, y, z⟩ n).z]) ∧ Ext w w' := by
  go_enter Try.func43, Try.ntmps43
  go_wp2
  go_loopw [7] (fun i wr => ∃ k : Nat, k ≤ n % 4 ∧ i = .int .i64 k ∧ Ext w wr ∧ Blk wr w.heap.size 23 #[.int .i64 (rotZn ⟨x, y, z⟩ k).x, .int .i64 (rotZn ⟨x, y, z⟩ k).y, .int .i64 (rotZn ⟨x, y, z⟩ k).z] ∧
      Blk wr (w.heap.size + 1) 23 #[.int .i64 0, .int .i64 0, .int .i64 0]) (fun i _ => n % 4 - (intOf i).toNat)
  case atStart =>
    refine ⟨0, by omega, rfl, by apply_rules [Ext.refl, Ext.alloc], (Blk.new _ _ _).alloc _, ?_⟩
    have := Blk.new (w.alloc (.cells #[.int .i64 x, .int .i64 y, .int .i64 z] 23)) #[.int .i64 0, .int .i64 0, .int .i64 0] 23
    rwa [World.size_alloc] at this
  case round =>
    obtain ⟨k, hk, rfl, E, B0, B1⟩ := hrel
    obtain ⟨p, hpk⟩ : ∃ p, rotZn ⟨x, y, z⟩ k = p := ⟨_, rfl⟩
    have hok : p.ok := hpk ▸ rotZn_ok hp k
    rw [hpk] at B0
    have Hp := Lib.hid hpk
    clear hpk
    have hz0 := hok.2.1
    obtain ⟨b1, b2⟩ := hz0
    have c0 := B0.cell
    have f0 := B0.frozen
    have c1 := B1.cell
    by_cases hlt : k < n % 4
    · go_wp2
      go_roundw
      case rel =>
        refine ⟨k + 1, by omega, by go_num, ((E.setCell (Nat.le_refl _) _).setCell (Nat.le_refl _) _).setCell (Nat.le_refl _) _, ?_, ((B1.far (by simp) _).far (by simp) _).far (by simp) _⟩
        have hr : rotZn ⟨x, y, z⟩ (k + 1) = ⟨-p.y, p.x, p.z⟩ := by
          show rotZ (rotZn ⟨x, y, z⟩ k) = _
          rw [Hp.out]
          rfl
        rw [hr]
        have := ((B0.set_ 0 (.int .i64 (-p.y))).set_ 1 (.int .i64 p.x)).set_ 2 (.int .i64 p.z)
        simpa using this
      case measure => simp [intOf]; omega
    · obtain rfl : n % 4 = k := by omega
      have hq6 : n / 4 = 0 ∨ n / 4 = 1 ∨ n / 4 = 2 ∨ n / 4 = 3 ∨ n / 4 = 4 ∨ n / 4 = 5 := by omega
      have Hq6 := Lib.hid hq6
      clear hq6
      go_wp2
      rcases Hq6.out with hq | hq | hq | hq | hq | hq
      · have Hfin := Lib.hid (show turnS ⟨x, y, z⟩ n = ⟨p.x, p.y, p.z⟩ from by unfold turnS; rw [Hp.out, hq]; rfl)
        have hqi : (n : Int) / 4 = 0 := by omega
        have hwq : IntKind.i64.wrap 0 = 0 := by decide
        have hfld : ∀ (w : World), (Instr.field 134 (.agg #[.func (.func 98) #[] #[]]) 0).run Try.prog w = .ok (.func (.func 98) #[] #[]) w := fun _ => by kernel_rfl
        have hidx : ∀ (g : Nat) (w : World), (Instr.index 135 (.agg #[.func (.func 98) #[] #[], .func (.func 97) #[] #[], .func (.func 99) #[] #[.pointer (some ⟨g, 0, none⟩)], .func (.func 100) #[] #[.pointer (some ⟨g, 0, none⟩)], .func (.func 101) #[] #[], .func (.func 102) #[] #[]]) (.int .i64 0)).run Try.prog w = .ok (.agg #[.func (.func 98) #[] #[]]) w := fun _ _ => by kernel_rfl
        clear hq Hq6
        go_region_law (first
          | (go_simp; go_at_call 78; refine (turners_c _).mono ?_; rintro e w1 ⟨g, rfl, HG, E1⟩; have B01 := B0.drew.ext E1; have B11 := B1.drew.ext E1; have c01 := B01.cell)
          | (go_simp; go_at_call 98; refine (tn2_c p.x p.y p.z _).mono ?_; rintro e w2 ⟨rfl, E2⟩; have B12 := B11.ext E2; have c12 := B12.cell; have f12 := B12.frozen))
        all_goals
          go_wp2
          refine bodyPost_ret (v := .agg #[.int .i64 p.x, .int .i64 p.y, .int .i64 p.z]) (by simp [results, Try.results43, go_sem, c12]) rfl ⟨by rw [Hfin.out], ?_⟩
          exact ((((E.drew.trans E1).trans E2).setCell (Nat.le_succ _) _).setCell (Nat.le_succ _) _).setCell (Nat.le_succ _) _
      · have Hfin := Lib.hid (show turnS ⟨x, y, z⟩ n = ⟨p.x, (-p.z), p.y⟩ from by unfold turnS; rw [Hp.out, hq]; rfl)
        have hqi : (n : Int) / 4 = 1 := by omega
        have hwq : IntKind.i64.wrap 1 = 1 := by decide
        have hfld : ∀ (w : World), (Instr.field 134 (.agg #[.func (.func 97) #[] #[]]) 0).run Try.prog w = .ok (.func (.func 97) #[] #[]) w := fun _ => by kernel_rfl
        have hidx : ∀ (g : Nat) (w : World), (Instr.index 135 (.agg #[.func (.func 98) #[] #[], .func (.func 97) #[] #[], .func (.func 99) #[] #[.pointer (some ⟨g, 0, none⟩)], .func (.func 100) #[] #[.pointer (some ⟨g, 0, none⟩)], .func (.func 101) #[] #[], .func (.func 102) #[] #[]]) (.int .i64 1)).run Try.prog w = .ok (.agg #[.func (.func 97) #[] #[]]) w := fun _ _ => by kernel_rfl
        clear hq Hq6
        go_region_law (first
          | (go_simp; go_at_call 78; refine (turners_c _).mono ?_; rintro e w1 ⟨g, rfl, HG, E1⟩; have B01 := B0.drew.ext E1; have B11 := B1.drew.ext E1; have c01 := B01.cell)
          | (go_simp; go_at_call 97; refine (tn1_c p.x p.y p.z _ hok.2.2).mono ?_; rintro e w2 ⟨rfl, E2⟩; have B12 := B11.ext E2; have c12 := B12.cell; have f12 := B12.frozen))
        all_goals
          go_wp2
          refine bodyPost_ret (v := .agg #[.int .i64 p.x, .int .i64 (-p.z), .int .i64 p.y]) (by simp [results, Try.results43, go_sem, c12]) rfl ⟨by rw [Hfin.out], ?_⟩
          exact ((((E.drew.trans E1).trans E2).setCell (Nat.le_succ _) _).setCell (Nat.le_succ _) _).setCell (Nat.le_succ _) _
      · have Hfin := Lib.hid (show turnS ⟨x, y, z⟩ n = ⟨p.x, (-p.y), (-p.z)⟩ from by unfold turnS; rw [Hp.out, hq]; rfl)
        have hqi : (n : Int) / 4 = 2 := by omega
        have hwq : IntKind.i64.wrap 2 = 2 := by decide
        have hfld : ∀ (g : Nat) (w : World), (Instr.field 134 (.agg #[.func (.func 99) #[] #[.pointer (some ⟨g, 0, none⟩)]]) 0).run Try.prog w = .ok (.func (.func 99) #[] #[.pointer (some ⟨g, 0, none⟩)]) w := fun _ _ => by kernel_rfl
        have hidx : ∀ (g : Nat) (w : World), (Instr.index 135 (.agg #[.func (.func 98) #[] #[], .func (.func 97) #[] #[], .func (.func 99) #[] #[.pointer (some ⟨g, 0, none⟩)], .func (.func 100) #[] #[.pointer (some ⟨g, 0, none⟩)], .func (.func 101) #[] #[], .func (.func 102) #[] #[]]) (.int .i64 2)).run Try.prog w = .ok (.agg #[.func (.func 99) #[] #[.pointer (some ⟨g, 0, none⟩)]]) w := fun _ _ => by kernel_rfl
        clear hq Hq6
        go_region_law (first
          | (go_simp; go_at_call 78; refine (turners_c _).mono ?_; rintro e w1 ⟨g, rfl, HG, E1⟩; have B01 := B0.drew.ext E1; have B11 := B1.drew.ext E1; have c01 := B01.cell)
          | (go_simp; go_at_call 99; refine (tn3_c p.x p.y p.z g _ hok.2.1 hok.2.2 HG).mono ?_; rintro e w2 ⟨rfl, E2⟩; have B12 := B11.ext E2; have c12 := B12.cell; have f12 := B12.frozen))
        all_goals
          go_wp2
          refine bodyPost_ret (v := .agg #[.int .i64 p.x, .int .i64 (-p.y), .int .i64 (-p.z)]) (by simp [results, Try.results43, go_sem, c12]) rfl ⟨by rw [Hfin.out], ?_⟩
          exact ((((E.drew.trans E1).trans E2).setCell (Nat.le_succ _) _).setCell (Nat.le_succ _) _).setCell (Nat.le_succ _) _
      · have Hfin := Lib.hid (show turnS ⟨x, y, z⟩ n = ⟨p.x, p.z, (-p.y)⟩ from by unfold turnS; rw [Hp.out, hq]; rfl)
        have hqi : (n : Int) / 4 = 3 := by omega
        have hwq : IntKind.i64.wrap 3 = 3 := by decide
        have hfld : ∀ (g : Nat) (w : World), (Instr.field 134 (.agg #[.func (.func 100) #[] #[.pointer (some ⟨g, 0, none⟩)]]) 0).run Try.prog w = .ok (.func (.func 100) #[] #[.pointer (some ⟨g, 0, none⟩)]) w := fun _ _ => by kernel_rfl
        have hidx : ∀ (g : Nat) (w : World), (Instr.index 135 (.agg #[.func (.func 98) #[] #[], .func (.func 97) #[] #[], .func (.func 99) #[] #[.pointer (some ⟨g, 0, none⟩)], .func (.func 100) #[] #[.pointer (some ⟨g, 0, none⟩)], .func (.func 101) #[] #[], .func (.func 102) #[] #[]]) (.int .i64 3)).run Try.prog w = .ok (.agg #[.func (.func 100) #[] #[.pointer (some ⟨g, 0, none⟩)]]) w := fun _ _ => by kernel_rfl
        clear hq Hq6
        go_region_law (first
          | (go_simp; go_at_call 78; refine (turners_c _).mono ?_; rintro e w1 ⟨g, rfl, HG, E1⟩; have B01 := B0.drew.ext E1; have B11 := B1.drew.ext E1; have c01 := B01.cell)
          | (go_simp; go_at_call 100; refine (tn4_c p.x p.y p.z g _ hok.2.1 hok.2.2 HG).mono ?_; rintro e w2 ⟨rfl, E2⟩; have B12 := B11.ext E2; have c12 := B12.cell; have f12 := B12.frozen))
        all_goals
          go_wp2
          refine bodyPost_ret (v := .agg #[.int .i64 p.x, .int .i64 p.z, .int .i64 (-p.y)]) (by simp [results, Try.results43, go_sem, c12]) rfl ⟨by rw [Hfin.out], ?_⟩
          exact ((((E.drew.trans E1).trans E2).setCell (Nat.le_succ _) _).setCell (Nat.le_succ _) _).setCell (Nat.le_succ _) _
      · have Hfin := Lib.hid (show turnS ⟨x, y, z⟩ n = ⟨p.z, p.x, p.y⟩ from by unfold turnS; rw [Hp.out, hq]; rfl)
        have hqi : (n : Int) / 4 = 4 := by omega
        have hwq : IntKind.i64.wrap 4 = 4 := by decide
        have hfld : ∀ (w : World), (Instr.field 134 (.agg #[.func (.func 101) #[] #[]]) 0).run Try.prog w = .ok (.func (.func 101) #[] #[]) w := fun _ => by kernel_rfl
        have hidx : ∀ (g : Nat) (w : World), (Instr.index 135 (.agg #[.func (.func 98) #[] #[], .func (.func 97) #[] #[], .func (.func 99) #[] #[.pointer (some ⟨g, 0, none⟩)], .func (.func 100) #[] #[.pointer (some ⟨g, 0, none⟩)], .func (.func 101) #[] #[], .func (.func 102) #[] #[]]) (.int .i64 4)).run Try.prog w = .ok (.agg #[.func (.func 101) #[] #[]]) w := fun _ _ => by kernel_rfl
        clear hq Hq6
        go_region_law (first
          | (go_simp; go_at_call 78; refine (turners_c _).mono ?_; rintro e w1 ⟨g, rfl, HG, E1⟩; have B01 := B0.drew.ext E1; have B11 := B1.drew.ext E1; have c01 := B01.cell)
          | (go_simp; go_at_call 101; refine (tn5_c p.x p.y p.z _).mono ?_; rintro e w2 ⟨rfl, E2⟩; have B12 := B11.ext E2; have c12 := B12.cell; have f12 := B12.frozen))
        all_goals
          go_wp2
          refine bodyPost_ret (v := .agg #[.int .i64 p.z, .int .i64 p.x, .int .i64 p.y]) (by simp [results, Try.results43, go_sem, c12]) rfl ⟨by rw [Hfin.out], ?_⟩
          exact ((((E.drew.trans E1).trans E2).setCell (Nat.le_succ _) _).setCell (Nat.le_succ _) _).setCell (Nat.le_succ _) _
      · have Hfin := Lib.hid (show turnS ⟨x, y, z⟩ n = ⟨(-p.z), (-p.x), p.y⟩ from by unfold turnS; rw [Hp.out, hq]; rfl)
        have hqi : (n : Int) / 4 = 5 := by omega
        have hwq : IntKind.i64.wrap 5 = 5 := by decide
        have hfld : ∀ (w : World), (Instr.field 134 (.agg #[.func (.func 102) #[] #[]]) 0).run Try.prog w = .ok (.func (.func 102) #[] #[]) w := fun _ => by kernel_rfl
        have hidx : ∀ (g : Nat) (w : World), (Instr.index 135 (.agg #[.func (.func 98) #[] #[], .func (.func 97) #[] #[], .func (.func 99) #[] #[.pointer (some ⟨g, 0, none⟩)], .func (.func 100) #[] #[.pointer (some ⟨g, 0, none⟩)], .func (.func 101) #[] #[], .func (.func 102) #[] #[]]) (.int .i64 5)).run Try.prog w = .ok (.agg #[.func (.func 102) #[] #[]]) w := fun _ _ => by kernel_rfl
        clear hq Hq6
        go_region_law (first
          | (go_simp; go_at_call 78; refine (turners_c _).mono ?_; rintro e w1 ⟨g, rfl, HG, E1⟩; have B01 := B0.drew.ext E1; have B11 := B1.drew.ext E1; have c01 := B01.cell)
          | (go_simp; go_at_call 102; refine (tn6_c p.x p.y p.z _ hok.1 hok.2.2).mono ?_; rintro e w2 ⟨rfl, E2⟩; have B12 := B11.ext E2; have c12 := B12.cell; have f12 := B12.frozen))
        all_goals
          go_wp2
          refine bodyPost_ret (v := .agg #[.int .i64 (-p.z), .int .i64 (-p.x), .int .i64 p.y]) (by simp [results, Try.results43, go_sem, c12]) rfl ⟨by rw [Hfin.out], ?_⟩
          exact ((((E.drew.trans E1).trans E2).setCell (Nat.le_succ _) _).setCell (Nat.le_succ _) _).setCell (Nat.le_succ _) _
end Go.Proofs.Ytenigkngmdofiaa

namespace Go.Proofs.Ytenigkngmdofiaa
open Go.RowKit

def rotX (p : Pt) : Pt := ⟨p.x, -p.z, p.y⟩
def rotXn (p : Pt) : Nat → Pt
  | 0 => p
  | k + 1 => rotX (rotXn p k)
theorem rotXn_ok {p : Pt} (h : p.ok) (k : Nat) : (rotXn p k).ok := by
  induction k with
  | zero => exact h
  | succ k ih => exact ⟨ih.1, ih.2.2.neg, ih.2.1⟩

set_option maxHeartbeats 1600000 in
theorem aboutZ_c (x y z n : Int) (w : World) (h0 : 0 ≤ n) (h1 : n ≤ 1000) (hp : Pt.ok ⟨x, y, z⟩) :
    Calls Try.prog 79 #[.agg #[.int .i64 x, .int .i64 y, .int .i64 z], .int .i64 n] w fun e w' =>
      e = .returned (.agg #[.int .i64 (rotZn ⟨x, y, z⟩ n.toNat).x, .int .i64 (rotZn ⟨x, y, z⟩ n.toNat).y, .int .i64 (rotZn ⟨x, y, z⟩ n.toNat).z]) ∧ Ext w w' := by
  obtain ⟨m, rfl⟩ := Int.eq_ofNat_of_zero_le h0
  rw [Int.toNat_natCast]
  go_enter Try.func79, Try.ntmps79
  go_wp2
  go_loopw [5] (fun i wr => ∃ k : Nat, k ≤ m ∧ i = .int .i64 k ∧ Ext w wr ∧ Blk wr w.heap.size 23 #[.int .i64 (rotZn ⟨x, y, z⟩ k).x, .int .i64 (rotZn ⟨x, y, z⟩ k).y, .int .i64 (rotZn ⟨x, y, z⟩ k).z] ∧
      Blk wr (w.heap.size + 1) 23 #[.int .i64 0, .int .i64 0, .int .i64 0]) (fun i _ => m - (intOf i).toNat)
  case atStart =>
    refine ⟨0, by omega, rfl, by apply_rules [Ext.refl, Ext.alloc], (Blk.new _ _ _).alloc _, ?_⟩
    have := Blk.new (w.alloc (.cells #[.int .i64 x, .int .i64 y, .int .i64 z] 23)) #[.int .i64 0, .int .i64 0, .int .i64 0] 23
    rwa [World.size_alloc] at this
  case round =>
    obtain ⟨k, hk, rfl, E, B0, B1⟩ := hrel
    obtain ⟨p, hpk⟩ : ∃ p, rotZn ⟨x, y, z⟩ k = p := ⟨_, rfl⟩
    have hok : p.ok := hpk ▸ rotZn_ok hp k
    rw [hpk] at B0
    have Hp := Lib.hid hpk
    clear hpk
    obtain ⟨_, ⟨b1, b2⟩, b3, b4⟩ := hok
    have c0 := B0.cell
    have f0 := B0.frozen
    have c1 := B1.cell
    have f1 := B1.frozen
    by_cases hlt : k < m
    · go_wp2
      go_roundw
      case rel =>
        refine ⟨k + 1, by omega, by go_num, ((E.setCell (Nat.le_refl _) _).setCell (Nat.le_refl _) _).setCell (Nat.le_refl _) _, ?_, ((B1.far (by simp) _).far (by simp) _).far (by simp) _⟩
        have hr : rotZn ⟨x, y, z⟩ (k + 1) = ⟨(-p.y), p.x, p.z⟩ := by
          show rotZ (rotZn ⟨x, y, z⟩ k) = _
          rw [Hp.out]
          rfl
        rw [hr]
        have := ((B0.set_ 0 (.int .i64 (-p.y))).set_ 1 (.int .i64 p.x)).set_ 2 (.int .i64 p.z)
        simpa using this
      case measure => simp [intOf]; omega
    · obtain rfl : m = k := by omega
      go_wp2
      refine bodyPost_ret (v := .agg #[.int .i64 p.x, .int .i64 p.y, .int .i64 p.z]) (by simp [results, Try.results79, go_sem, c1]) rfl ⟨by rw [Hp.out], ?_⟩
      exact ((E.setCell (Nat.le_succ _) _).setCell (Nat.le_succ _) _).setCell (Nat.le_succ _) _

set_option maxHeartbeats 1600000 in
theorem aboutX_c (x y z n : Int) (w : World) (h0 : 0 ≤ n) (h1 : n ≤ 1000) (hp : Pt.ok ⟨x, y, z⟩) :
    Calls Try.prog 80 #[.agg #[.int .i64 x, .int .i64 y, .int .i64 z], .int .i64 n] w fun e w' =>
      e = .returned (.agg #[.int .i64 (rotXn ⟨x, y, z⟩ n.toNat).x, .int .i64 (rotXn ⟨x, y, z⟩ n.toNat).y, .int .i64 (rotXn ⟨x, y, z⟩ n.toNat).z]) ∧ Ext w w' := by
  obtain ⟨m, rfl⟩ := Int.eq_ofNat_of_zero_le h0
  rw [Int.toNat_natCast]
  go_enter Try.func80, Try.ntmps80
  go_wp2
  go_loopw [5] (fun i wr => ∃ k : Nat, k ≤ m ∧ i = .int .i64 k ∧ Ext w wr ∧ Blk wr w.heap.size 23 #[.int .i64 (rotXn ⟨x, y, z⟩ k).x, .int .i64 (rotXn ⟨x, y, z⟩ k).y, .int .i64 (rotXn ⟨x, y, z⟩ k).z] ∧
      Blk wr (w.heap.size + 1) 23 #[.int .i64 0, .int .i64 0, .int .i64 0]) (fun i _ => m - (intOf i).toNat)
  case atStart =>
    refine ⟨0, by omega, rfl, by apply_rules [Ext.refl, Ext.alloc], (Blk.new _ _ _).alloc _, ?_⟩
    have := Blk.new (w.alloc (.cells #[.int .i64 x, .int .i64 y, .int .i64 z] 23)) #[.int .i64 0, .int .i64 0, .int .i64 0] 23
    rwa [World.size_alloc] at this
  case round =>
    obtain ⟨k, hk, rfl, E, B0, B1⟩ := hrel
    obtain ⟨p, hpk⟩ : ∃ p, rotXn ⟨x, y, z⟩ k = p := ⟨_, rfl⟩
    have hok : p.ok := hpk ▸ rotXn_ok hp k
    rw [hpk] at B0
    have Hp := Lib.hid hpk
    clear hpk
    obtain ⟨_, ⟨b1, b2⟩, b3, b4⟩ := hok
    have c0 := B0.cell
    have f0 := B0.frozen
    have c1 := B1.cell
    have f1 := B1.frozen
    by_cases hlt : k < m
    · go_wp2
      go_roundw
      case rel =>
        refine ⟨k + 1, by omega, by go_num, ((E.setCell (Nat.le_refl _) _).setCell (Nat.le_refl _) _).setCell (Nat.le_refl _) _, ?_, ((B1.far (by simp) _).far (by simp) _).far (by simp) _⟩
        have hr : rotXn ⟨x, y, z⟩ (k + 1) = ⟨p.x, (-p.z), p.y⟩ := by
          show rotX (rotXn ⟨x, y, z⟩ k) = _
          rw [Hp.out]
          rfl
        rw [hr]
        have := ((B0.set_ 0 (.int .i64 p.x)).set_ 1 (.int .i64 (-p.z))).set_ 2 (.int .i64 p.y)
        simpa using this
      case measure => simp [intOf]; omega
    · obtain rfl : m = k := by omega
      go_wp2
      refine bodyPost_ret (v := .agg #[.int .i64 p.x, .int .i64 p.y, .int .i64 p.z]) (by simp [results, Try.results80, go_sem, c1]) rfl ⟨by rw [Hp.out], ?_⟩
      exact ((E.setCell (Nat.le_succ _) _).setCell (Nat.le_succ _) _).setCell (Nat.le_succ _) _

theorem aboutX_1 (x y z : Int) (w : World) (hp : Pt.ok ⟨x, y, z⟩) :
    Calls Try.prog 80 #[.agg #[.int .i64 x, .int .i64 y, .int .i64 z], .int .i64 1] w fun e w' => e = .returned (.agg #[.int .i64 x, .int .i64 (-z), .int .i64 y]) ∧ Ext w w' :=
  (aboutX_c x y z 1 w (by omega) (by omega) hp).mono fun _ _ ⟨he, hE⟩ => ⟨by rw [he]; rfl, hE⟩
theorem aboutZ_1 (x y z : Int) (w : World) (hp : Pt.ok ⟨x, y, z⟩) :
    Calls Try.prog 79 #[.agg #[.int .i64 x, .int .i64 y, .int .i64 z], .int .i64 1] w fun e w' => e = .returned (.agg #[.int .i64 (-y), .int .i64 x, .int .i64 z]) ∧ Ext w w' :=
  (aboutZ_c x y z 1 w (by omega) (by omega) hp).mono fun _ _ ⟨he, hE⟩ => ⟨by rw [he]; rfl, hE⟩
theorem aboutZ_3 (x y z : Int) (w : World) (hp : Pt.ok ⟨x, y, z⟩) :
    Calls Try.prog 79 #[.agg #[.int .i64 x, .int .i64 y, .int .i64 z], .int .i64 3] w fun e w' => e = .returned (.agg #[.int .i64 y, .int .i64 (-x), .int .i64 z]) ∧ Ext w w' :=
  (aboutZ_c x y z 3 w (by omega) (by omega) hp).mono fun _ _ ⟨he, hE⟩ => ⟨by rw [he]; show Ending.returned (.agg #[.int .i64 (- -y), .int .i64 (-x), .int .i64 z]) = _; rw [Int.neg_neg], hE⟩

theorem turnS_low (p : Pt) (n : Nat) (h : n / 4 < 4) : turnS p n = rotXn (rotZn p (n % 4)) (n / 4) := by
  unfold turnS
  generalize rotZn p (n % 4) = q
  have : n / 4 = 0 ∨ n / 4 = 1 ∨ n / 4 = 2 ∨ n / 4 = 3 := by omega
  rcases this with h | h | h | h <;> rw [h] <;> simp [turnQ, rotXn, rotX]
theorem turnS_four (p : Pt) (n : Nat) (h : n / 4 = 4) : turnS p n = rotZn (rotXn (rotZn p (n % 4)) 1) 1 := by
  unfold turnS
  rw [h]
  simp [turnQ, rotXn, rotX, rotZn, rotZ]
theorem turnS_five (p : Pt) (n : Nat) (h : n / 4 = 5) : turnS p n = rotZn (rotXn (rotZn p (n % 4)) 1) 3 := by
  unfold turnS
  rw [h]
  simp [turnQ, rotXn, rotX, rotZn, rotZ]

set_option maxHeartbeats 1600000 in
theorem turned_c (x y z : Int) (n : Nat) (w : World) (hn : n < 24) (hp : Pt.ok ⟨x, y, z⟩) :
    Calls Try.prog 46 #[.agg #[.int .i64 x, .int .i64 y, .int .i64 z], .int .i64 n] w fun e w' =>
      e = .returned (.agg #[.int .i64 (turnS ⟨x, y, z⟩ n).x, .int .i64 (turnS ⟨x, y, z⟩ n).y, .int .i64 (turnS ⟨x, y, z⟩ n).z]) ∧ Ext w w' := by
  have e1 : ((n : Int) % 4).toNat = n % 4 := by omega
  have e2 : ((n : Int) / 4).toNat = n / 4 := by omega
  have H1 := Lib.hid e1
  have H2 := Lib.hid e2
  clear e1 e2
  obtain ⟨W, hW, E, ba, bb, hz⟩ := boxes2 w #[.int .i64 x, .int .i64 y, .int .i64 z] #[.int .i64 0, .int .i64 0, .int .i64 0] 23 23
  have B0 : Blk W w.heap.size 23 #[.int .i64 x, .int .i64 y, .int .i64 z] := by rw [← hW]; exact (Blk.new _ _ _).alloc _
  have B1 : Blk W (w.heap.size + 1) 23 #[.int .i64 0, .int .i64 0, .int .i64 0] := by
    rw [← hW]
    have := Blk.new (w.alloc (.cells #[.int .i64 x, .int .i64 y, .int .i64 z] 23)) #[.int .i64 0, .int .i64 0, .int .i64 0] 23
    rwa [World.size_alloc] at this
  go_enter Try.func46, Try.ntmps46
  go_wp2_with fail
  refine (aboutZ_c x y z _ _ (by omega) (by omega) hp).mono ?_
  rintro e w1 ⟨rfl, E1⟩
  have hp1 := rotZn_ok hp (n % 4)
  rw [H1.out]
  obtain ⟨p, hpk⟩ : ∃ p, rotZn ⟨x, y, z⟩ (n % 4) = p := ⟨_, rfl⟩
  rw [hpk] at hp1 ⊢
  have Hp := Lib.hid hpk
  clear hpk
  have B01 := B0.ext E1
  have B11 := B1.ext E1
  have c0 := B01.cell
  have f0 := B01.frozen
  obtain ⟨w2, hw2, B02, far2, ext2, _⟩ := B01.store3 (.int .i64 p.x) (.int .i64 p.y) (.int .i64 p.z)
  have B12 := far2 _ _ _ (by omega) B11
  have E2 := ext2 w (E.trans E1) (Nat.le_refl _)
  clear far2 ext2
  have c2 := B02.cell
  by_cases h4 : n / 4 < 4
  · go_wp2_with fail
    refine (aboutX_c p.x p.y p.z _ _ (by omega) (by omega) hp1).mono ?_
    rintro e w3 ⟨rfl, E3⟩
    rw [H2.out]
    have Hf := Lib.hid (turnS_low ⟨x, y, z⟩ n h4)
    obtain ⟨q, hq⟩ : ∃ q, rotXn ⟨p.x, p.y, p.z⟩ (n / 4) = q := ⟨_, rfl⟩
    have Hq := Lib.hid hq
    rw [hq]
    clear hq
    have B13 := B12.ext E3
    have c3 := B13.cell
    have f3 := B13.frozen
    go_wp2_with fail
    refine bodyPost_ret (v := .agg #[.int .i64 q.x, .int .i64 q.y, .int .i64 q.z]) (by simp [results, Try.results46, go_sem, c3]) rfl ⟨by rw [Hf.out, Hp.out, show rotXn p (n / 4) = q from Hq.out], ?_⟩
    exact (((E2.trans E3).setCell (Nat.le_succ _) _).setCell (Nat.le_succ _) _).setCell (Nat.le_succ _) _
  · go_wp2_with fail
    refine (aboutX_1 p.x p.y p.z _ hp1).mono ?_
    rintro e w3 ⟨rfl, E3⟩
    have hp2 : Pt.ok ⟨p.x, -p.z, p.y⟩ := ⟨hp1.1, hp1.2.2.neg, hp1.2.1⟩
    have B03 := B02.ext E3
    have B13 := B12.ext E3
    have c3 := B03.cell
    have f3 := B03.frozen
    obtain ⟨w4, hw4, B04, far4, ext4, _⟩ := B03.store3 (.int .i64 p.x) (.int .i64 (-p.z)) (.int .i64 p.y)
    have B14 := far4 _ _ _ (by omega) B13
    have E4 := ext4 w (E2.trans E3) (Nat.le_refl _)
    clear far4 ext4
    have c4 := B04.cell
    by_cases h5 : n / 4 = 4
    · have Hf := Lib.hid (turnS_four ⟨x, y, z⟩ n h5)
      have hi : (n : Int) / 4 = 4 := by omega
      clear h5 h4
      go_wp2_with fail
      refine (aboutZ_1 p.x (-p.z) p.y _ hp2).mono ?_
      rintro e w5 ⟨rfl, E5⟩
      have B15 := B14.ext E5
      have c5 := B15.cell
      have f5 := B15.frozen
      go_wp2_with fail
      refine bodyPost_ret (v := .agg #[.int .i64 (- -p.z), .int .i64 p.x, .int .i64 p.y]) (by simp [results, Try.results46, go_sem, c5]) rfl ⟨by rw [Hf.out, Hp.out]; rfl, ?_⟩
      exact (((E4.trans E5).setCell (Nat.le_succ _) _).setCell (Nat.le_succ _) _).setCell (Nat.le_succ _) _
    · have Hf := Lib.hid (turnS_five ⟨x, y, z⟩ n (by omega))
      have hi : (n : Int) / 4 = 5 := by omega
      clear h5 h4
      go_wp2_with fail
      refine (aboutZ_3 p.x (-p.z) p.y _ hp2).mono ?_
      rintro e w5 ⟨rfl, E5⟩
      have B15 := B14.ext E5
      have c5 := B15.cell
      have f5 := B15.frozen
      go_wp2_with fail
      refine bodyPost_ret (v := .agg #[.int .i64 (-p.z), .int .i64 (-p.x), .int .i64 p.y]) (by simp [results, Try.results46, go_sem, c5]) rfl ⟨?_, ?_⟩
      · rw [Hf.out, Hp.out]
        show _ = Ending.returned (.agg #[.int .i64 (- -(-p.z)), .int .i64 (-p.x), .int .i64 p.y])
        rw [Int.neg_neg]
      exact (((E4.trans E5).setCell (Nat.le_succ _) _).setCell (Nat.le_succ _) _).setCell (Nat.le_succ _) _
end Go.Proofs.Ytenigkngmdofiaa

namespace Go.Proofs.Ytenigkngmdofiaa
open Go.RowKit

/-- The slice '.slice A n cap' reads, in w, as the rows of sz cells each. -/
structure SliceIs (w : World) (A : Option Addr) (n cap sz : Nat) (rows : List (List Value)) : Prop where
  len : rows.length = n
  le : n ≤ cap
  small : cap ≤ maxLen
  wide : ∀ r ∈ rows, r.length = sz
  cells : 0 < n → ∃ b off, A = some ⟨b, off, none⟩ ∧ b < w.heap.size ∧ ∀ i r, rows[i]? = some r → ∀ j u, r[j]? = some u → w.cell? ⟨b, off + i * sz + j, none⟩ = some u

theorem SliceIs.ext {w w' : World} {A : Option Addr} {n cap sz : Nat} {rows : List (List Value)} (h : SliceIs w A n cap sz rows) (e : Ext w w') : SliceIs w' A n cap sz rows := by
  obtain ⟨h1, h2, h3, h4, h5⟩ := h
  refine ⟨h1, h2, h3, h4, fun hn => ?_⟩
  obtain ⟨b, off, hA, hb, hc⟩ := h5 hn
  exact ⟨b, off, hA, Nat.lt_of_lt_of_le hb e.size, fun i r hr j u hu => e.cell (hc i r hr j u hu)⟩

end Go.Proofs.Ytenigkngmdofiaa

namespace Go.Proofs.Ytenigkngmdofiaa
open Go.RowKit

def inB (lo hi n : Int) : Bool := decide (lo ≤ n) && decide (n ≤ hi)
theorem inB_iff {lo hi n : Int} : inB lo hi n = true ↔ lo ≤ n ∧ n ≤ hi := by simp [inB]
theorem inB_not {lo hi n : Int} : inB lo hi n = false ↔ ¬ (lo ≤ n ∧ n ≤ hi) := by
  rw [← inB_iff]; simp
/-- A cell's coordinates are in a range. -/
def nearB (p : Pt) (lo hi : Int) : Bool := inB lo hi p.x && (inB lo hi p.y && inB lo hi p.z)
theorem nearB_iff {p : Pt} {lo hi : Int} : nearB p lo hi = true ↔ (lo ≤ p.x ∧ p.x ≤ hi) ∧ (lo ≤ p.y ∧ p.y ≤ hi) ∧ (lo ≤ p.z ∧ p.z ≤ hi) := by
  simp [nearB, inB]
theorem nearB_not {p : Pt} {lo hi : Int} : nearB p lo hi = false ↔ ¬ ((lo ≤ p.x ∧ p.x ≤ hi) ∧ (lo ≤ p.y ∧ p.y ≤ hi) ∧ (lo ≤ p.z ∧ p.z ≤ hi)) := by
  rw [← nearB_iff]; simp

set_option maxHeartbeats 400000 in
theorem within_c (n lo hi : Int) (w : World) :
    Calls Try.prog 49 #[.int .i64 n, .int .i64 lo, .int .i64 hi] w fun e w' => e = .returned (.bool (inB lo hi n)) ∧ w = w' := by
  by_cases h : lo ≤ n
  · go_enter Try.func49, Try.ntmps49
    go_wp2
    go_ret
    exact ⟨by simp [h, inB], rfl⟩
  · go_enter Try.func49, Try.ntmps49
    go_wp2
    go_ret
    exact ⟨by simp [inB]; omega, rfl⟩

set_option maxHeartbeats 400000 in
theorem risTurn_c (n : Int) (w : World) :
    Calls Try.prog 45 #[.int .i64 n] w fun e w' => e = .returned (.bool (inB 0 23 n)) ∧ w = w' := by
  go_enter Try.func45, Try.ntmps45
  go_wp2_with (go_at_call 49; refine (within_c _ _ _ _).mono ?_; rintro e w' ⟨rfl, rfl⟩)
  go_ret
  exact ⟨rfl, rfl⟩

set_option maxHeartbeats 400000 in
theorem rnear_c (x y z lo hi : Int) (w : World) :
    Calls Try.prog 44 #[.agg #[.int .i64 x, .int .i64 y, .int .i64 z], .int .i64 lo, .int .i64 hi] w fun e w' => e = .returned (.bool (nearB ⟨x, y, z⟩ lo hi)) ∧ Ext w w' := by
  unfold nearB
  cases h1 : inB lo hi x
  · go_enter Try.func44, Try.ntmps44
    go_wp2_with (go_at_call 49; refine (within_c _ _ _ _).mono ?_; rintro e w' ⟨rfl, rfl⟩)
    go_ret
    exact ⟨rfl, by apply_rules [Ext.refl, Ext.alloc]⟩
  · cases h2 : inB lo hi y
    · go_enter Try.func44, Try.ntmps44
      go_wp2_with (go_at_call 49; refine (within_c _ _ _ _).mono ?_; rintro e w' ⟨rfl, rfl⟩)
      go_ret
      exact ⟨rfl, by apply_rules [Ext.refl, Ext.alloc]⟩
    · go_enter Try.func44, Try.ntmps44
      go_wp2_with (go_at_call 49; refine (within_c _ _ _ _).mono ?_; rintro e w' ⟨rfl, rfl⟩)
      go_ret
      exact ⟨rfl, by apply_rules [Ext.refl, Ext.alloc]⟩

theorem ret_bool {a b : Bool} (h : a = true ↔ b = true) : Ending.returned (.bool a) = .returned (.bool b) := by rw [Bool.eq_iff_iff.2 h]

set_option maxHeartbeats 800000 in
theorem near_c (x y z lo hi : Int) (w : World) :
    Calls Try.prog 41 #[.agg #[.int .i64 x, .int .i64 y, .int .i64 z], .int .i64 lo, .int .i64 hi] w fun e w' => e = .returned (.bool (nearB ⟨x, y, z⟩ lo hi)) ∧ Ext w w' := by
  by_cases h1 : lo ≤ min (min x y) z
  · go_enter Try.func41, Try.ntmps41
    go_wp2
    all_goals
      go_ret
      refine ⟨ret_bool ?_, by apply_rules [Ext.refl, Ext.alloc]⟩
      rw [nearB_iff]
      simp
      omega
  · go_enter Try.func41, Try.ntmps41
    go_wp2
    all_goals
      go_ret
      refine ⟨ret_bool ?_, by apply_rules [Ext.refl, Ext.alloc]⟩
      rw [nearB_iff]
      simp
      try omega

def allTurn (xs : List Int) : Bool := xs.all fun n => inB 0 23 n
set_option maxHeartbeats 800000 in
theorem isTurn_c (A : Option Addr) (cap : Nat) (xs : List Int) (w : World) (hs : SliceIs w A xs.length cap 1 (xs.map fun n => [.int .i64 n])) :
    Calls Try.prog 42 #[.slice A xs.length cap] w fun e w' => e = .returned (.bool (allTurn xs)) ∧ w = w' := by
  have hl : xs.length ≤ 9223372036854775807 := by have := hs.le; have := hs.small; unfold maxLen at this; omega
  go_enter Try.func42, Try.ntmps42
  go_wp2
  go_loop [7] (fun i => ∃ k : Nat, k ≤ xs.length ∧ i = .int .i64 k ∧ ∀ j, j < k → inB 0 23 (xs.getD j 0) = true) (fun i => xs.length - (intOf i).toNat)
  case atStart => exact ⟨0, by omega, rfl, fun j hj => by omega⟩
  case round =>
    obtain ⟨k, hk, rfl, hj⟩ := hrel
    have Hj := Lib.hid hj
    clear hj
    by_cases hlt : k < xs.length
    · obtain ⟨b, off, rfl, hb, hc⟩ := hs.cells (by omega)
      obtain ⟨n, hn⟩ : ∃ n, xs[k]? = some n := ⟨_, List.getElem?_eq_getElem hlt⟩
      have hc0 := hc k [.int .i64 n] (by rw [List.getElem?_map, hn]; rfl) 0 _ rfl
      have hgd : xs.getD k 0 = n := by simp [hn]
      have Hgd := Lib.hid hgd
      have hmem : n ∈ xs := List.mem_of_getElem? hn
      clear hgd hn hc
      simp only [Nat.mul_one, Nat.add_zero] at hc0
      by_cases h1 : n < 0
      · have ha : allTurn xs = false := by
          rw [allTurn, List.all_eq_false]
          exact ⟨n, hmem, by simp [inB]; omega⟩
        have Ha := Lib.hid ha
        clear ha
        go_wp2
        go_ret
        exact ⟨by rw [Ha.out]; rfl, rfl⟩
      · by_cases h2 : 24 ≤ n
        · have ha : allTurn xs = false := by
            rw [allTurn, List.all_eq_false]
            exact ⟨n, hmem, by simp [inB]; omega⟩
          have Ha := Lib.hid ha
          clear ha
          go_wp2
          go_ret
          exact ⟨by rw [Ha.out]; rfl, rfl⟩
        · go_wp2
          go_round
          case rel =>
            refine ⟨k + 1, by omega, by go_num, fun j hj => ?_⟩
            rcases Nat.lt_or_ge j k with h | h
            · exact Hj.out j h
            · obtain rfl : j = k := by omega
              rw [Hgd.out]
              exact inB_iff.2 ⟨by omega, by omega⟩
          case measure => simp [intOf]; omega
    · obtain rfl : xs.length = k := by omega
      have ha : allTurn xs = true := by
        rw [allTurn, List.all_eq_true]
        intro n hn
        obtain ⟨i, hi⟩ := List.getElem?_of_mem hn
        have hil : i < xs.length := by
          rcases Nat.lt_or_ge i xs.length with h | h
          · exact h
          · rw [List.getElem?_eq_none h] at hi; cases hi
        have := Hj.out i hil
        simpa [hi] using this
      have Ha := Lib.hid ha
      clear ha
      go_wp2
      go_ret
      exact ⟨by rw [Ha.out]; rfl, rfl⟩
end Go.Proofs.Ytenigkngmdofiaa
