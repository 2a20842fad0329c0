/- Worlds that have only grown (new blocks, draws), and the one walk of a drawn region whose callees only make new blocks. -/
import Derived.Test.YtpikemglnnjemaaRows
import Derived.WalkKit
import Derived.WalkSpells
import Derived.WalkLawsBesides
import Derived.Deep.QuietTactic
import Derived.BigQuiet
import Derived.Lib.Hide
namespace Go.Proofs.Ytpikemglnnjemaa
open Go.RowKit

/-- What a world has grown by: new blocks; the count of draws is whatever it is. -/
structure Growth where
  bs : Array Obj
  n : Nat
instance : Inhabited Growth := ⟨⟨#[], 0⟩⟩
/-- w with some blocks more, and some number of draws. -/
def grow (w : World) (x : Growth) : World := { w with heap := w.heap ++ x.bs, drawn := x.n }

theorem grow_size (w : World) (x : Growth) : (grow w x).heap.size = w.heap.size + x.bs.size := by simp [grow]

theorem grow_below (w : World) (x : Growth) : Below w.heap.size w (grow w x) :=
  ⟨rfl, rfl, rfl, by simp [grow], fun k hk => by simp [grow, Array.getElem?_append, hk]⟩

theorem grow_of_below {w w' : World} (h : Below w.heap.size w w') : ∃ x : Growth, w' = grow w x := by
  obtain ⟨h1, h2, h3, h4, h5⟩ := h
  obtain ⟨heap, tape, drawn, os, output⟩ := w
  obtain ⟨heap', tape', drawn', os', output'⟩ := w'
  simp only at h1 h2 h3 h4 h5
  subst h1 h2 h3
  refine ⟨⟨heap'.extract heap.size heap'.size, drawn'⟩, ?_⟩
  simp only [grow, World.mk.injEq, and_true, true_and]
  apply Array.ext_getElem?
  intro i
  rw [Array.getElem?_append]
  split
  · rename_i hi
    exact h5 i hi
  · rename_i hi
    rw [Array.getElem?_extract]
    split
    · congr 1
      omega
    · rw [Array.getElem?_eq_none]
      omega

theorem cell?_grow (w : World) (x : Growth) (a : Addr) (h : (w.cell? a).isSome = true) : (grow w x).cell? a = w.cell? a := by
  obtain ⟨u, hu⟩ := Option.isSome_iff_exists.1 h
  exact (grow_below w x).cell (World.block_lt_of_cell? w a hu)

attribute [go_sem] cell?_grow
theorem frozen?_grow (w : World) (x : Growth) (a : Addr) (h : a.block < w.heap.size) : (grow w x).frozen? a = w.frozen? a :=
  (grow_below w x).frozen h

theorem drew_grow (w : World) : w.drew = grow w ⟨#[], w.drawn + 1⟩ := by
  show ({ w with drawn := w.drawn + 1 } : World) = _
  simp [grow]
theorem drewN_grow (w : World) (n : Nat) : w.drewN n = grow w ⟨#[], w.drawn + n⟩ := by
  show ({ w with drawn := w.drawn + n } : World) = _
  simp [grow]

theorem below_of_grow {w w' : World} {x : Growth} (h : Below (grow w x).heap.size (grow w x) w') : Below w.heap.size w w' :=
  (grow_below w x).trans (h.mono (by simp [grow]))

/-- A callee that only makes new blocks, met in a world that has only grown. -/
theorem quiet_grow {P : Program} {f : FuncId} {args : Array Value} {w : World} {x : Growth} {v : Value}
    (h : Calls P f args (grow w x) fun e w' => e = .returned v ∧ Below (grow w x).heap.size (grow w x) w') :
    Calls P f args (grow w x) fun e w' => e = .returned v ∧ ∃ x', w' = grow w x' :=
  h.mono fun _ _ ⟨he, hb⟩ => ⟨he, grow_of_below (below_of_grow hb)⟩
theorem quiet_grow_same {P : Program} {f : FuncId} {args : Array Value} {w : World} {x : Growth} {v : Value}
    (h : Calls P f args (grow w x) fun e w' => e = .returned v ∧ grow w x = w') :
    Calls P f args (grow w x) fun e w' => e = .returned v ∧ ∃ x', w' = grow w x' :=
  h.mono fun _ _ ⟨he, hb⟩ => ⟨he, x, hb.symm⟩

theorem wp_region_grow {P : Program} {id : Nat} {Q : Exit → Act → World → Prop} {a : Act} {w : World} {l : List Oper} (hm : P.follows .mixedOrders = true) (hB : Region.lexB .any l.toArray = true)
    (h : wpQuiet P l.toArray (fun w' => ∃ x, w' = grow w x) (fun a' => ∀ w', (∃ x, w' = grow w x) → Q .normal a' w') l a) : (Code.region id l.toArray true).wp P Q a w :=
  wp_region_quiet (C := fun w' => ∃ x, w' = grow w x) hm hB ⟨⟨#[], w.drawn + 1⟩, by simp [grow]⟩ (by simpa using h)

/-- Nothing of what was there in a has turned in w; w may have more blocks and more draws. -/
def Ext (a w : World) : Prop := Below a.heap.size a w
theorem Ext.refl (w : World) : Ext w w := Below.refl _ _
theorem Ext.trans {a b c : World} (h : Ext a b) (k : Ext b c) : Ext a c := Below.trans h (k.mono h.size)
theorem Ext.drew {a w : World} (h : Ext a w) : Ext a w.drew := Below.drew h
theorem Ext.drewN {a w : World} (h : Ext a w) (n : Nat) : Ext a (w.drewN n) := h.trans ⟨rfl, rfl, rfl, Nat.le_refl _, fun _ _ => rfl⟩
theorem Ext.alloc {a w : World} (h : Ext a w) (o : Obj) : Ext a (w.alloc o) := Below.alloc h h.size o
theorem Ext.setCell {a w : World} (h : Ext a w) {p : Addr} (hp : a.heap.size ≤ p.block) (u : Value) : Ext a (w.setCell p u) := Below.setCell h hp u
theorem Ext.grown {a w w' : World} {row : Option Nat} (h : Ext a w) (hg : w.grownBy w' row) (hr : ∀ k, row = some k → a.heap.size ≤ k) : Ext a w' := Below.grown h hg h.size hr
theorem Ext.grow {a w : World} (h : Ext a w) (x : Growth) : Ext a (Go.Proofs.Ytpikemglnnjemaa.grow w x) := h.trans (grow_below w x)
theorem Ext.cell {w w' : World} (h : Ext w w') {p : Addr} {v : Value} (hc : w.cell? p = some v) : w'.cell? p = some v := by
  rw [Below.cell h (World.block_lt_of_cell? w p hc)]; exact hc
theorem Ext.size {w w' : World} (h : Ext w w') : w.heap.size ≤ w'.heap.size := Below.size h
theorem Ext.frozen {w w' : World} (h : Ext w w') {p : Addr} (hp : p.block < w.heap.size) : w'.frozen? p = w.frozen? p := Below.frozen h hp
theorem grow_of_ext {w w' : World} (h : Ext w w') : ∃ x : Growth, w' = Go.Proofs.Ytpikemglnnjemaa.grow w x := grow_of_below h
theorem quiet_ext {P : Program} {f : FuncId} {args : Array Value} {w : World} {x : Growth} {v : Value}
    (h : Calls P f args (Go.Proofs.Ytpikemglnnjemaa.grow w x) fun e w' => e = .returned v ∧ Ext (Go.Proofs.Ytpikemglnnjemaa.grow w x) w') :
    Calls P f args (Go.Proofs.Ytpikemglnnjemaa.grow w x) fun e w' => e = .returned v ∧ ∃ x', w' = Go.Proofs.Ytpikemglnnjemaa.grow w x' := quiet_grow h

theorem cell_new (w : World) (cs : Array Value) (t : TypeId) (i : Nat) : (w.alloc (.cells cs t)).cell? ⟨w.heap.size, i, none⟩ = cs[i]? := by
  rw [World.cell?_alloc_at _ _ _ _ rfl]
theorem cell_old (w : World) (o : Obj) (a : Addr) (h : a.block < w.heap.size) : (w.alloc o).cell? a = w.cell? a := World.cell?_alloc_lt _ _ _ h
theorem boxes1 (w : World) (ca : Array Value) (ta : TypeId) : ∃ W, w.alloc (.cells ca ta) = W ∧ Ext w W ∧ (∀ i, W.cell? ⟨w.heap.size, i, none⟩ = ca[i]?) ∧ W.heap.size = w.heap.size + 1 :=
  ⟨_, rfl, (Ext.refl w).alloc _, fun i => cell_new _ _ _ _, by simp⟩
theorem boxes2 (w : World) (ca cb : Array Value) (ta tb : TypeId) : ∃ W, (w.alloc (.cells ca ta)).alloc (.cells cb tb) = W ∧ Ext w W ∧ (∀ i, W.cell? ⟨w.heap.size, i, none⟩ = ca[i]?) ∧
    (∀ i, W.cell? ⟨w.heap.size + 1, i, none⟩ = cb[i]?) ∧ W.heap.size = w.heap.size + 2 := by
  refine ⟨_, rfl, ((Ext.refl w).alloc _).alloc _, fun i => ?_, fun i => ?_, by simp⟩
  · rw [cell_old _ _ _ (by simp), cell_new]
  · have := cell_new (w.alloc (.cells ca ta)) cb tb i
    rwa [World.size_alloc] at this
theorem ret_int {k : IntKind} {a b : Int} (h : a = b) : Ending.returned (.int k a) = .returned (.int k b) := by rw [h]
theorem quiet_left {P : Program} {f : FuncId} {args : Array Value} {w : World} {n : Nat} {v : Value}
    (h : Calls P f args (w.drewN n) fun e w' => e = .returned v ∧ w.drewN n = w') : Calls P f args (w.drewN n) fun e w'' => e = .returned v ∧ ∃ m, w'' = w.drewN m :=
  h.mono fun _ _ ⟨he, hm⟩ => ⟨he, n, hm.symm⟩
end Go.Proofs.Ytpikemglnnjemaa
