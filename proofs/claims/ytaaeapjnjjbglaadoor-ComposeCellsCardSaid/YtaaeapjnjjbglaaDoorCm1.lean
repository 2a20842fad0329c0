/- Worlds that have only grown (new blocks, draws), and the one walk of a drawn region whose callees only make new blocks. Contracts of the small number functions of layer 7: from, within. Slices that read as rows of cells. A block that is known whole. Shapes; how many cells are full. Which shapes are valid: the program's and the reference's. CheckShape and ValidShape. A drawn region whose first n operations are quiet in a class of worlds, and whose other operations come one behind the other, behind all of those: one walk of the text's order serves every order. Plates: a list of them in memory, and which lists are valid. Compare and Or of the library. What a world that has only grown keeps, as rules for the walk. The board: the numbers of full cells; at. The set of the cells of a block. -/
import Derived.Test.YtaaeapjnjjbglaaDoorRows
import Derived.WalkKit
import Derived.WalkSpells
import Derived.WalkLawsBesides
import Derived.Deep.QuietTactic
import Derived.BigQuiet
import Derived.Lib.Hide
import Derived.StillTail

namespace Go.Proofs.YtaaeapjnjjbglaaDoor
open Go.RowKit

/-- What a world has grown by: new blocks; the count of draws is whatever it is. -/
structure Growth where
  bs : Array Obj
  n : Nat
instance : Inhabited Growth := ⟨⟨#[], 0⟩⟩
/-- w with some blocks more, and some number of draws. -/
def grow (w : World) (x : Growth) : World := { w with heap := w.heap ++ x.bs, drawn := x.n }

theorem grow_size (w : World) (x : Growth) : (grow w x).heap.size = w.heap.size + x.bs.size := by simp [grow]

theorem grow_below (w : World) (x : Growth) : Below w.heap.size w (grow w x) :=
  ⟨rfl, rfl, rfl, by simp [grow], fun k hk => by simp [grow, Array.getElem?_append, hk]⟩

theorem grow_of_below {w w' : World} (h : Below w.heap.size w w') : ∃ x : Growth, w' = grow w x := by
  obtain ⟨h1, h2, h3, h4, h5⟩ := h
  obtain ⟨heap, tape, drawn, os, output⟩ := w
  obtain ⟨heap', tape', drawn', os', output'⟩ := w'
  simp only at h1 h2 h3 h4 h5
  subst h1 h2 h3
  refine ⟨⟨heap'.extract heap.size heap'.size, drawn'⟩, ?_⟩
  simp only [grow, World.mk.injEq, and_true]
  apply Array.ext_getElem?
  intro i
  rw [Array.getElem?_append]
  split
  · rename_i hi
    exact h5 i hi
  · rename_i hi
    rw [Array.getElem?_extract]
    split
    · congr 1
      omega
    · rw [Array.getElem?_eq_none]
      omega

theorem cell?_grow (w : World) (x : Growth) (a : Addr) (h : (w.cell? a).isSome = true) : (grow w x).cell? a = w.cell? a := by
  obtain ⟨u, hu⟩ := Option.isSome_iff_exists.1 h
  exact (grow_below w x).cell (World.block_lt_of_cell? w a hu)

attribute [go_sem] cell?_grow
theorem frozen?_grow (w : World) (x : Growth) (a : Addr) (h : a.block < w.heap.size) : (grow w x).frozen? a = w.frozen? a :=
  (grow_below w x).frozen h

theorem drew_grow (w : World) : w.drew = grow w ⟨#[], w.drawn + 1⟩ := by
  show ({ w with drawn := w.drawn + 1 } : World) = _
  simp [grow]
theorem drewN_grow (w : World) (n : Nat) : w.drewN n = grow w ⟨#[], w.drawn + n⟩ := by
  show ({ w with drawn := w.drawn + n } : World) = _
  simp [grow]

theorem below_of_grow {w w' : World} {x : Growth} (h : Below (grow w x).heap.size (grow w x) w') : Below w.heap.size w w' :=
  (grow_below w x).trans (h.mono (by simp [grow]))

/-- A callee that only makes new blocks, met in a world that has only grown. -/
theorem quiet_grow {P : Program} {f : FuncId} {args : Array Value} {w : World} {x : Growth} {v : Value}
    (h : Calls P f args (grow w x) fun e w' => e = .returned v ∧ Below (grow w x).heap.size (grow w x) w') :
    Calls P f args (grow w x) fun e w' => e = .returned v ∧ ∃ x', w' = grow w x' :=
  h.mono fun _ _ ⟨he, hb⟩ => ⟨he, grow_of_below (below_of_grow hb)⟩
theorem quiet_grow_same {P : Program} {f : FuncId} {args : Array Value} {w : World} {x : Growth} {v : Value}
    (h : Calls P f args (grow w x) fun e w' => e = .returned v ∧ grow w x = w') :
    Calls P f args (grow w x) fun e w' => e = .returned v ∧ ∃ x', w' = grow w x' :=
  h.mono fun _ _ ⟨he, hb⟩ => ⟨he, x, hb.symm⟩

theorem wp_region_grow {P : Program} {id : Nat} {Q : Exit → Act → World → Prop} {a : Act} {w : World} {l : List Oper} (hm : P.follows .mixedOrders = true) (hB : Region.lexB .any l.toArray = true)
    (h : wpQuiet P l.toArray (fun w' => ∃ x, w' = grow w x) (fun a' => ∀ w', (∃ x, w' = grow w x) → Q .normal a' w') l a) : (Code.region id l.toArray true).wp P Q a w :=
  wp_region_quiet (C := fun w' => ∃ x, w' = grow w x) hm hB ⟨⟨#[], w.drawn + 1⟩, by simp [grow]⟩ (by simpa using h)

/-- Nothing of what was there in a has turned in w; w may have more blocks and more draws. -/
def Ext (a w : World) : Prop := Below a.heap.size a w
theorem Ext.refl (w : World) : Ext w w := Below.refl _ _
theorem Ext.trans {a b c : World} (h : Ext a b) (k : Ext b c) : Ext a c := Below.trans h (k.mono h.size)
theorem Ext.drew {a w : World} (h : Ext a w) : Ext a w.drew := Below.drew h
theorem Ext.drewN {a w : World} (h : Ext a w) (n : Nat) : Ext a (w.drewN n) := h.trans ⟨rfl, rfl, rfl, Nat.le_refl _, fun _ _ => rfl⟩
theorem Ext.alloc {a w : World} (h : Ext a w) (o : Obj) : Ext a (w.alloc o) := Below.alloc h h.size o
theorem Ext.setCell {a w : World} (h : Ext a w) {p : Addr} (hp : a.heap.size ≤ p.block) (u : Value) : Ext a (w.setCell p u) := Below.setCell h hp u
theorem Ext.grown {a w w' : World} {row : Option Nat} (h : Ext a w) (hg : w.grownBy w' row) (hr : ∀ k, row = some k → a.heap.size ≤ k) : Ext a w' := Below.grown h hg h.size hr
theorem Ext.grow {a w : World} (h : Ext a w) (x : Growth) : Ext a (Go.Proofs.YtaaeapjnjjbglaaDoor.grow w x) := h.trans (grow_below w x)
theorem Ext.cell {w w' : World} (h : Ext w w') {p : Addr} {v : Value} (hc : w.cell? p = some v) : w'.cell? p = some v := by
  rw [Below.cell h (World.block_lt_of_cell? w p hc)]; exact hc
theorem Ext.size {w w' : World} (h : Ext w w') : w.heap.size ≤ w'.heap.size := Below.size h
theorem Ext.frozen {w w' : World} (h : Ext w w') {p : Addr} (hp : p.block < w.heap.size) : w'.frozen? p = w.frozen? p := Below.frozen h hp
theorem grow_of_ext {w w' : World} (h : Ext w w') : ∃ x : Growth, w' = Go.Proofs.YtaaeapjnjjbglaaDoor.grow w x := grow_of_below h
theorem quiet_ext {P : Program} {f : FuncId} {args : Array Value} {w : World} {x : Growth} {v : Value}
    (h : Calls P f args (Go.Proofs.YtaaeapjnjjbglaaDoor.grow w x) fun e w' => e = .returned v ∧ Ext (Go.Proofs.YtaaeapjnjjbglaaDoor.grow w x) w') :
    Calls P f args (Go.Proofs.YtaaeapjnjjbglaaDoor.grow w x) fun e w' => e = .returned v ∧ ∃ x', w' = Go.Proofs.YtaaeapjnjjbglaaDoor.grow w x' := quiet_grow h

theorem cell_new (w : World) (cs : Array Value) (t : TypeId) (i : Nat) : (w.alloc (.cells cs t)).cell? ⟨w.heap.size, i, none⟩ = cs[i]? := by
  rw [World.cell?_alloc_at _ _ _ _ rfl]
theorem cell_old (w : World) (o : Obj) (a : Addr) (h : a.block < w.heap.size) : (w.alloc o).cell? a = w.cell? a := World.cell?_alloc_lt _ _ _ h
theorem boxes1 (w : World) (ca : Array Value) (ta : TypeId) : ∃ W, w.alloc (.cells ca ta) = W ∧ Ext w W ∧ (∀ i, W.cell? ⟨w.heap.size, i, none⟩ = ca[i]?) ∧ W.heap.size = w.heap.size + 1 :=
  ⟨_, rfl, (Ext.refl w).alloc _, fun i => cell_new _ _ _ _, by simp⟩
theorem boxes2 (w : World) (ca cb : Array Value) (ta tb : TypeId) : ∃ W, (w.alloc (.cells ca ta)).alloc (.cells cb tb) = W ∧ Ext w W ∧ (∀ i, W.cell? ⟨w.heap.size, i, none⟩ = ca[i]?) ∧
    (∀ i, W.cell? ⟨w.heap.size + 1, i, none⟩ = cb[i]?) ∧ W.heap.size = w.heap.size + 2 := by
  refine ⟨_, rfl, ((Ext.refl w).alloc _).alloc _, fun i => ?_, fun i => ?_, by simp⟩
  · rw [cell_old _ _ _ (by simp), cell_new]
  · have := cell_new (w.alloc (.cells ca ta)) cb tb i
    rwa [World.size_alloc] at this
theorem ret_int {k : IntKind} {a b : Int} (h : a = b) : Ending.returned (.int k a) = .returned (.int k b) := by rw [h]
theorem quiet_left {P : Program} {f : FuncId} {args : Array Value} {w : World} {n : Nat} {v : Value}
    (h : Calls P f args (w.drewN n) fun e w' => e = .returned v ∧ w.drewN n = w') : Calls P f args (w.drewN n) fun e w'' => e = .returned v ∧ ∃ m, w'' = w.drewN m :=
  h.mono fun _ _ ⟨he, hm⟩ => ⟨he, n, hm.symm⟩
end Go.Proofs.YtaaeapjnjjbglaaDoor

namespace Go.Proofs.YtaaeapjnjjbglaaDoor
open Go.RowKit

def inB (lo hi n : Int) : Bool := decide (lo ≤ n) && decide (n ≤ hi)
theorem inB_iff {lo hi n : Int} : inB lo hi n = true ↔ lo ≤ n ∧ n ≤ hi := by simp [inB]
theorem inB_not {lo hi n : Int} : inB lo hi n = false ↔ ¬ (lo ≤ n ∧ n ≤ hi) := by
  rw [← inB_iff]; simp

set_option maxHeartbeats 400000 in
theorem from_c (lo hi n : Int) (w : World) :
    Calls Tryd.prog 57 #[.int .i64 lo, .int .i64 hi, .int .i64 n] w fun e w' => e = .returned (.bool (inB lo hi n)) ∧ w = w' := by
  by_cases h : lo ≤ n
  · go_enter Tryd.func57, Tryd.ntmps57
    go_wp2
    go_ret
    exact ⟨by simp [h, inB], rfl⟩
  · go_enter Tryd.func57, Tryd.ntmps57
    go_wp2
    go_ret
    exact ⟨by simp [inB]; omega, rfl⟩

set_option maxHeartbeats 400000 in
theorem within_c (n lo hi : Int) (w : World) :
    Calls Tryd.prog 56 #[.int .i64 n, .int .i64 lo, .int .i64 hi] w fun e w' => e = .returned (.bool (inB lo hi n)) ∧ w = w' := by
  by_cases h : lo ≤ n
  · go_enter Tryd.func56, Tryd.ntmps56
    go_wp2
    go_ret
    exact ⟨by simp [h, inB], rfl⟩
  · go_enter Tryd.func56, Tryd.ntmps56
    go_wp2
    go_ret
    exact ⟨by simp [inB]; omega, rfl⟩

def byteOk (x : Int) : Prop := 0 ≤ x ∧ x ≤ 255
end Go.Proofs.YtaaeapjnjjbglaaDoor

namespace Go.Proofs.YtaaeapjnjjbglaaDoor
open Go.RowKit

/-- The slice '.slice A n cap' reads, in w, as the rows of sz cells each. -/
structure SliceIs (w : World) (A : Option Addr) (n cap sz : Nat) (rows : List (List Value)) : Prop where
  len : rows.length = n
  le : n ≤ cap
  small : cap ≤ maxLen
  wide : ∀ r ∈ rows, r.length = sz
  cells : 0 < n → ∃ b off, A = some ⟨b, off, none⟩ ∧ b < w.heap.size ∧ ∀ i r, rows[i]? = some r → ∀ j u, r[j]? = some u → w.cell? ⟨b, off + i * sz + j, none⟩ = some u

theorem SliceIs.ext {w w' : World} {A : Option Addr} {n cap sz : Nat} {rows : List (List Value)} (h : SliceIs w A n cap sz rows) (e : Ext w w') : SliceIs w' A n cap sz rows := by
  obtain ⟨h1, h2, h3, h4, h5⟩ := h
  refine ⟨h1, h2, h3, h4, fun hn => ?_⟩
  obtain ⟨b, off, hA, hb, hc⟩ := h5 hn
  exact ⟨b, off, hA, Nat.lt_of_lt_of_le hb e.size, fun i r hr j u hu => e.cell (hc i r hr j u hu)⟩

end Go.Proofs.YtaaeapjnjjbglaaDoor

namespace Go.Proofs.YtaaeapjnjjbglaaDoor
open Go.RowKit

/-- Block g is the cells cs of element type t, none of them frozen. -/
def Blk (w : World) (g : Nat) (t : TypeId) (cs : Array Value) : Prop := w.heap[g]? = some (.cells cs t (0, 0))

section
variable {w w' : World} {g : Nat} {t : TypeId} {cs : Array Value}
theorem Blk.lt (h : Blk w g t cs) : g < w.heap.size := by
  rcases Nat.lt_or_ge g w.heap.size with hlt | hge
  · exact hlt
  · unfold Blk at h
    rw [Array.getElem?_eq_none hge] at h
    cases h
theorem Blk.cell (h : Blk w g t cs) (i : Nat) : w.cell? ⟨g, i, none⟩ = cs[i]? := by
  unfold Blk at h
  simp [World.cell?, h]
theorem Blk.frozen (h : Blk w g t cs) (i : Nat) : w.frozen? ⟨g, i, none⟩ = false := by
  unfold Blk at h
  simp [World.frozen?, h]
theorem Blk.new (w : World) (cs : Array Value) (t : TypeId) : Blk (w.alloc (.cells cs t)) w.heap.size t cs := by
  show (w.heap.push _)[w.heap.size]? = _
  simp
theorem Blk.ext (h : Blk w g t cs) (e : Ext w w') : Blk w' g t cs := (Below.block e g h.lt).trans h
theorem Blk.drew (h : Blk w g t cs) : Blk w.drew g t cs := h
theorem Blk.drewN (h : Blk w g t cs) (n : Nat) : Blk (w.drewN n) g t cs := h
theorem Blk.alloc (h : Blk w g t cs) (o : Obj) : Blk (w.alloc o) g t cs := h.ext ((Ext.refl w).alloc o)
theorem Blk.set_ (h : Blk w g t cs) (i : Nat) (u : Value) : Blk (w.setCell ⟨g, i, none⟩ u) g t (cs.setIfInBounds i u) := by
  unfold Blk at h ⊢
  simp [World.setCell, Array.getElem?_modify, h]
theorem Blk.far (h : Blk w g t cs) {p : Addr} (hp : g ≠ p.block) (u : Value) : Blk (w.setCell p u) g t cs := (Below.heap_setCell w p u g hp).trans h
theorem Blk.below {B : Nat} (h : Blk w g t cs) (hb : Below B w w') (hg : g < B) : Blk w' g t cs := (hb.block g hg).trans h
theorem Blk.grown {row : Option Nat} (h : Blk w g t cs) (hb : w.grownBy w' row) (hg : some g ≠ row) : Blk w' g t cs := (hb.block g h.lt hg).trans h

/-- Three cells of a block stored: the new world under one name, with what is known of it. -/
theorem Blk.store3 {a b c : Value} (h : Blk w g t #[a, b, c]) (a' b' c' : Value) : ∃ w2, ((w.setCell ⟨g, 0, none⟩ a').setCell ⟨g, 1, none⟩ b').setCell ⟨g, 2, none⟩ c' = w2 ∧ Blk w2 g t #[a', b', c'] ∧
    (∀ k t' cs', k ≠ g → Blk w k t' cs' → Blk w2 k t' cs') ∧ (∀ w0, Ext w0 w → w0.heap.size ≤ g → Ext w0 w2) ∧ w2.heap.size = w.heap.size := by
  refine ⟨_, rfl, ?_, fun k t' cs' hk hb => ((hb.far hk _).far hk _).far hk _, fun w0 hE hg => ((hE.setCell hg _).setCell hg _).setCell hg _, by simp [World.setCell]⟩
  have := ((h.set_ 0 a').set_ 1 b').set_ 2 c'
  simpa using this
end
end Go.Proofs.YtaaeapjnjjbglaaDoor

namespace Go.Proofs.YtaaeapjnjjbglaaDoor
open Go.RowKit

/-- A block made: the new world under one name. -/
theorem box_ (w : World) (ca : Array Value) (ta : TypeId) : ∃ W, w.alloc (.cells ca ta) = W ∧ Ext w W ∧ Blk W w.heap.size ta ca ∧ W.heap.size = w.heap.size + 1 :=
  ⟨_, rfl, (Ext.refl w).alloc _, Blk.new _ _ _, by simp⟩

structure Shape where
  W : Int
  D : Int
  H : Int
  cells : List Int
/-- The slice reads as bytes. -/
def Bytes (w : World) (A : Option Addr) (cap : Nat) (cs : List Int) : Prop := SliceIs w A cs.length cap 1 (cs.map fun c => [.int .u8 c]) ∧ ∀ c ∈ cs, byteOk c
theorem Bytes.ext {w w' : World} {A : Option Addr} {cap : Nat} {cs : List Int} (h : Bytes w A cap cs) (e : Ext w w') : Bytes w' A cap cs := ⟨h.1.ext e, h.2⟩
theorem Bytes.len {w : World} {A : Option Addr} {cap : Nat} {cs : List Int} (h : Bytes w A cap cs) : cs.length ≤ maxLen := Nat.le_trans h.1.le h.1.small
/-- One byte of it. -/
theorem Bytes.at_ {w : World} {A : Option Addr} {cap : Nat} {cs : List Int} (h : Bytes w A cap cs) {k : Nat} (hk : k < cs.length) :
    ∃ b off c, A = some ⟨b, off, none⟩ ∧ cs[k]? = some c ∧ byteOk c ∧ b < w.heap.size ∧ w.cell? ⟨b, off + k, none⟩ = some (.int .u8 c) := by
  obtain ⟨b, off, rfl, hb, hc⟩ := h.1.cells (by omega)
  have hn : cs[k]? = some cs[k] := List.getElem?_eq_getElem hk
  have hc0 := hc k [.int .u8 cs[k]] (by rw [List.getElem?_map, hn]; rfl) 0 _ rfl
  simp only [Nat.mul_one, Nat.add_zero] at hc0
  exact ⟨b, off, _, rfl, hn, h.2 _ (List.mem_of_getElem? hn), hb, hc0⟩

/-- How many are full. -/
def fullN (cs : List Int) : Nat := cs.countP (fun c => decide (c ≠ 0))
theorem fullN_le (cs : List Int) : fullN cs ≤ cs.length := List.countP_le_length
theorem fullN_succ {cs : List Int} {k : Nat} {c : Int} (h : cs[k]? = some c) : fullN (cs.take (k + 1)) = fullN (cs.take k) + if c = 0 then 0 else 1 := by
  rw [List.take_add_one, h]
  unfold fullN
  rw [Option.toList_some, List.countP_append]
  by_cases hc : c = 0 <;> simp [hc]

set_option maxHeartbeats 800000 in
theorem full_c (A : Option Addr) (cap : Nat) (wd d h : Int) (cs : List Int) (w : World) (hs : Bytes w A cap cs) :
    Calls Tryd.prog 47 #[.agg #[.int .i64 wd, .int .i64 d, .int .i64 h, .slice A cs.length cap]] w fun e w' => e = .returned (.int .i64 (fullN cs)) ∧ Ext w w' := by
  have hl := hs.len
  unfold maxLen at hl
  obtain ⟨W, hW, E, B, hz⟩ := box_ w #[.int .i64 wd, .int .i64 d, .int .i64 h, .slice A cs.length cap] 24
  have bc := B.cell
  have hb := B.lt
  have hs2 := hs.ext E
  go_enter Tryd.func47, Tryd.ntmps47
  go_wp2
  go_loop [3, 9] (fun n i => ∃ k : Nat, k ≤ cs.length ∧ i = .int .i64 k ∧ n = .int .i64 (fullN (cs.take k))) (fun _ i => cs.length - (intOf i).toNat)
  case atStart => exact ⟨0, by omega, rfl, rfl⟩
  case round =>
    obtain ⟨k, hk, rfl, rfl⟩ := hrel
    by_cases hlt : k < cs.length
    · obtain ⟨b, off, c, rfl, hc, hok, hbl, hcell⟩ := hs2.at_ hlt
      have hf := fullN_succ hc
      have hle := fullN_le (cs.take k)
      rw [List.length_take, Nat.min_eq_left (by omega)] at hle
      by_cases h0 : c = 0
      · have Hf := Lib.hid hf
        clear hf
        subst h0
        go_wp2
        go_round
        case rel => exact ⟨k + 1, by omega, by go_num, by rw [Hf.out]; rfl⟩
        case measure => simp only [intOf]; omega
      · rw [if_neg h0] at hf
        have Hf := Lib.hid hf
        clear hf
        go_wp2
        go_round
        case rel => exact ⟨k + 1, by omega, by go_num, by rw [Hf.out]; go_num⟩
        case measure => simp only [intOf]; omega
    · obtain rfl : k = cs.length := by omega
      go_wp2
      go_ret
      exact ⟨by simp, E⟩
end Go.Proofs.YtaaeapjnjjbglaaDoor

namespace Go.Proofs.YtaaeapjnjjbglaaDoor
open Go.RowKit

set_option maxHeartbeats 800000 in
theorem rFull_c (A : Option Addr) (cap : Nat) (wd d h : Int) (cs : List Int) (w : World) (hs : Bytes w A cap cs) :
    Calls Tryd.prog 19 #[.agg #[.int .i64 wd, .int .i64 d, .int .i64 h, .slice A cs.length cap]] w fun e w' => e = .returned (.int .i64 (fullN cs)) ∧ Ext w w' := by
  have hl := hs.len
  unfold maxLen at hl
  obtain ⟨W, hW, E, B, hz⟩ := box_ w #[.int .i64 wd, .int .i64 d, .int .i64 h, .slice A cs.length cap] 24
  have bc := B.cell
  have hb := B.lt
  have hs2 := hs.ext E
  go_enter Tryd.func19, Tryd.ntmps19
  go_wp2
  go_loop [3, 4] (fun n i => ∃ k : Nat, k ≤ cs.length ∧ i = .int .i64 k ∧ n = .int .i64 (fullN (cs.take k))) (fun _ i => cs.length - (intOf i).toNat)
  case atStart => exact ⟨0, by omega, rfl, rfl⟩
  case round =>
    obtain ⟨k, hk, rfl, rfl⟩ := hrel
    by_cases hlt : k < cs.length
    · obtain ⟨b, off, c, rfl, hc, hok, hbl, hcell⟩ := hs2.at_ hlt
      have hf := fullN_succ hc
      have hle := fullN_le (cs.take k)
      rw [List.length_take, Nat.min_eq_left (by omega)] at hle
      by_cases h0 : c = 0
      · have Hf := Lib.hid hf
        clear hf
        subst h0
        go_wp2
        go_round
        case rel => exact ⟨k + 1, by omega, by go_num, by rw [Hf.out]; rfl⟩
        case measure => simp only [intOf]; omega
      · rw [if_neg h0] at hf
        have Hf := Lib.hid hf
        clear hf
        go_wp2
        go_round
        case rel => exact ⟨k + 1, by omega, by go_num, by rw [Hf.out]; go_num⟩
        case measure => simp only [intOf]; omega
    · obtain rfl : k = cs.length := by omega
      go_wp2
      go_ret
      exact ⟨by simp, E⟩

theorem strange_c (c : Int) (w : World) : Calls Tryd.prog 96 #[.int .u8 c] w fun e w' => e = .returned (.bool (decide (15 < c))) ∧ w = w' := by
  go_enter Tryd.func96, Tryd.ntmps96
  go_wp2
  go_ret
  exact ⟨rfl, rfl⟩

/-- No colour beyond the last. -/
def plainB (cs : List Int) : Bool := cs.all fun c => decide (c ≤ 15)
set_option maxHeartbeats 800000 in
theorem indexFunc_c (A : Option Addr) (cap : Nat) (cs : List Int) (w : World) (hs : Bytes w A cap cs) :
    Calls Tryd.prog 126 #[.slice A cs.length cap, .func (.func 96) #[] #[]] w fun e w' => (∃ r, e = .returned (.int .i64 r) ∧ decide (0 ≤ r) = !plainB cs) ∧ w = w' := by
  have hl := hs.len
  unfold maxLen at hl
  go_enter Tryd.func126, Tryd.ntmps126
  go_wp2
  go_loop [8] (fun i => ∃ k : Nat, k ≤ cs.length ∧ i = .int .i64 k ∧ ∀ j c, j < k → cs[j]? = some c → c ≤ 15) (fun i => cs.length - (intOf i).toNat)
  case atStart => exact ⟨0, by omega, rfl, fun j c hj => by omega⟩
  case round =>
    obtain ⟨k, hk, rfl, hj⟩ := hrel
    have Hj := Lib.hid hj
    clear hj
    by_cases hlt : k < cs.length
    · obtain ⟨b, off, c, rfl, hc, hok, hbl, hcell⟩ := hs.at_ hlt
      have Hc := Lib.hid hc
      clear hc
      by_cases h0 : 15 < c
      · go_wp2_with (go_at_call 96; refine (strange_c c _).mono ?_; rintro e w' ⟨rfl, rfl⟩)
        go_ret
        refine ⟨⟨k, rfl, ?_⟩, rfl⟩
        have : plainB cs = false := by
          rw [plainB, List.all_eq_false]
          exact ⟨c, List.mem_of_getElem? Hc.out, by simp; omega⟩
        simp [this]
      · go_wp2_with (go_at_call 96; refine (strange_c c _).mono ?_; rintro e w' ⟨rfl, rfl⟩)
        go_round
        case rel =>
          refine ⟨k + 1, by omega, by go_num, fun j c' hj hc' => ?_⟩
          rcases Nat.lt_or_ge j k with h | h
          · exact Hj.out j c' h hc'
          · obtain rfl : j = k := by omega
            rw [Hc.out] at hc'
            cases hc'
            omega
        case measure => simp only [intOf]; omega
    · obtain rfl : k = cs.length := by omega
      go_wp2
      go_ret
      refine ⟨⟨-1, rfl, ?_⟩, rfl⟩
      have : plainB cs = true := by
        rw [plainB, List.all_eq_true]
        intro c hc
        obtain ⟨j, hj⟩ := List.getElem?_of_mem hc
        have : j < cs.length := by
          rcases Nat.lt_or_ge j cs.length with h | h
          · exact h
          · rw [List.getElem?_eq_none h] at hj; cases hj
        simpa using Hj.out j c this hj
      simp [this]
theorem contains_c (A : Option Addr) (cap : Nat) (cs : List Int) (w : World) (hs : Bytes w A cap cs) :
    Calls Tryd.prog 97 #[.slice A cs.length cap, .func (.func 96) #[] #[]] w fun e w' => e = .returned (.bool (!plainB cs)) ∧ w = w' := by
  go_enter Tryd.func97, Tryd.ntmps97
  go_wp2_with (go_at_call 126; refine (indexFunc_c A cap cs _ hs).mono ?_; rintro e w' ⟨⟨r, rfl, hr⟩, rfl⟩)
  go_ret
  exact ⟨by rw [← hr]; rfl, rfl⟩
end Go.Proofs.YtaaeapjnjjbglaaDoor

namespace Go.Proofs.YtaaeapjnjjbglaaDoor
open Go.RowKit

def Shape.valid (s : Shape) : Bool := inB 1 8 s.W && (inB 1 8 s.D && (inB 1 4 s.H && (decide ((s.cells.length : Int) = s.W * s.D * s.H) && (plainB s.cells && inB 1 16 (fullN s.cells)))))
theorem mul_bd {a b : Int} {A B : Nat} (h1 : 1 ≤ a) (h2 : a ≤ A) (h3 : 1 ≤ b) (h4 : b ≤ B) : 1 ≤ a * b ∧ a * b ≤ (A * B : Nat) := by
  constructor
  · have := Int.mul_pos (a := a) (b := b) (by omega) (by omega)
    omega
  · rw [Int.natCast_mul]
    exact Int.mul_le_mul h2 h4 (by omega) (by omega)
theorem vol_wrap {a b c : Int} (ha : inB 1 8 a = true) (hb : inB 1 8 b = true) (hc : inB 1 4 c = true) : wrap64 (wrap64 (a * b) * c) = a * b * c ∧ wrap64 (a * b) = a * b := by
  rw [inB_iff] at ha hb hc
  have h1 := mul_bd (A := 8) (B := 8) ha.1 ha.2 hb.1 hb.2
  have h2 := mul_bd (A := 64) (B := 4) h1.1 h1.2 hc.1 hc.2
  have e1 : wrap64 (a * b) = a * b := IntWalk.wrap64_in _ (by omega)
  exact ⟨by rw [e1]; exact IntWalk.wrap64_in _ (by omega), e1⟩

theorem from_is {lo hi n : Int} {b : Bool} (h : inB lo hi n = b) (w : World) : Calls Tryd.prog 57 #[.int .i64 lo, .int .i64 hi, .int .i64 n] w fun e w' => e = .returned (.bool b) ∧ w = w' := by
  subst h
  exact from_c lo hi n w
theorem within_is {lo hi n : Int} {b : Bool} (h : inB lo hi n = b) (w : World) : Calls Tryd.prog 56 #[.int .i64 n, .int .i64 lo, .int .i64 hi] w fun e w' => e = .returned (.bool b) ∧ w = w' := by
  subst h
  exact within_c n lo hi w
theorem contains_is {A : Option Addr} {cap : Nat} {cs : List Int} {b : Bool} (h : plainB cs = b) (w : World) (hs : Bytes w A cap cs) :
    Calls Tryd.prog 97 #[.slice A cs.length cap, .func (.func 96) #[] #[]] w fun e w' => e = .returned (.bool (!b)) ∧ w = w' := by
  subst h
  exact contains_c A cap cs w hs
def shapeErr (s : Shape) : Int := if s.valid then 0 else 70

set_option maxHeartbeats 1600000 in
theorem checkShape_c (A : Option Addr) (cap : Nat) (wd d h : Int) (cs : List Int) (w : World) (hs : Bytes w A cap cs) :
    Calls Tryd.prog 62 #[.agg #[.int .i64 wd, .int .i64 d, .int .i64 h, .slice A cs.length cap]] w fun e w' => e = .returned (.int .i64 (shapeErr ⟨wd, d, h, cs⟩)) ∧ Ext w w' := by
  have hl := hs.len
  unfold maxLen at hl
  obtain ⟨W, hW, E, B, hz⟩ := box_ w #[.int .i64 wd, .int .i64 d, .int .i64 h, .slice A cs.length cap] 24
  have bc := B.cell
  have hb := B.lt
  have hs2 := hs.ext E
  cases h1 : inB 1 8 wd
  · go_enter Tryd.func62, Tryd.ntmps62
    go_wp2_with fail
    refine (from_is h1 _).mono ?_
    rintro e w0 ⟨rfl, rfl⟩
    go_wp2_with fail
    go_ret
    exact ⟨by simp [shapeErr, Shape.valid, h1], E⟩
  cases h2 : inB 1 8 d
  · go_enter Tryd.func62, Tryd.ntmps62
    go_wp2_with fail
    refine (from_is h1 _).mono ?_
    rintro e w0 ⟨rfl, rfl⟩
    go_wp2_with fail
    refine (from_is h2 _).mono ?_
    rintro e w1 ⟨rfl, rfl⟩
    go_wp2_with fail
    go_ret
    exact ⟨by simp [shapeErr, Shape.valid, h2], E⟩
  cases h3 : inB 1 4 h
  · go_enter Tryd.func62, Tryd.ntmps62
    go_wp2_with fail
    refine (from_is h1 _).mono ?_
    rintro e w0 ⟨rfl, rfl⟩
    go_wp2_with fail
    refine (from_is h2 _).mono ?_
    rintro e w1 ⟨rfl, rfl⟩
    go_wp2_with fail
    refine (from_is h3 _).mono ?_
    rintro e w2 ⟨rfl, rfl⟩
    go_wp2_with fail
    go_ret
    exact ⟨by simp [shapeErr, Shape.valid, h3], E⟩
  obtain ⟨hv, hv2⟩ := vol_wrap h1 h2 h3
  rw [hv2] at hv
  by_cases h4 : (cs.length : Int) = wd * d * h
  · cases h5 : plainB cs
    · go_enter Tryd.func62, Tryd.ntmps62
      go_wp2_with fail
      refine (from_is h1 _).mono ?_
      rintro e w0 ⟨rfl, rfl⟩
      go_wp2_with fail
      refine (from_is h2 _).mono ?_
      rintro e w1 ⟨rfl, rfl⟩
      go_wp2_with fail
      refine (from_is h3 _).mono ?_
      rintro e w2 ⟨rfl, rfl⟩
      go_wp2_with fail
      refine (contains_is h5 _ hs2).mono ?_
      rintro e w3 ⟨rfl, rfl⟩
      go_wp2_with fail
      go_ret
      exact ⟨by simp [shapeErr, Shape.valid, h5], E⟩
    · cases h6 : inB 1 16 (fullN cs)
      · go_enter Tryd.func62, Tryd.ntmps62
        go_wp2_with fail
        refine (from_is h1 _).mono ?_
        rintro e w0 ⟨rfl, rfl⟩
        go_wp2_with fail
        refine (from_is h2 _).mono ?_
        rintro e w1 ⟨rfl, rfl⟩
        go_wp2_with fail
        refine (from_is h3 _).mono ?_
        rintro e w2 ⟨rfl, rfl⟩
        go_wp2_with fail
        refine (contains_is h5 _ hs2).mono ?_
        rintro e w3 ⟨rfl, rfl⟩
        go_wp2_with fail
        refine (full_c A cap wd d h cs _ hs2).mono ?_
        rintro e w4 ⟨rfl, E1⟩
        go_wp2_with fail
        refine (from_is h6 _).mono ?_
        rintro e w5 ⟨rfl, rfl⟩
        go_wp2_with fail
        go_ret
        exact ⟨by simp [shapeErr, Shape.valid, h6], E.trans E1⟩
      · go_enter Tryd.func62, Tryd.ntmps62
        go_wp2_with fail
        refine (from_is h1 _).mono ?_
        rintro e w0 ⟨rfl, rfl⟩
        go_wp2_with fail
        refine (from_is h2 _).mono ?_
        rintro e w1 ⟨rfl, rfl⟩
        go_wp2_with fail
        refine (from_is h3 _).mono ?_
        rintro e w2 ⟨rfl, rfl⟩
        go_wp2_with fail
        refine (contains_is h5 _ hs2).mono ?_
        rintro e w3 ⟨rfl, rfl⟩
        go_wp2_with fail
        refine (full_c A cap wd d h cs _ hs2).mono ?_
        rintro e w4 ⟨rfl, E1⟩
        go_wp2_with fail
        refine (from_is h6 _).mono ?_
        rintro e w5 ⟨rfl, rfl⟩
        go_wp2_with fail
        go_ret
        exact ⟨by simp [shapeErr, Shape.valid, h1, h2, h3, h4, h5, h6], E.trans E1⟩
  · go_enter Tryd.func62, Tryd.ntmps62
    go_wp2_with fail
    refine (from_is h1 _).mono ?_
    rintro e w0 ⟨rfl, rfl⟩
    go_wp2_with fail
    refine (from_is h2 _).mono ?_
    rintro e w1 ⟨rfl, rfl⟩
    go_wp2_with fail
    refine (from_is h3 _).mono ?_
    rintro e w2 ⟨rfl, rfl⟩
    go_wp2_with fail
    go_ret
    exact ⟨by simp [shapeErr, Shape.valid, h4], E⟩
end Go.Proofs.YtaaeapjnjjbglaaDoor

namespace Go.Proofs.YtaaeapjnjjbglaaDoor
open Go.RowKit

section
variable {P : Program} {ops : Array Oper} {md : Region.Mode} {C : World → Prop}

/-- Whatever order is picked for the head; L holds of the frame when it is done. -/
def headQ (P : Program) (md : Region.Mode) (ops : Array Oper) (C : World → Prop) (n : Nat) (L : Array Bool → Act → Prop) : Nat → Array Bool → Act → Prop
  | 0, listed, a => L listed a
  | f + 1, listed, a => Region.ready md ops listed ≠ [] ∧ ∀ i ∈ Region.ready md ops listed, i < n ∧ qOp P ops C i (headQ P md ops C n L f (listed.setIfInBounds i true)) a

theorem any_of_headQ {n g : Nat} {L : Array Bool → Act → Prop} {Q' : Exit → Act → World → Prop} (hL : ∀ listed a, L listed a → ∀ w, C w → wpAny P md ops Q' g listed a w) (f : Nat) :
    ∀ (listed : Array Bool) (a : Act), headQ P md ops C n L f listed a → ∀ w, C w → wpAny P md ops Q' (f + g) listed a w := by
  induction f with
  | zero =>
    intro listed a h w hw
    rw [Nat.zero_add]
    exact hL _ _ h w hw
  | succ f ih =>
    intro listed a h w hw
    rw [show f + 1 + g = (f + g) + 1 from by omega]
    refine ⟨fun h0 => absurd h0 h.1, fun i hi => ?_⟩
    exact wpOp_of_qOp hw (fun a' w' hw' h' => ih _ a' h' w' hw') (h.2 i hi).2

theorem headQ_first {n i : Nat} {oi : Oper} {v : Value} {L : Array Bool → Act → Prop} (hi : ops[i]? = some oi) (hsel : ∀ (j : Nat) (o : Oper) cs b, ops[j]? = some o → o.op ≠ .select cs b)
    (hs : Region.sinkB md ops n = true) (hc : Region.chainB md ops n = true) (hn : n < ops.size) (hin : i < n) (hdone : ∀ listed a, L listed a → ∀ j ∈ Region.ready md ops listed, n ≤ j) (f : Nat) :
    ∀ (listed : Array Bool) (a : Act), HeadInv md ops n listed →
      (∀ j oj, ops[j]? = some oj → j ≠ i → listed.getD j true = false → (∀ e ∈ oj.after, Region.binds md e = true → e.on ≠ i) → oi.apart ops oj = true) →
      i ∈ Region.ready md ops listed → YieldsIn P ops C oi v a → headQ P md ops C n L f (listed.setIfInBounds i true) (a.put oi.dst v) → headQ P md ops C n L (f + 1) listed a := by
  have small : ∀ {listed : Array Bool}, HeadInv md ops n listed → i ∈ Region.ready md ops listed → ∀ j ∈ Region.ready md ops listed, j < n := fun inv hr j hj => by
    rcases Nat.lt_or_ge j n with h | h
    · exact h
    · exact absurd hj (tail_waits hs hc hn inv _ i rfl hin (mem_ready.1 hr).1 j h)
  induction f with
  | zero =>
    intro listed a inv _ hr hy H
    refine ⟨fun h => (by rw [h] at hr; cases hr), fun j hj => ⟨small inv hr j hj, ?_⟩⟩
    by_cases hji : j = i
    · subst hji
      exact hy.qOp hi H
    · have h1 := hdone _ _ H j (ready_mono hj hji)
      have h2 := small inv hr j hj
      omega
  | succ f ih =>
    intro listed a inv hfree hr hy H
    refine ⟨fun h => (by rw [h] at hr; cases hr), fun j hj => ⟨small inv hr j hj, ?_⟩⟩
    by_cases hji : j = i
    · subst hji
      exact hy.qOp hi H
    · have hun := (mem_ready.1 hr).1
      have h1 := (H.2 j (ready_mono hj hji)).2
      obtain ⟨hjun, oj, hoj, hall⟩ := mem_ready.1 hj
      have hnot : ∀ e ∈ oj.after, Region.binds md e = true → e.on ≠ i := fun e he hb heq => by
        have h3 := hall e he hb
        rw [heq, getD_both hun] at h3
        cases h3
      have h2 := qOp_put hoj (hfree j oj hoj hji hjun hnot) (fun cs b => hsel i oi cs b hi) (fun cs b => hsel j oj cs b hoj) hy h1
      refine qOp_mono (fun a' h3 => ih (listed.setIfInBounds j true) a' (inv.set hj (small inv hr j hj)) (fun k ok hk hki hunk hno => ?_) (ready_mono hr (Ne.symm hji)) h3.1 ?_) h2
      · refine hfree k ok hk hki ?_ hno
        by_cases hjk : j = k
        · subst hjk
          exact hjun
        · rwa [getD_set_ne true hjk] at hunk
      · rw [Array.setIfInBounds_comm _ _ hji]
        exact h3.2

theorem headQ_lex {n g : Nat} {Lq : Act → Prop} (hsel : Region.noSelect ops = true) (hs : Region.sinkB md ops n = true) (hc : Region.chainB md ops n = true) (hn : n < ops.size) (l : List Oper) :
    ∀ (k : Nat) (listed : Array Bool) (a : Act), (∀ j, j < l.length → l[j]? = ops[k + j]?) → k + l.length = n → HeadInv md ops n listed →
    Region.lexHead md ops g l.length k listed = true → wpQuiet P ops C Lq l a →
    headQ P md ops C n (fun listed' a' => Region.seqB md ops g n listed' = true ∧ Lq a') l.length listed a := by
  induction l with
  | nil =>
    intro k listed a _ hk _ hB h
    have hk' : k = n := by simpa using hk
    subst hk'
    exact ⟨by simpa [Region.lexHead] using hB, h⟩
  | cons o l ih =>
    intro k listed a hl hk inv hB h
    have h0 : ops[k]? = some o := by simpa using (hl 0 (by simp)).symm
    simp only [List.length_cons, Region.lexHead, Bool.and_eq_true] at hB hk
    obtain ⟨⟨hr, hf⟩, hB'⟩ := hB
    have hr' : k ∈ Region.ready md ops listed := by simpa using hr
    have hq : qOp P ops C k (wpQuiet P ops C Lq l) a := by
      unfold qOp
      simp only [h0]
      exact h
    obtain ⟨v, hy, hK⟩ := yieldsIn_of_qOp h0 hq
    refine headQ_first h0 (Region.noSelect_spec hsel) hs hc hn (by omega) (fun listed' a' hL => seqB_ready hL.1) l.length listed a inv (Region.free_spec h0 hf) hr' hy ?_
    refine ih (k + 1) _ _ (fun j hj => ?_) (by omega) (inv.set hr' (by omega)) hB' hK
    have := hl (j + 1) (by simp; omega)
    simpa [Nat.add_assoc, Nat.add_comm 1 j] using this

/-- The theorem, at the class of the worlds that have only grown. -/
theorem wp_region_tail {id : Nat} {Q : Exit → Act → World → Prop} {a : Act} {w : World} {l : List Oper} (n : Nat) (hm : P.follows .mixedOrders = true) (hB : Region.lexTailB .any l.toArray n = true)
    (h : wpQuiet P l.toArray (fun w' => ∃ x, w' = grow w x) (fun a' => ∀ w', (∃ x, w' = grow w x) → wpList P l.toArray Q (l.drop n) a' w') (l.take n) a) : (Code.region id l.toArray true).wp P Q a w := by
  simp only [Region.lexTailB, Bool.and_eq_true, decide_eq_true_eq] at hB
  obtain ⟨⟨⟨⟨hsel, hn⟩, hs⟩, hc⟩, hlex⟩ := hB
  have hn' : n < l.length := by simpa using hn
  have htl : (l.take n).length = n := by simp; omega
  have hdl : (l.drop n).length = l.toArray.size - n := by simp
  have inv0 : HeadInv .any l.toArray n (Array.replicate l.toArray.size false) :=
    ⟨by simp, fun j oj _ hl => (by rw [getD_replicate_false] at hl; cases hl), fun t _ ht => getD_in (by simpa using ht) (getD_replicate_false _ _)⟩
  have H := headQ_lex (P := P) (C := fun w' => ∃ x, w' = grow w x) (md := .any) (g := l.toArray.size - n) hsel hs hc hn (l.take n) 0 _ a (fun j hj => by
    rw [htl] at hj
    simp [hj]) (by simpa using htl) inv0 (by rw [htl]; exact hlex) h
  refine wp_region_any hm ?_
  have H2 := any_of_headQ (Q' := Q) (g := l.toArray.size - n) (fun listed a' hL w' hw' => by
    have := wpAny_of_seq (md := .any) (Q' := Q) (l.drop n) n listed a' w' (fun j => by simp [List.getElem?_drop]) (by rw [hdl]; exact hL.1) (hL.2 w' hw')
    rwa [hdl] at this) _ _ _ H { w with drawn := w.drawn + 1 } ⟨⟨#[], w.drawn + 1⟩, by simp [grow]⟩
  rw [htl, show n + (l.toArray.size - n) = l.toArray.size from by omega] at H2
  exact H2
end
end Go.Proofs.YtaaeapjnjjbglaaDoor

namespace Go.Proofs.YtaaeapjnjjbglaaDoor
open Go.RowKit

structure Plate where
  W : Int
  D : Int
  N : Int
  color : Int
def Plate.cells (p : Plate) : List Value := [.int .i64 p.W, .int .i64 p.D, .int .i64 p.N, .int .u8 p.color]
def Plates (w : World) (A : Option Addr) (cap : Nat) (l : List Plate) : Prop := SliceIs w A l.length cap 4 (l.map Plate.cells)
theorem Plates.ext {w w' : World} {A : Option Addr} {cap : Nat} {l : List Plate} (h : Plates w A cap l) (e : Ext w w') : Plates w' A cap l := SliceIs.ext h e
theorem Plates.len {w : World} {A : Option Addr} {cap : Nat} {l : List Plate} (h : Plates w A cap l) : l.length ≤ maxLen := Nat.le_trans h.le h.small
theorem Plates.at_ {w : World} {A : Option Addr} {cap : Nat} {l : List Plate} (h : Plates w A cap l) {k : Nat} (hk : k < l.length) :
    ∃ b off p, A = some ⟨b, off, none⟩ ∧ l[k]? = some p ∧ b < w.heap.size ∧ w.cell? ⟨b, off + k * 4, none⟩ = some (.int .i64 p.W) ∧ w.cell? ⟨b, off + k * 4 + 1, none⟩ = some (.int .i64 p.D) ∧
      w.cell? ⟨b, off + k * 4 + 2, none⟩ = some (.int .i64 p.N) ∧ w.cell? ⟨b, off + k * 4 + 3, none⟩ = some (.int .u8 p.color) := by
  obtain ⟨b, off, hA, hb, hc⟩ := SliceIs.cells h (by omega)
  have hget : l[k]? = some l[k] := List.getElem?_eq_getElem hk
  have hr : (l.map Plate.cells)[k]? = some l[k].cells := by rw [List.getElem?_map, hget]; rfl
  exact ⟨b, off, l[k], hA, hget, hb, hc k _ hr 0 _ rfl, hc k _ hr 1 _ rfl, hc k _ hr 2 _ rfl, hc k _ hr 3 _ rfl⟩

/-! One plate by itself; one behind another. -/
def Plate.one (p : Plate) : Bool := inB 1 p.D p.W && (decide (p.D ≤ 8) && (inB 0 99 p.N && decide (p.color ≤ 15)))
def pairB (q p : Plate) : Bool := decide (q.W < p.W) || (decide (q.W = p.W) && (decide (q.D < p.D) || (decide (q.D = p.D) && (decide (q.color ≠ 0) && decide (q.color < p.color)))))
def plateAt (l : List Plate) (k : Nat) : Plate := l.getD k ⟨0, 0, 0, 0⟩
def okAt (l : List Plate) (k : Nat) : Bool := (plateAt l k).one && (decide (k = 0) || pairB (plateAt l (k - 1)) (plateAt l k))
def platesB (l : List Plate) : Bool := inB 1 8 l.length && (List.range l.length).all (okAt l)
def platesErr (l : List Plate) : Int := if platesB l then 0 else 71
theorem platesB_bad {l : List Plate} {k : Nat} (hk : k < l.length) (h : okAt l k = false) : platesB l = false := by
  unfold platesB
  rw [Bool.and_eq_false_iff]
  right
  rw [List.all_eq_false]
  exact ⟨k, List.mem_range.2 hk, by simp [h]⟩
theorem platesB_good {l : List Plate} (h1 : inB 1 8 l.length = true) (h : ∀ j, j < l.length → okAt l j = true) : platesB l = true := by
  unfold platesB
  rw [Bool.and_eq_true, List.all_eq_true]
  exact ⟨h1, fun j hj => h j (List.mem_range.1 hj)⟩
theorem plateAt_eq {l : List Plate} {k : Nat} {p : Plate} (h : l[k]? = some p) : plateAt l k = p := by simp [plateAt, h]

/-! cmp.Compare, cmp.Or. -/
def cmpI (a b : Int) : Int := if a < b then -1 else if b < a then 1 else 0
theorem isNaN_c (a : Int) (w : World) : Calls Tryd.prog 122 #[.int .i64 a] w fun e w' => e = .returned (.bool false) ∧ w = w' := by
  go_enter Tryd.func122, Tryd.ntmps122
  go_wp2
  go_ret
  exact ⟨by simp, rfl⟩
set_option maxHeartbeats 400000 in
theorem compare_c (a b : Int) (w : World) : Calls Tryd.prog 87 #[.int .i64 a, .int .i64 b] w fun e w' => e = .returned (.int .i64 (cmpI a b)) ∧ w = w' := by
  by_cases h1 : a < b
  · go_enter Tryd.func87, Tryd.ntmps87
    go_wp2_with (go_at_call 122; refine (isNaN_c _ _).mono ?_; rintro e w' ⟨rfl, rfl⟩)
    go_ret
    exact ⟨by simp [cmpI, h1], rfl⟩
  · by_cases h2 : b < a
    · go_enter Tryd.func87, Tryd.ntmps87
      go_wp2_with (go_at_call 122; refine (isNaN_c _ _).mono ?_; rintro e w' ⟨rfl, rfl⟩)
      go_ret
      exact ⟨by simp [cmpI, h1, h2], rfl⟩
    · have hc : cmpI a b = 0 := by rw [cmpI, if_neg h1, if_neg h2]
      have Hc := Lib.hid hc
      clear hc
      go_enter Tryd.func87, Tryd.ntmps87
      go_wp2_with (go_at_call 122; refine (isNaN_c _ _).mono ?_; rintro e w' ⟨rfl, rfl⟩)
      go_ret
      exact ⟨by rw [Hc.out]; rfl, rfl⟩
def orI (a b : Int) : Int := if a = 0 then b else a
set_option maxHeartbeats 800000 in
theorem or_c (B : Nat) (a b : Int) (w : World) (_hB : B < w.heap.size) (h0 : w.cell? ⟨B, 0, none⟩ = some (.int .i64 a)) (h1 : w.cell? ⟨B, 1, none⟩ = some (.int .i64 b)) :
    Calls Tryd.prog 86 #[.slice (some ⟨B, 0, none⟩) 2 2] w fun e w' => e = .returned (.int .i64 (orI a b)) ∧ w = w' := by
  by_cases ha : a = 0
  · subst ha
    by_cases hb : b = 0
    · subst hb
      go_enter Tryd.func86, Tryd.ntmps86
      go_wp2
      go_loop [8] (fun i => ∃ k : Nat, k ≤ 2 ∧ i = .int .i64 k) (fun i => 2 - (intOf i).toNat)
      case atStart => exact ⟨0, by omega, rfl⟩
      case round =>
        obtain ⟨k, hk, rfl⟩ := hrel
        obtain rfl | rfl | rfl : k = 0 ∨ k = 1 ∨ k = 2 := by omega
        · go_wp2
          go_round
          case rel => exact ⟨1, by omega, rfl⟩
          case measure => simp [intOf]
        · go_wp2
          go_round
          case rel => exact ⟨2, by omega, rfl⟩
          case measure => simp [intOf]
        · go_wp2
          go_ret
          exact ⟨rfl, rfl⟩
    · go_enter Tryd.func86, Tryd.ntmps86
      go_wp2
      go_loop [8] (fun i => ∃ k : Nat, k ≤ 1 ∧ i = .int .i64 k) (fun i => 2 - (intOf i).toNat)
      case atStart => exact ⟨0, by omega, rfl⟩
      case round =>
        obtain ⟨k, hk, rfl⟩ := hrel
        obtain rfl | rfl : k = 0 ∨ k = 1 := by omega
        · go_wp2
          go_round
          case rel => exact ⟨1, by omega, rfl⟩
          case measure => simp [intOf]
        · go_wp2
          go_ret
          exact ⟨rfl, rfl⟩
  · go_enter Tryd.func86, Tryd.ntmps86
    go_wp2
    go_loop [8] (fun i => i = .int .i64 0) (fun i => 0)
    case atStart => rfl
    case round =>
      subst hrel
      go_wp2
      go_ret
      exact ⟨by simp [orI, ha], rfl⟩
end Go.Proofs.YtaaeapjnjjbglaaDoor

namespace Go.Proofs.YtaaeapjnjjbglaaDoor
open Go.RowKit

theorem ext_facts {w w' : World} (E : Ext w w') :
    (∀ a, (w.cell? a).isSome = true → w'.cell? a = w.cell? a) ∧ (∀ a, (w.cell? a).isSome = true → w'.frozen? a = w.frozen? a) ∧ w.heap.size ≤ w'.heap.size := by
  refine ⟨fun a h => ?_, fun a h => ?_, E.size⟩
  · obtain ⟨u, hu⟩ := Option.isSome_iff_exists.1 h
    rw [hu]
    exact E.cell hu
  · obtain ⟨u, hu⟩ := Option.isSome_iff_exists.1 h
    exact E.frozen (World.block_lt_of_cell? w a hu)

/-! A loop that may leave early, as a fold that may fail. -/
section
variable {α : Type}
/-- k rounds of a step that may fail. -/
def runs (f : Nat → α → Option α) : Nat → α → Option α
  | 0, a => some a
  | k + 1, a => (runs f k a).bind (f k)
theorem runs_none {f : Nat → α → Option α} {a : α} {k n : Nat} (h : runs f k a = none) (hk : k ≤ n) : runs f n a = none := by
  induction n with
  | zero =>
    obtain rfl : k = 0 := by omega
    exact h
  | succ n ih =>
    rcases Nat.lt_or_ge n k with h' | h'
    · obtain rfl : k = n + 1 := by omega
      exact h
    · show (runs f n a).bind (f n) = none
      rw [ih h']
      rfl
theorem runs_fail {f : Nat → α → Option α} {a b : α} {k n : Nat} (h : runs f k a = some b) (hf : f k b = none) (hk : k < n) : runs f n a = none :=
  runs_none (k := k + 1) (by show (runs f k a).bind (f k) = none; rw [h]; exact hf) hk
theorem runs_succ {f : Nat → α → Option α} {a b : α} {k : Nat} (h : runs f k a = some b) : runs f (k + 1) a = f k b := by
  show (runs f k a).bind (f k) = _
  rw [h]
  rfl
theorem runs_prefix {f : Nat → α → Option α} {a b : α} {k n : Nat} (h : runs f n a = some b) (hk : k ≤ n) : ∃ c, runs f k a = some c := by
  cases hc : runs f k a with
  | some c => exact ⟨c, rfl⟩
  | none => rw [runs_none hc hk] at h; cases h
end
end Go.Proofs.YtaaeapjnjjbglaaDoor

namespace Go.Proofs.YtaaeapjnjjbglaaDoor
open Go.RowKit

/-- The slice reads as these numbers. -/
def Ints (w : World) (A : Option Addr) (cap : Nat) (xs : List Int) : Prop := SliceIs w A xs.length cap 1 (xs.map fun n => [.int .i64 n])
theorem Ints.ext {w w' : World} {A : Option Addr} {cap : Nat} {xs : List Int} (h : Ints w A cap xs) (e : Ext w w') : Ints w' A cap xs := SliceIs.ext h e
theorem Ints.len {w : World} {A : Option Addr} {cap : Nat} {xs : List Int} (h : Ints w A cap xs) : xs.length ≤ maxLen := Nat.le_trans h.le h.small
theorem Ints.at_ {w : World} {A : Option Addr} {cap : Nat} {xs : List Int} (h : Ints w A cap xs) {k : Nat} {n : Int} (hk : xs[k]? = some n) :
    ∃ b off, A = some ⟨b, off, none⟩ ∧ b < w.heap.size ∧ w.cell? ⟨b, off + k, none⟩ = some (.int .i64 n) := by
  have hlt : k < xs.length := (List.getElem?_eq_some_iff.1 hk).1
  obtain ⟨b, off, rfl, hb, hc⟩ := SliceIs.cells h (by omega)
  have hc0 := hc k [.int .i64 n] (by rw [List.getElem?_map, hk]; rfl) 0 _ rfl
  simp only [Nat.mul_one, Nat.add_zero] at hc0
  exact ⟨b, off, rfl, hb, hc0⟩

/-! ### the numbers of full cells -/
/-- The number of the cell with an index: how many full cells are before it; -1 if it is not full. -/
def numOf (cs : List Int) (i : Nat) : Int := if cs.getD i 0 = 0 then -1 else (fullN (cs.take i) : Int)
def numsOf (cs : List Int) : List Int := (List.range cs.length).map (numOf cs)
theorem numsOf_len (cs : List Int) : (numsOf cs).length = cs.length := by simp [numsOf]
theorem numsOf_get {cs : List Int} {i : Nat} (h : i < cs.length) : (numsOf cs)[i]? = some (numOf cs i) := by simp [numsOf, h]
theorem numOf_lo (cs : List Int) (i : Nat) : -1 ≤ numOf cs i := by
  unfold numOf
  split <;> omega
theorem numOf_hi {cs : List Int} {i : Nat} (h : i < cs.length) : numOf cs i < fullN cs := by
  unfold numOf
  split
  · omega
  · rename_i h0
    have hc : cs[i]? = some cs[i] := List.getElem?_eq_getElem h
    have h1 := fullN_succ hc
    rw [List.getD_eq_getElem?_getD, hc] at h0
    simp only [Option.getD_some] at h0
    rw [if_neg h0] at h1
    have h2 : fullN (cs.take (i + 1)) ≤ fullN cs := (List.take_sublist _ _).countP_le
    omega

/-- The index of a place. -/
def Shape.idx (s : Shape) (x y z : Int) : Int := (z * s.D + y) * s.W + x
def Shape.inside (s : Shape) (x y z : Int) : Bool := inB 0 (s.W - 1) x && (inB 0 (s.D - 1) y && inB 0 (s.H - 1) z)
/-- The number of a full cell; -1 if it is none. -/
def Shape.num (s : Shape) (x y z : Int) : Int := if s.inside x y z then numOf s.cells (s.idx x y z).toNat else -1

structure Shape.Ok (s : Shape) : Prop where
  w : 1 ≤ s.W ∧ s.W ≤ 8
  d : 1 ≤ s.D ∧ s.D ≤ 8
  h : 1 ≤ s.H ∧ s.H ≤ 4
  len : (s.cells.length : Int) = s.W * s.D * s.H
  plain : ∀ c ∈ s.cells, c ≤ 15
  full : 1 ≤ fullN s.cells ∧ fullN s.cells ≤ 16
theorem Shape.ok_of {s : Shape} (h : s.valid = true) : s.Ok := by
  simp only [Shape.valid, Bool.and_eq_true, inB_iff, decide_eq_true_eq] at h
  obtain ⟨h1, h2, h3, h4, h5, h6⟩ := h
  refine ⟨h1, h2, h3, h4, fun c hc => ?_, by omega⟩
  have := List.all_eq_true.1 h5 c hc
  simpa using this
theorem Shape.idx_in {s : Shape} (ok : s.Ok) {x y z : Int} (h : s.inside x y z = true) : 0 ≤ s.idx x y z ∧ s.idx x y z < s.cells.length ∧ 0 ≤ z * s.D ∧ z * s.D ≤ 32 ∧ 0 ≤ (z * s.D + y) * s.W ∧ (z * s.D + y) * s.W ≤ 320 ∧ s.idx x y z ≤ 330 := by
  simp only [Shape.inside, Bool.and_eq_true, inB_iff] at h
  obtain ⟨⟨x1, x2⟩, ⟨y1, y2⟩, z1, z2⟩ := h
  obtain ⟨w1, w2⟩ := ok.w
  obtain ⟨d1, d2⟩ := ok.d
  obtain ⟨h1, h2⟩ := ok.h
  have e1 : 0 ≤ z * s.D := Int.mul_nonneg z1 (by omega)
  have e2 : z * s.D ≤ (s.H - 1) * s.D := Int.mul_le_mul_of_nonneg_right z2 (by omega)
  have e3 : 0 ≤ (z * s.D + y) * s.W := Int.mul_nonneg (by omega) (by omega)
  have e4 : (z * s.D + y) * s.W ≤ ((s.H - 1) * s.D + (s.D - 1)) * s.W := Int.mul_le_mul_of_nonneg_right (by omega) (by omega)
  have e5 : ((s.H - 1) * s.D + (s.D - 1)) * s.W = s.W * s.D * s.H - s.W := by
    rw [Int.sub_mul, Int.one_mul, Int.add_mul, Int.sub_mul, Int.sub_mul, Int.one_mul, Int.mul_comm s.H s.D, Int.mul_comm (s.D * s.H) s.W, ← Int.mul_assoc]
    omega
  have e6 : z * s.D ≤ 3 * 8 := Int.mul_le_mul (by omega) d2 (by omega) (by omega)
  have e7 : (z * s.D + y) * s.W ≤ 32 * 8 := Int.mul_le_mul (by omega) w2 (by omega) (by omega)
  unfold Shape.idx
  rw [ok.len]
  omega

/-! ### in memory -/
/-- What at reads of a board. -/
structure Base (w : World) (g : Nat) (s : Shape) (A : Option Addr) (cap : Nat) (NA : Option Addr) (ncap : Nat) : Prop where
  c0 : w.cell? ⟨g, 0, none⟩ = some (.int .i64 s.W)
  c1 : w.cell? ⟨g, 1, none⟩ = some (.int .i64 s.D)
  c2 : w.cell? ⟨g, 2, none⟩ = some (.int .i64 s.H)
  c3 : w.cell? ⟨g, 3, none⟩ = some (.slice A s.cells.length cap)
  c5 : w.cell? ⟨g, 5, none⟩ = some (.slice NA s.cells.length ncap)
  bytes : Bytes w A cap s.cells
  nums : Ints w NA ncap (numsOf s.cells)
theorem Base.ext {w w' : World} {g : Nat} {s : Shape} {A : Option Addr} {cap : Nat} {NA : Option Addr} {ncap : Nat} (h : Base w g s A cap NA ncap) (e : Ext w w') : Base w' g s A cap NA ncap :=
  ⟨e.cell h.c0, e.cell h.c1, e.cell h.c2, e.cell h.c3, e.cell h.c5, h.bytes.ext e, h.nums.ext e⟩

set_option maxHeartbeats 1000000 in
theorem at_c (x y z : Int) (g : Nat) (s : Shape) (A : Option Addr) (cap : Nat) (NA : Option Addr) (ncap : Nat) (ok : s.Ok) (w : World) (h : Base w g s A cap NA ncap) :
    Calls Tryd.prog 63 #[.pointer (some ⟨g, 0, none⟩), .int .i64 x, .int .i64 y, .int .i64 z] w fun e w' => e = .returned (.int .i64 (s.num x y z)) ∧ Ext w w' := by
  obtain ⟨c0, c1, c2, -, c5, -, hn⟩ := h
  have w1 := ok.w
  have d1 := ok.d
  have h1 := ok.h
  obtain ⟨w1, w2⟩ := w1
  obtain ⟨d1, d2⟩ := d1
  obtain ⟨h1, h2⟩ := h1
  go_enter Tryd.func63, Tryd.ntmps63
  go_wp2_with fail
  refine (from_c _ _ _ _).mono ?_
  rintro e w0 ⟨rfl, rfl⟩
  cases k1 : inB 0 (s.W - 1) x
  · go_wp2_with fail
    go_ret
    exact ⟨by simp [Shape.num, Shape.inside, k1], Ext.refl _⟩
  go_wp2_with fail
  refine (from_c _ _ _ _).mono ?_
  rintro e w0 ⟨rfl, rfl⟩
  cases k2 : inB 0 (s.D - 1) y
  · go_wp2_with fail
    go_ret
    exact ⟨by simp [Shape.num, Shape.inside, k2], Ext.refl _⟩
  go_wp2_with fail
  refine (from_c _ _ _ _).mono ?_
  rintro e w0 ⟨rfl, rfl⟩
  cases k3 : inB 0 (s.H - 1) z
  · go_wp2_with fail
    go_ret
    exact ⟨by simp [Shape.num, Shape.inside, k3], Ext.refl _⟩
  have hin : s.inside x y z = true := by simp [Shape.inside, k1, k2, k3]
  have hres : s.num x y z = numOf s.cells (s.idx x y z).toNat := by rw [Shape.num, if_pos hin]
  have hid := s.idx_in ok hin
  obtain ⟨i1, i2, i3, i4, i5, i6, -⟩ := hid
  rw [inB_iff] at k1 k2 k3
  obtain ⟨b, off, rfl, hb, hc⟩ := hn.at_ (numsOf_get (i := (s.idx x y z).toNat) (by omega))
  have ei : (z * s.D + y) * s.W + x = s.idx x y z := rfl
  have hi2 : (s.idx x y z) < (s.cells.length : Int) := i2
  have Hres := Lib.hid hres
  clear hres
  have hw1 : IntKind.i64.wrap (z * s.D) = z * s.D := IntWalk.i64_in _ (by omega)
  have hw2 : IntKind.i64.wrap ((z * s.D + y) * s.W) = (z * s.D + y) * s.W := IntWalk.i64_in _ (by omega)
  have hw3 : IntKind.i64.wrap (s.idx x y z) = s.idx x y z := IntWalk.i64_in _ (by omega)
  go_wp2_with fail
  refine wp_region_grow (by kernel_rfl) (by kernel_rfl) ?_
  repeat (go_big_quiet_step (fail))
  refine wpQuiet_nil ?_
  intro W3 hW3
  have E3 : Ext w W3 := by
    obtain ⟨x, rfl⟩ := hW3
    exact (Ext.refl _).grow x
  clear hW3
  obtain ⟨hcW3, hfW3, hzW3⟩ := ext_facts E3
  go_wp2_with fail
  go_ret
  exact ⟨by rw [Hres.out]; rfl, E3⟩
end Go.Proofs.YtaaeapjnjjbglaaDoor

namespace Go.Proofs.YtaaeapjnjjbglaaDoor
open Go.RowKit

def cellStep (s : Shape) (color z v u : Int) (m : Nat) : Option Nat :=
  if s.num u v z < 0 ∨ s.cells.getD (s.idx u v z).toNat 0 ≠ color then none else some (m ||| 2 ^ (s.num u v z).toNat)
def rowStep (s : Shape) (color z x : Int) (w : Nat) (v : Int) (m : Nat) : Option Nat := runs (fun j m => cellStep s color z v (x + j) m) w m
/-- The set of the cells of a block, if all have a colour. -/
def blockS (s : Shape) (x y z : Int) (w d : Nat) (color : Int) : Option Nat := runs (fun i m => rowStep s color z x w (y + i) m) d 0
def blockV : Option Nat → Value
  | some m => .tuple #[.int .u32 (m : Int), .bool true]
  | none => .tuple #[.int .u32 0, .bool false]

theorem num_lt {s : Shape} (ok : s.Ok) (x y z : Int) : s.num x y z < 16 := by
  unfold Shape.num
  split
  · rename_i h
    have h1 := s.idx_in ok h
    have h2 := numOf_hi (cs := s.cells) (i := (s.idx x y z).toNat) (by omega)
    have := ok.full
    omega
  · omega
theorem num_in {s : Shape} {x y z : Int} (h : ¬ s.num x y z < 0) : s.inside x y z = true := by
  cases hi : s.inside x y z
  · rw [Shape.num, hi] at h
    simp at h
  · rfl
theorem or_lt {m n : Nat} (h : m < 65536) (hn : n < 16) : m ||| 2 ^ n < 65536 := by
  have h2 : 2 ^ n < 2 ^ 16 := Nat.pow_lt_pow_right (by omega) hn
  have := Nat.or_lt_two_pow (x := m) (y := 2 ^ n) (n := 16) (by omega) h2
  omega
theorem or_bit {k n : Nat} (hk : k < 65536) (hn : n < 16) : bits .or .u32 (k : Int) ((2 : Int) ^ n % 4294967296) = ((k ||| 2 ^ n : Nat) : Int) := by
  have h2 : 2 ^ n < 2 ^ 16 := Nat.pow_lt_pow_right (by omega) hn
  have e : (2 : Int) ^ n % 4294967296 = ((2 ^ n : Nat) : Int) := by
    rw [Int.emod_eq_of_lt]
    · exact (Int.natCast_pow 2 n).symm
    · exact Int.pow_nonneg (by omega)
    · have : ((2 ^ n : Nat) : Int) < 4294967296 := by omega
      rwa [Int.natCast_pow] at this
  rw [e]
  exact u32_or_nat k (2 ^ n) (by omega) (by omega)

set_option maxRecDepth 100000 in
set_option maxHeartbeats 4000000 in
theorem block_c (x y z : Int) (wd dd : Nat) (color : Int) (g : Nat) (s : Shape) (A : Option Addr) (cap : Nat) (NA : Option Addr) (ncap : Nat) (ok : s.Ok) (hx : 0 ≤ x ∧ x ≤ 8) (hy : 0 ≤ y ∧ y ≤ 8) (hwd : wd ≤ 8) (hdd : dd ≤ 8)
    (w : World) (h : Base w g s A cap NA ncap) :
    Calls Tryd.prog 98 #[.pointer (some ⟨g, 0, none⟩), .int .i64 x, .int .i64 y, .int .i64 z, .int .i64 wd, .int .i64 dd, .int .u8 color] w fun e w' => e = .returned (blockV (blockS s x y z wd dd color)) ∧ Ext w w' := by
  obtain ⟨x1, x2⟩ := hx
  obtain ⟨y1, y2⟩ := hy
  go_enter Tryd.func98, Tryd.ntmps98
  go_wp2_with fail
  go_loopw [16, 17] (fun st v wr => ∃ i m : Nat, i ≤ dd ∧ v = .int .i64 (y + (i : Int)) ∧ st = .int .u32 (m : Int) ∧ runs (fun i m => rowStep s color z x wd (y + i) m) i 0 = some m ∧ m < 65536 ∧ Ext w wr) (fun _ v _ => (y + (dd : Int) - intOf v).toNat)
  case atStart => exact ⟨0, 0, by omega, by simp, rfl, rfl, by omega, Ext.refl _⟩
  case round =>
    obtain ⟨i, m, hi, rfl, rfl, hrun, hm, E⟩ := hrel
    have Hrun := Lib.hid hrun
    clear hrun
    by_cases hlt : i < dd
    · obtain ⟨wo, rfl⟩ : ∃ wo : World, wo = wr := ⟨_, rfl⟩
      go_wp2_with fail
      go_loopw [16, 18] (fun st u wr => ∃ j k : Nat, j ≤ wd ∧ u = .int .i64 (x + (j : Int)) ∧ st = .int .u32 (k : Int) ∧ runs (fun j m => cellStep s color z (y + i) (x + j) m) j m = some k ∧ k < 65536 ∧ Ext w wr) (fun _ u _ => (x + (wd : Int) - intOf u).toNat)
      case atStart => exact ⟨0, m, by omega, by simp, rfl, rfl, by omega, E⟩
      case round =>
        obtain ⟨j, k, hj, rfl, rfl, hrun2, hk, E2⟩ := hrel
        have Hrun2 := Lib.hid hrun2
        clear hrun2
        by_cases hlt2 : j < wd
        · have base := h.ext E2
          go_wp2_with fail
          refine (at_c (x + j) (y + i) z g s A cap NA ncap ok _ base).mono ?_
          rintro e w1 ⟨rfl, E3⟩
          have base := base.ext E3
          have hstep : cellStep s color z (y + i) (x + j) k = if s.num (x + j) (y + i) z < 0 ∨ s.cells.getD (s.idx (x + j) (y + i) z).toNat 0 ≠ color then none else some (k ||| 2 ^ (s.num (x + j) (y + i) z).toNat) := rfl
          have Hstep := Lib.hid hstep
          clear hstep
          have bad : cellStep s color z (y + i) (x + j) k = none → blockV (blockS s x y z wd dd color) = .tuple #[.int .u32 0, .bool false] := fun hf => by
            have h1 : rowStep s color z x wd (y + i) m = none := runs_fail Hrun2.out hf hlt2
            have h2 : blockS s x y z wd dd color = none := runs_fail Hrun.out h1 hlt
            rw [h2]
            rfl
          have Bad := Lib.hid bad
          clear bad
          have Fin := E2.trans E3
          by_cases hn : s.num (x + j) (y + i) z < 0
          · have hd : decide (s.num (x + j) (y + i) z < 0) = true := by simpa using hn
            go_wp2_with fail
            refine wp_region_grow (by kernel_rfl) (by kernel_rfl) ?_
            repeat (go_big_quiet_step (fail))
            refine wpQuiet_nil ?_
            intro W3 hW3
            have E4 : Ext w1 W3 := by
              obtain ⟨x, rfl⟩ := hW3
              exact (Ext.refl _).grow x
            clear hW3
            obtain ⟨hcW3, hfW3, hzW3⟩ := ext_facts E4
            go_wp2_with fail
            go_ret2
            exact ⟨by rw [Bad.out (by rw [Hstep.out, if_pos (Or.inl hn)])]; rfl, Fin.trans E4⟩
          · have hd : decide (s.num (x + j) (y + i) z < 0) = false := by simpa using hn
            have hin := num_in hn
            obtain ⟨i1, i2, i3, i4, i5, i6, i7⟩ := s.idx_in ok hin
            have hlo := num_lt ok (x + j) (y + i) z
            obtain ⟨b, off, c, rfl, hc, hok, hbl, hcell⟩ := base.bytes.at_ (k := (s.idx (x + j) (y + i) z).toNat) (by omega)
            have hcc : s.cells.getD (s.idx (x + j) (y + i) z).toNat 0 = c := by simp [hc]
            have Hc := Lib.hid hcc
            clear hcc hc
            obtain ⟨c0, c1, c2, c3, c5, -, -⟩ := base
            have ei : (z * s.D + (y + i)) * s.W + (x + j) = s.idx (x + j) (y + i) z := rfl
            have w1' := ok.w
            have d1' := ok.d
            obtain ⟨n, hnn⟩ := Int.eq_ofNat_of_zero_le (a := s.num (x + j) (y + i) z) (by omega)
            have hn16 : n < 16 := by omega
            have hz : z * s.D ≤ 32 := i4
            by_cases hcol : c = color
            · have hcol' : (c == color) = true := by simpa using hcol
              have hcol2 : (c != color) = false := by simpa using hcol
              have hgood : cellStep s color z (y + i) (x + j) k = some (k ||| 2 ^ n) := by
                rw [Hstep.out, if_neg (by rw [Hc.out]; exact fun h => h.elim hn (fun h => h hcol)), hnn]
                rfl
              have Hgood := Lib.hid hgood
              clear hgood
              have hor := or_lt hk hn16
              rw [hnn]
              rw [hnn] at hd hn
              clear hnn
              go_wp2_with fail
              refine wp_region_grow (by kernel_rfl) (by kernel_rfl) ?_
              repeat (go_big_quiet_step (fail))
              refine wpQuiet_nil ?_
              intro W3 hW3
              have E4 : Ext w1 W3 := by
                obtain ⟨x, rfl⟩ := hW3
                exact (Ext.refl _).grow x
              clear hW3
              obtain ⟨hcW3, hfW3, hzW3⟩ := ext_facts E4
              go_wp2_with fail
              go_roundw
              case rel => exact ⟨j + 1, k ||| 2 ^ n, by omega, by go_num, by rw [or_bit hk hn16], by rw [runs_succ Hrun2.out]; exact Hgood.out, hor, Fin.trans E4⟩
              case measure => simp only [intOf]; omega
            · have hcol2 : (c != color) = true := by simpa using hcol
              rw [hnn]
              rw [hnn] at hd hn
              clear hnn
              go_wp2_with fail
              refine wp_region_grow (by kernel_rfl) (by kernel_rfl) ?_
              repeat (go_big_quiet_step (fail))
              refine wpQuiet_nil ?_
              intro W3 hW3
              have E4 : Ext w1 W3 := by
                obtain ⟨x, rfl⟩ := hW3
                exact (Ext.refl _).grow x
              clear hW3
              obtain ⟨hcW3, hfW3, hzW3⟩ := ext_facts E4
              go_wp2_with fail
              go_ret2
              exact ⟨by rw [Bad.out (by rw [Hstep.out, Hc.out, if_pos (Or.inr hcol)])]; rfl, Fin.trans E4⟩
        · obtain rfl : j = wd := by omega
          go_wp2_with fail
          go_roundw
          case rel => exact ⟨i + 1, k, by omega, by go_num, rfl, by rw [runs_succ Hrun.out]; exact Hrun2.out, hk, E2⟩
          case measure => simp only [intOf]; omega
    · obtain rfl : i = dd := by omega
      have Hb := Lib.hid (show blockS s x y z wd i color = some m from Hrun.out)
      go_wp2_with fail
      go_ret2
      exact ⟨by rw [Hb.out]; rfl, E⟩
theorem block_i (x y z wi di color : Int) (g : Nat) (s : Shape) (A : Option Addr) (cap : Nat) (NA : Option Addr) (ncap : Nat) (ok : s.Ok) (hx : 0 ≤ x ∧ x ≤ 8) (hy : 0 ≤ y ∧ y ≤ 8) (hwd : 0 ≤ wi ∧ wi ≤ 8) (hdd : 0 ≤ di ∧ di ≤ 8)
    (w : World) (h : Base w g s A cap NA ncap) :
    Calls Tryd.prog 98 #[.pointer (some ⟨g, 0, none⟩), .int .i64 x, .int .i64 y, .int .i64 z, .int .i64 wi, .int .i64 di, .int .u8 color] w fun e w' => e = .returned (blockV (blockS s x y z wi.toNat di.toNat color)) ∧ Ext w w' := by
  obtain ⟨wd, rfl⟩ := Int.eq_ofNat_of_zero_le hwd.1
  obtain ⟨dd, rfl⟩ := Int.eq_ofNat_of_zero_le hdd.1
  exact block_c x y z wd dd color g s A cap NA ncap ok hx hy (by omega) (by omega) w h
end Go.Proofs.YtaaeapjnjjbglaaDoor
