/- Worlds that have only grown (new blocks, draws), and the one walk of a drawn region whose callees only make new blocks. Contracts of the small number functions of layer 7: from, within. Slices that read as rows of cells. A block that is known whole. Shapes; how many cells are full. Which shapes are valid: the program's and the reference's. -/
import Derived.Test.YtaaeapjnjjbglaaGreatDoorRows
import Derived.WalkKit
import Derived.WalkSpells
import Derived.WalkLawsBesides
import Derived.Deep.QuietTactic
import Derived.BigQuiet
import Derived.Lib.Hide

namespace Go.Proofs.YtaaeapjnjjbglaaGreatDoor
open Go.RowKit

/-- What a world has grown by: new blocks; the count of draws is whatever it is. -/
structure Growth where
  bs : Array Obj
  n : Nat
instance : Inhabited Growth := ⟨⟨#[], 0⟩⟩
/-- w with some blocks more, and some number of draws. -/
def grow (w : World) (x : Growth) : World := { w with heap := w.heap ++ x.bs, drawn := x.n }

theorem grow_size (w : World) (x : Growth) : (grow w x).heap.size = w.heap.size + x.bs.size := by simp [grow]

theorem grow_below (w : World) (x : Growth) : Below w.heap.size w (grow w x) :=
  ⟨rfl, rfl, rfl, by simp [grow], fun k hk => by simp [grow, Array.getElem?_append, hk]⟩

theorem grow_of_below {w w' : World} (h : Below w.heap.size w w') : ∃ x : Growth, w' = grow w x := by
  obtain ⟨h1, h2, h3, h4, h5⟩ := h
  obtain ⟨heap, tape, drawn, os, output⟩ := w
  obtain ⟨heap', tape', drawn', os', output'⟩ := w'
  simp only at h1 h2 h3 h4 h5
  subst h1 h2 h3
  refine ⟨⟨heap'.extract heap.size heap'.size, drawn'⟩, ?_⟩
  simp only [grow, World.mk.injEq, and_true]
  apply Array.ext_getElem?
  intro i
  rw [Array.getElem?_append]
  split
  · rename_i hi
    exact h5 i hi
  · rename_i hi
    rw [Array.getElem?_extract]
    split
    · congr 1
      omega
    · rw [Array.getElem?_eq_none]
      omega

theorem cell?_grow (w : World) (x : Growth) (a : Addr) (h : (w.cell? a).isSome = true) : (grow w x).cell? a = w.cell? a := by
  obtain ⟨u, hu⟩ := Option.isSome_iff_exists.1 h
  exact (grow_below w x).cell (World.block_lt_of_cell? w a hu)

attribute [go_sem] cell?_grow
theorem frozen?_grow (w : World) (x : Growth) (a : Addr) (h : a.block < w.heap.size) : (grow w x).frozen? a = w.frozen? a :=
  (grow_below w x).frozen h

theorem drew_grow (w : World) : w.drew = grow w ⟨#[], w.drawn + 1⟩ := by
  show ({ w with drawn := w.drawn + 1 } : World) = _
  simp [grow]
theorem drewN_grow (w : World) (n : Nat) : w.drewN n = grow w ⟨#[], w.drawn + n⟩ := by
  show ({ w with drawn := w.drawn + n } : World) = _
  simp [grow]

theorem below_of_grow {w w' : World} {x : Growth} (h : Below (grow w x).heap.size (grow w x) w') : Below w.heap.size w w' :=
  (grow_below w x).trans (h.mono (by simp [grow]))

/-- A callee that only makes new blocks, met in a world that has only grown. -/
theorem quiet_grow {P : Program} {f : FuncId} {args : Array Value} {w : World} {x : Growth} {v : Value}
    (h : Calls P f args (grow w x) fun e w' => e = .returned v ∧ Below (grow w x).heap.size (grow w x) w') :
    Calls P f args (grow w x) fun e w' => e = .returned v ∧ ∃ x', w' = grow w x' :=
  h.mono fun _ _ ⟨he, hb⟩ => ⟨he, grow_of_below (below_of_grow hb)⟩
theorem quiet_grow_same {P : Program} {f : FuncId} {args : Array Value} {w : World} {x : Growth} {v : Value}
    (h : Calls P f args (grow w x) fun e w' => e = .returned v ∧ grow w x = w') :
    Calls P f args (grow w x) fun e w' => e = .returned v ∧ ∃ x', w' = grow w x' :=
  h.mono fun _ _ ⟨he, hb⟩ => ⟨he, x, hb.symm⟩

theorem wp_region_grow {P : Program} {id : Nat} {Q : Exit → Act → World → Prop} {a : Act} {w : World} {l : List Oper} (hm : P.follows .mixedOrders = true) (hB : Region.lexB .any l.toArray = true)
    (h : wpQuiet P l.toArray (fun w' => ∃ x, w' = grow w x) (fun a' => ∀ w', (∃ x, w' = grow w x) → Q .normal a' w') l a) : (Code.region id l.toArray true).wp P Q a w :=
  wp_region_quiet (C := fun w' => ∃ x, w' = grow w x) hm hB ⟨⟨#[], w.drawn + 1⟩, by simp [grow]⟩ (by simpa using h)

/-- Nothing of what was there in a has turned in w; w may have more blocks and more draws. -/
def Ext (a w : World) : Prop := Below a.heap.size a w
theorem Ext.refl (w : World) : Ext w w := Below.refl _ _
theorem Ext.trans {a b c : World} (h : Ext a b) (k : Ext b c) : Ext a c := Below.trans h (k.mono h.size)
theorem Ext.drew {a w : World} (h : Ext a w) : Ext a w.drew := Below.drew h
theorem Ext.drewN {a w : World} (h : Ext a w) (n : Nat) : Ext a (w.drewN n) := h.trans ⟨rfl, rfl, rfl, Nat.le_refl _, fun _ _ => rfl⟩
theorem Ext.alloc {a w : World} (h : Ext a w) (o : Obj) : Ext a (w.alloc o) := Below.alloc h h.size o
theorem Ext.setCell {a w : World} (h : Ext a w) {p : Addr} (hp : a.heap.size ≤ p.block) (u : Value) : Ext a (w.setCell p u) := Below.setCell h hp u
theorem Ext.grown {a w w' : World} {row : Option Nat} (h : Ext a w) (hg : w.grownBy w' row) (hr : ∀ k, row = some k → a.heap.size ≤ k) : Ext a w' := Below.grown h hg h.size hr
theorem Ext.grow {a w : World} (h : Ext a w) (x : Growth) : Ext a (Go.Proofs.YtaaeapjnjjbglaaGreatDoor.grow w x) := h.trans (grow_below w x)
theorem Ext.cell {w w' : World} (h : Ext w w') {p : Addr} {v : Value} (hc : w.cell? p = some v) : w'.cell? p = some v := by
  rw [Below.cell h (World.block_lt_of_cell? w p hc)]; exact hc
theorem Ext.size {w w' : World} (h : Ext w w') : w.heap.size ≤ w'.heap.size := Below.size h
theorem Ext.frozen {w w' : World} (h : Ext w w') {p : Addr} (hp : p.block < w.heap.size) : w'.frozen? p = w.frozen? p := Below.frozen h hp
theorem grow_of_ext {w w' : World} (h : Ext w w') : ∃ x : Growth, w' = Go.Proofs.YtaaeapjnjjbglaaGreatDoor.grow w x := grow_of_below h
theorem quiet_ext {P : Program} {f : FuncId} {args : Array Value} {w : World} {x : Growth} {v : Value}
    (h : Calls P f args (Go.Proofs.YtaaeapjnjjbglaaGreatDoor.grow w x) fun e w' => e = .returned v ∧ Ext (Go.Proofs.YtaaeapjnjjbglaaGreatDoor.grow w x) w') :
    Calls P f args (Go.Proofs.YtaaeapjnjjbglaaGreatDoor.grow w x) fun e w' => e = .returned v ∧ ∃ x', w' = Go.Proofs.YtaaeapjnjjbglaaGreatDoor.grow w x' := quiet_grow h

theorem cell_new (w : World) (cs : Array Value) (t : TypeId) (i : Nat) : (w.alloc (.cells cs t)).cell? ⟨w.heap.size, i, none⟩ = cs[i]? := by
  rw [World.cell?_alloc_at _ _ _ _ rfl]
theorem cell_old (w : World) (o : Obj) (a : Addr) (h : a.block < w.heap.size) : (w.alloc o).cell? a = w.cell? a := World.cell?_alloc_lt _ _ _ h
theorem boxes1 (w : World) (ca : Array Value) (ta : TypeId) : ∃ W, w.alloc (.cells ca ta) = W ∧ Ext w W ∧ (∀ i, W.cell? ⟨w.heap.size, i, none⟩ = ca[i]?) ∧ W.heap.size = w.heap.size + 1 :=
  ⟨_, rfl, (Ext.refl w).alloc _, fun i => cell_new _ _ _ _, by simp⟩
theorem boxes2 (w : World) (ca cb : Array Value) (ta tb : TypeId) : ∃ W, (w.alloc (.cells ca ta)).alloc (.cells cb tb) = W ∧ Ext w W ∧ (∀ i, W.cell? ⟨w.heap.size, i, none⟩ = ca[i]?) ∧
    (∀ i, W.cell? ⟨w.heap.size + 1, i, none⟩ = cb[i]?) ∧ W.heap.size = w.heap.size + 2 := by
  refine ⟨_, rfl, ((Ext.refl w).alloc _).alloc _, fun i => ?_, fun i => ?_, by simp⟩
  · rw [cell_old _ _ _ (by simp), cell_new]
  · have := cell_new (w.alloc (.cells ca ta)) cb tb i
    rwa [World.size_alloc] at this
theorem ret_int {k : IntKind} {a b : Int} (h : a = b) : Ending.returned (.int k a) = .returned (.int k b) := by rw [h]
theorem quiet_left {P : Program} {f : FuncId} {args : Array Value} {w : World} {n : Nat} {v : Value}
    (h : Calls P f args (w.drewN n) fun e w' => e = .returned v ∧ w.drewN n = w') : Calls P f args (w.drewN n) fun e w'' => e = .returned v ∧ ∃ m, w'' = w.drewN m :=
  h.mono fun _ _ ⟨he, hm⟩ => ⟨he, n, hm.symm⟩
end Go.Proofs.YtaaeapjnjjbglaaGreatDoor

namespace Go.Proofs.YtaaeapjnjjbglaaGreatDoor
open Go.RowKit

def inB (lo hi n : Int) : Bool := decide (lo ≤ n) && decide (n ≤ hi)
theorem inB_iff {lo hi n : Int} : inB lo hi n = true ↔ lo ≤ n ∧ n ≤ hi := by simp [inB]
theorem inB_not {lo hi n : Int} : inB lo hi n = false ↔ ¬ (lo ≤ n ∧ n ≤ hi) := by
  rw [← inB_iff]; simp

set_option maxHeartbeats 400000 in
theorem from_c (lo hi n : Int) (w : World) :
    Calls Tryz.prog 45 #[.int .i64 lo, .int .i64 hi, .int .i64 n] w fun e w' => e = .returned (.bool (inB lo hi n)) ∧ w = w' := by
  by_cases h : lo ≤ n
  · go_enter Tryz.func45, Tryz.ntmps45
    go_wp2
    go_ret
    exact ⟨by simp [h, inB], rfl⟩
  · go_enter Tryz.func45, Tryz.ntmps45
    go_wp2
    go_ret
    exact ⟨by simp [inB]; omega, rfl⟩

def byteOk (x : Int) : Prop := 0 ≤ x ∧ x ≤ 255
end Go.Proofs.YtaaeapjnjjbglaaGreatDoor

namespace Go.Proofs.YtaaeapjnjjbglaaGreatDoor
open Go.RowKit

/-- The slice '.slice A n cap' reads, in w, as the rows of sz cells each. -/
structure SliceIs (w : World) (A : Option Addr) (n cap sz : Nat) (rows : List (List Value)) : Prop where
  len : rows.length = n
  le : n ≤ cap
  small : cap ≤ maxLen
  wide : ∀ r ∈ rows, r.length = sz
  cells : 0 < n → ∃ b off, A = some ⟨b, off, none⟩ ∧ b < w.heap.size ∧ ∀ i r, rows[i]? = some r → ∀ j u, r[j]? = some u → w.cell? ⟨b, off + i * sz + j, none⟩ = some u

theorem SliceIs.ext {w w' : World} {A : Option Addr} {n cap sz : Nat} {rows : List (List Value)} (h : SliceIs w A n cap sz rows) (e : Ext w w') : SliceIs w' A n cap sz rows := by
  obtain ⟨h1, h2, h3, h4, h5⟩ := h
  refine ⟨h1, h2, h3, h4, fun hn => ?_⟩
  obtain ⟨b, off, hA, hb, hc⟩ := h5 hn
  exact ⟨b, off, hA, Nat.lt_of_lt_of_le hb e.size, fun i r hr j u hu => e.cell (hc i r hr j u hu)⟩

end Go.Proofs.YtaaeapjnjjbglaaGreatDoor

namespace Go.Proofs.YtaaeapjnjjbglaaGreatDoor
open Go.RowKit

/-- Block g is the cells cs of element type t, none of them frozen. -/
def Blk (w : World) (g : Nat) (t : TypeId) (cs : Array Value) : Prop := w.heap[g]? = some (.cells cs t (0, 0))

section
variable {w w' : World} {g : Nat} {t : TypeId} {cs : Array Value}
theorem Blk.lt (h : Blk w g t cs) : g < w.heap.size := by
  rcases Nat.lt_or_ge g w.heap.size with hlt | hge
  · exact hlt
  · unfold Blk at h
    rw [Array.getElem?_eq_none hge] at h
    cases h
theorem Blk.cell (h : Blk w g t cs) (i : Nat) : w.cell? ⟨g, i, none⟩ = cs[i]? := by
  unfold Blk at h
  simp [World.cell?, h]
theorem Blk.frozen (h : Blk w g t cs) (i : Nat) : w.frozen? ⟨g, i, none⟩ = false := by
  unfold Blk at h
  simp [World.frozen?, h]
theorem Blk.new (w : World) (cs : Array Value) (t : TypeId) : Blk (w.alloc (.cells cs t)) w.heap.size t cs := by
  show (w.heap.push _)[w.heap.size]? = _
  simp
theorem Blk.ext (h : Blk w g t cs) (e : Ext w w') : Blk w' g t cs := (Below.block e g h.lt).trans h
theorem Blk.drew (h : Blk w g t cs) : Blk w.drew g t cs := h
theorem Blk.drewN (h : Blk w g t cs) (n : Nat) : Blk (w.drewN n) g t cs := h
theorem Blk.alloc (h : Blk w g t cs) (o : Obj) : Blk (w.alloc o) g t cs := h.ext ((Ext.refl w).alloc o)
theorem Blk.set_ (h : Blk w g t cs) (i : Nat) (u : Value) : Blk (w.setCell ⟨g, i, none⟩ u) g t (cs.setIfInBounds i u) := by
  unfold Blk at h ⊢
  simp [World.setCell, Array.getElem?_modify, h]
theorem Blk.far (h : Blk w g t cs) {p : Addr} (hp : g ≠ p.block) (u : Value) : Blk (w.setCell p u) g t cs := (Below.heap_setCell w p u g hp).trans h
theorem Blk.below {B : Nat} (h : Blk w g t cs) (hb : Below B w w') (hg : g < B) : Blk w' g t cs := (hb.block g hg).trans h
theorem Blk.grown {row : Option Nat} (h : Blk w g t cs) (hb : w.grownBy w' row) (hg : some g ≠ row) : Blk w' g t cs := (hb.block g h.lt hg).trans h

/-- Three cells of a block stored: the new world under one name, with what is known of it. -/
theorem Blk.store3 {a b c : Value} (h : Blk w g t #[a, b, c]) (a' b' c' : Value) : ∃ w2, ((w.setCell ⟨g, 0, none⟩ a').setCell ⟨g, 1, none⟩ b').setCell ⟨g, 2, none⟩ c' = w2 ∧ Blk w2 g t #[a', b', c'] ∧
    (∀ k t' cs', k ≠ g → Blk w k t' cs' → Blk w2 k t' cs') ∧ (∀ w0, Ext w0 w → w0.heap.size ≤ g → Ext w0 w2) ∧ w2.heap.size = w.heap.size := by
  refine ⟨_, rfl, ?_, fun k t' cs' hk hb => ((hb.far hk _).far hk _).far hk _, fun w0 hE hg => ((hE.setCell hg _).setCell hg _).setCell hg _, by simp [World.setCell]⟩
  have := ((h.set_ 0 a').set_ 1 b').set_ 2 c'
  simpa using this
end
end Go.Proofs.YtaaeapjnjjbglaaGreatDoor

namespace Go.Proofs.YtaaeapjnjjbglaaGreatDoor
open Go.RowKit

/-- A block made: the new world under one name. -/
theorem box_ (w : World) (ca : Array Value) (ta : TypeId) : ∃ W, w.alloc (.cells ca ta) = W ∧ Ext w W ∧ Blk W w.heap.size ta ca ∧ W.heap.size = w.heap.size + 1 :=
  ⟨_, rfl, (Ext.refl w).alloc _, Blk.new _ _ _, by simp⟩

structure Shape where
  W : Int
  D : Int
  H : Int
  cells : List Int
/-- The slice reads as bytes. -/
def Bytes (w : World) (A : Option Addr) (cap : Nat) (cs : List Int) : Prop := SliceIs w A cs.length cap 1 (cs.map fun c => [.int .u8 c]) ∧ ∀ c ∈ cs, byteOk c
theorem Bytes.ext {w w' : World} {A : Option Addr} {cap : Nat} {cs : List Int} (h : Bytes w A cap cs) (e : Ext w w') : Bytes w' A cap cs := ⟨h.1.ext e, h.2⟩
theorem Bytes.len {w : World} {A : Option Addr} {cap : Nat} {cs : List Int} (h : Bytes w A cap cs) : cs.length ≤ maxLen := Nat.le_trans h.1.le h.1.small
/-- One byte of it. -/
theorem Bytes.at_ {w : World} {A : Option Addr} {cap : Nat} {cs : List Int} (h : Bytes w A cap cs) {k : Nat} (hk : k < cs.length) :
    ∃ b off c, A = some ⟨b, off, none⟩ ∧ cs[k]? = some c ∧ byteOk c ∧ b < w.heap.size ∧ w.cell? ⟨b, off + k, none⟩ = some (.int .u8 c) := by
  obtain ⟨b, off, rfl, hb, hc⟩ := h.1.cells (by omega)
  have hn : cs[k]? = some cs[k] := List.getElem?_eq_getElem hk
  have hc0 := hc k [.int .u8 cs[k]] (by rw [List.getElem?_map, hn]; rfl) 0 _ rfl
  simp only [Nat.mul_one, Nat.add_zero] at hc0
  exact ⟨b, off, _, rfl, hn, h.2 _ (List.mem_of_getElem? hn), hb, hc0⟩

/-- How many are full. -/
def fullN (cs : List Int) : Nat := cs.countP (fun c => decide (c ≠ 0))
theorem fullN_le (cs : List Int) : fullN cs ≤ cs.length := List.countP_le_length
theorem fullN_succ {cs : List Int} {k : Nat} {c : Int} (h : cs[k]? = some c) : fullN (cs.take (k + 1)) = fullN (cs.take k) + if c = 0 then 0 else 1 := by
  rw [List.take_add_one, h]
  unfold fullN
  rw [Option.toList_some, List.countP_append]
  by_cases hc : c = 0 <;> simp [hc]

set_option maxHeartbeats 800000 in
theorem full_c (A : Option Addr) (cap : Nat) (wd d h : Int) (cs : List Int) (w : World) (hs : Bytes w A cap cs) :
    Calls Tryz.prog 83 #[.agg #[.int .i64 wd, .int .i64 d, .int .i64 h, .slice A cs.length cap]] w fun e w' => e = .returned (.int .i64 (fullN cs)) ∧ Ext w w' := by
  have hl := hs.len
  unfold maxLen at hl
  obtain ⟨W, hW, E, B, hz⟩ := box_ w #[.int .i64 wd, .int .i64 d, .int .i64 h, .slice A cs.length cap] 24
  have bc := B.cell
  have hb := B.lt
  have hs2 := hs.ext E
  go_enter Tryz.func83, Tryz.ntmps83
  go_wp2
  go_loop [3, 9] (fun n i => ∃ k : Nat, k ≤ cs.length ∧ i = .int .i64 k ∧ n = .int .i64 (fullN (cs.take k))) (fun _ i => cs.length - (intOf i).toNat)
  case atStart => exact ⟨0, by omega, rfl, rfl⟩
  case round =>
    obtain ⟨k, hk, rfl, rfl⟩ := hrel
    by_cases hlt : k < cs.length
    · obtain ⟨b, off, c, rfl, hc, hok, hbl, hcell⟩ := hs2.at_ hlt
      have hf := fullN_succ hc
      have hle := fullN_le (cs.take k)
      rw [List.length_take, Nat.min_eq_left (by omega)] at hle
      by_cases h0 : c = 0
      · have Hf := Lib.hid hf
        clear hf
        subst h0
        go_wp2
        go_round
        case rel => exact ⟨k + 1, by omega, by go_num, by rw [Hf.out]; rfl⟩
        case measure => simp only [intOf]; omega
      · rw [if_neg h0] at hf
        have Hf := Lib.hid hf
        clear hf
        go_wp2
        go_round
        case rel => exact ⟨k + 1, by omega, by go_num, by rw [Hf.out]; go_num⟩
        case measure => simp only [intOf]; omega
    · obtain rfl : k = cs.length := by omega
      go_wp2
      go_ret
      exact ⟨by simp, E⟩
end Go.Proofs.YtaaeapjnjjbglaaGreatDoor

namespace Go.Proofs.YtaaeapjnjjbglaaGreatDoor
open Go.RowKit

theorem strange_c (c : Int) (w : World) : Calls Tryz.prog 81 #[.int .u8 c] w fun e w' => e = .returned (.bool (decide (15 < c))) ∧ w = w' := by
  go_enter Tryz.func81, Tryz.ntmps81
  go_wp2
  go_ret
  exact ⟨rfl, rfl⟩

/-- No colour beyond the last. -/
def plainB (cs : List Int) : Bool := cs.all fun c => decide (c ≤ 15)
set_option maxHeartbeats 800000 in
theorem indexFunc_c (A : Option Addr) (cap : Nat) (cs : List Int) (w : World) (hs : Bytes w A cap cs) :
    Calls Tryz.prog 113 #[.slice A cs.length cap, .func (.func 81) #[] #[]] w fun e w' => (∃ r, e = .returned (.int .i64 r) ∧ decide (0 ≤ r) = !plainB cs) ∧ w = w' := by
  have hl := hs.len
  unfold maxLen at hl
  go_enter Tryz.func113, Tryz.ntmps113
  go_wp2
  go_loop [8] (fun i => ∃ k : Nat, k ≤ cs.length ∧ i = .int .i64 k ∧ ∀ j c, j < k → cs[j]? = some c → c ≤ 15) (fun i => cs.length - (intOf i).toNat)
  case atStart => exact ⟨0, by omega, rfl, fun j c hj => by omega⟩
  case round =>
    obtain ⟨k, hk, rfl, hj⟩ := hrel
    have Hj := Lib.hid hj
    clear hj
    by_cases hlt : k < cs.length
    · obtain ⟨b, off, c, rfl, hc, hok, hbl, hcell⟩ := hs.at_ hlt
      have Hc := Lib.hid hc
      clear hc
      by_cases h0 : 15 < c
      · go_wp2_with (go_at_call 81; refine (strange_c c _).mono ?_; rintro e w' ⟨rfl, rfl⟩)
        go_ret
        refine ⟨⟨k, rfl, ?_⟩, rfl⟩
        have : plainB cs = false := by
          rw [plainB, List.all_eq_false]
          exact ⟨c, List.mem_of_getElem? Hc.out, by simp; omega⟩
        simp [this]
      · go_wp2_with (go_at_call 81; refine (strange_c c _).mono ?_; rintro e w' ⟨rfl, rfl⟩)
        go_round
        case rel =>
          refine ⟨k + 1, by omega, by go_num, fun j c' hj hc' => ?_⟩
          rcases Nat.lt_or_ge j k with h | h
          · exact Hj.out j c' h hc'
          · obtain rfl : j = k := by omega
            rw [Hc.out] at hc'
            cases hc'
            omega
        case measure => simp only [intOf]; omega
    · obtain rfl : k = cs.length := by omega
      go_wp2
      go_ret
      refine ⟨⟨-1, rfl, ?_⟩, rfl⟩
      have : plainB cs = true := by
        rw [plainB, List.all_eq_true]
        intro c hc
        obtain ⟨j, hj⟩ := List.getElem?_of_mem hc
        have : j < cs.length := by
          rcases Nat.lt_or_ge j cs.length with h | h
          · exact h
          · rw [List.getElem?_eq_none h] at hj; cases hj
        simpa using Hj.out j c this hj
      simp [this]
theorem contains_c (A : Option Addr) (cap : Nat) (cs : List Int) (w : World) (hs : Bytes w A cap cs) :
    Calls Tryz.prog 82 #[.slice A cs.length cap, .func (.func 81) #[] #[]] w fun e w' => e = .returned (.bool (!plainB cs)) ∧ w = w' := by
  go_enter Tryz.func82, Tryz.ntmps82
  go_wp2_with (go_at_call 113; refine (indexFunc_c A cap cs _ hs).mono ?_; rintro e w' ⟨⟨r, rfl, hr⟩, rfl⟩)
  go_ret
  exact ⟨by rw [← hr]; rfl, rfl⟩
end Go.Proofs.YtaaeapjnjjbglaaGreatDoor
