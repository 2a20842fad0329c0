/- The board while look fills it. The board when it is filled. set, sets, Check of the program. Bits of a set, one after another; how many there are. math/bits.OnesCount32. math/bits.TrailingZeros32, where its table reads as the text lays it. -/
import Derived.Test.YtaaeapjnjjbglaaDoorCm5
import Derived.Deep.RegionHeld3
import Derived.Deep.RegionLaw
import Derived.Lib.TrailingZeros
import Derived.BigQuiet
import Derived.KernelRfl
import Derived.Shelf.Spec.TrailingZeros

namespace Go.Proofs.YtaaeapjnjjbglaaDoor
open Go.RowKit

/-- Of the blocks below B only g may have turned. -/
structure But (g B : Nat) (w w' : World) : Prop where
  os : w'.os = w.os
  tape : w'.tape = w.tape
  output : w'.output = w.output
  size : w.heap.size ≤ w'.heap.size
  block : ∀ k, k < B → k ≠ g → w'.heap[k]? = w.heap[k]?
theorem But.refl (g B : Nat) (w : World) : But g B w w := ⟨rfl, rfl, rfl, Nat.le_refl _, fun _ _ _ => rfl⟩
theorem But.trans {g B : Nat} {a b c : World} (h : But g B a b) (k : But g B b c) : But g B a c :=
  ⟨k.os.trans h.os, k.tape.trans h.tape, k.output.trans h.output, Nat.le_trans h.size k.size, fun i hi hg => (k.block i hi hg).trans (h.block i hi hg)⟩
theorem But.ext {g B : Nat} {a b c : World} (h : But g B a b) (k : Ext b c) (hB : B ≤ b.heap.size) : But g B a c :=
  h.trans ⟨k.1, k.2, k.3, k.size, fun i hi _ => k.block i (by omega)⟩
theorem But.alloc {g B : Nat} {a b : World} (h : But g B a b) (hB : B ≤ b.heap.size) (o : Obj) : But g B a (b.alloc o) := h.ext ((Ext.refl b).alloc o) hB
theorem But.setG {g B : Nat} {a b : World} (h : But g B a b) (i : Nat) (u : Value) : But g B a (b.setCell ⟨g, i, none⟩ u) :=
  h.trans ⟨rfl, rfl, rfl, by simp [World.setCell], fun k _ hk => Below.heap_setCell _ _ _ _ hk⟩
theorem But.grown {g B : Nat} {a b c : World} {row : Option Nat} (h : But g B a b) (k : b.grownBy c row) (hB : B ≤ b.heap.size) (hr : ∀ r, row = some r → B ≤ r) : But g B a c :=
  h.trans ⟨k.os, k.tape, k.output, k.size, fun i hi _ => k.block i (by omega) (fun e => by have := hr i e.symm; omega)⟩
theorem But.below {g B : Nat} {a b c : World} (h : But g B b c) (k : Ext a b) (h1 : a.heap.size ≤ g) (h2 : a.heap.size ≤ B) : Ext a c :=
  ⟨h.os.trans k.os, h.tape.trans k.tape, h.output.trans k.output, Nat.le_trans k.size h.size, fun i hi => (h.block i (by omega) (by omega)).trans (k.block i hi)⟩
theorem But.cell {g B : Nat} {a b : World} (h : But g B a b) {p : Addr} {v : Value} (hp : p.block < B) (hg : p.block ≠ g) (hc : a.cell? p = some v) : b.cell? p = some v := by
  rw [← hc]
  unfold World.cell?
  rw [h.block _ hp hg]
theorem SliceIs.but {g B : Nat} {a b : World} {A : Option Addr} {n cap sz : Nat} {rows : List (List Value)} (h : SliceIs a A n cap sz rows) (k : But g B a b) (hA : ∀ q, A = some q → q.block < B ∧ q.block ≠ g) : SliceIs b A n cap sz rows := by
  obtain ⟨h1, h2, h3, h4, h5⟩ := h
  refine ⟨h1, h2, h3, h4, fun hn => ?_⟩
  obtain ⟨bb, off, hAe, hb, hc⟩ := h5 hn
  obtain ⟨q1, q2⟩ := hA _ hAe
  exact ⟨bb, off, hAe, Nat.lt_of_lt_of_le hb k.size, fun i r hr j u hu => k.cell q1 q2 (hc i r hr j u hu)⟩
theorem Blk.but {G B g : Nat} {a b : World} {t : TypeId} {cs : Array Value} (h : Blk a g t cs) (k : But G B a b) (h1 : g < B) (h2 : g ≠ G) : Blk b g t cs := (k.block g h1 h2).trans h
theorem infoPair : (Tryd.prog.info? 125).map (fun i => (i.zero, i.size, i.bytes)) = some (some (.agg #[.int .i64 0, .int .i64 0]), 2, 16) := by kernel_rfl
theorem infoMap : (Tryd.prog.info? 126).map (fun i => (i.zero, i.size, i.bytes)) = some (some (.map none), 1, 8) := by kernel_rfl

/-- The cells of the board. -/
def brdCells (s : Shape) (A : Option Addr) (cap : Nat) (PA : Option Addr) (pl pcap : Nat) (nv av ev ov lv : Value) : Array Value :=
  #[.int .i64 s.W, .int .i64 s.D, .int .i64 s.H, .slice A s.cells.length cap, .slice PA pl pcap, nv, av, ev, ov, lv]
theorem nums_take {cs : List Int} {k : Nat} (h : k < cs.length) : (numsOf cs).take (k + 1) = (numsOf cs).take k ++ [numOf cs k] := by
  rw [List.take_add_one, numsOf_get h]
  rfl
theorem shapeErr_ok {s : Shape} (h : s.valid = true) : shapeErr s = 0 := by simp [shapeErr, h]
theorem platesErr_ok {l : List Plate} (h : platesB l = true) : platesErr l = 0 := by simp [platesErr, h]

/-! ### rows of the call's own -/
/-- A guard: the operation of a region is this append. -/
theorem at_append {P : Program} {ops : Array Oper} {o : Oper} {a : Act} {w : World} {K : Act → World → Prop} {Q : Exit → Act → World → Prop} {F : Prop} (args : Array Operand) (ts : Array TypeId)
    (_ : o.op = .call { callee := .builtin .append, args := args, argTypes := ts }) (h : if Region.wanted o (yielded ops a.tmps) = true then o.wp P a w K Q else F) : if Region.wanted o (yielded ops a.tmps) = true then o.wp P a w K Q else F := h

theorem own_forms {w : World} {base : Nat} {e : TypeId} {size : Nat} {v : Value} {n : Nat} {xs : List Value} (h : w.ownsRow base e size v n xs) : ∃ A cap, v = .slice A n cap := by
  rcases h.2 with ⟨rfl, rfl⟩ | ⟨g, cap, cur, hv, _⟩
  · exact ⟨none, 0, rfl⟩
  · exact ⟨_, cap, hv⟩
theorem own_grown {w w' : World} {base : Nat} {e : TypeId} {size : Nat} {v : Value} {n : Nat} {xs : List Value} {row : Option Nat} (h : w.ownsRow base e size v n xs) (hg : w.grownBy w' row) (hr : v.ownBlock = none ∨ v.ownBlock ≠ row) :
    w'.ownsRow base e size v n xs := by
  obtain ⟨h1, h2⟩ := h
  refine ⟨h1, ?_⟩
  rcases h2 with h2 | ⟨g, cap, cur, hv, hb, hh, r⟩
  · exact Or.inl h2
  · refine Or.inr ⟨g, cap, cur, hv, hb, ?_, r⟩
    have hlt : g < w.heap.size := (Array.getElem?_eq_some_iff.1 hh).1
    rw [hg.block g hlt ?_]
    · exact hh
    · subst hv
      rcases hr with hr | hr
      · cases hr
      · exact fun e => hr (by rw [← e]; rfl)
theorem own_blk {w : World} {base : Nat} {e : TypeId} {size : Nat} {v : Value} {n : Nat} {xs : List Value} (h : w.ownsRow base e size v n xs) {g : Nat} {t : TypeId} {cs : Array Value} (hb : Blk w g t cs) (he : t ≠ e) : some g ≠ v.ownBlock := by
  intro e1
  rcases h.2 with ⟨rfl, _⟩ | ⟨g', cap, cur, rfl, _, hg, _⟩
  · cases e1
  · simp only [Value.ownBlock, Option.some.injEq] at e1
    subst e1
    unfold Blk at hb
    rw [hg] at hb
    simp only [Option.some.injEq, Obj.cells.injEq] at hb
    exact he hb.2.1.symm
theorem ext_alloc (w : World) (o : Obj) : Ext w (w.alloc o) := (Ext.refl w).alloc o

def encNat (n : Nat) : Value := .int .i64 (n : Int)
def mapV (n : Nat) : Value := .map (some n)
def pairCells (p : Int × Int) : List Value := [.int .i64 p.1, .int .i64 p.2]
/-- What each sort covers from the place with an index. -/
def layAt (s : Shape) (l : List Plate) (p : Nat) (q : Int × Bool) : Option Nat := layF s l (s.px p) (s.py p) (s.pz p) (s.cells.getD p 0) l.length q

/-- The maps of these places. -/
def MapsOf (s : Shape) (l : List Plate) (T M : Nat) (w : World) (ps ms : List Nat) : Prop :=
  ∀ (j Mj p : Nat), ms[j]? = some Mj → ps[j]? = some p → Mj ≠ M ∧ T ≤ Mj ∧ ∃ m, MapOf encSort encSet w Mj m ∧ ∀ q, getK m q = layAt s l p q

structure Mid (s : Shape) (l : List Plate) (A : Option Addr) (cap : Nat) (PA : Option Addr) (pcap G T M NB ncap : Nat) (W5 w : World) (ab : List Int) (es : List (Int × Int)) (pm : List ((Int × Int) × Nat)) (ps ms : List Nat) (av : Value) (EA : Option Addr) (ec : Nat) (ov lv : Value) : Prop where
  size : T ≤ w.heap.size
  but : But G T W5 w
  brd : Blk w G 122 (brdCells s A cap PA l.length pcap (.slice (some ⟨NB, 0, none⟩) s.cells.length ncap) av (.slice EA es.length ec) ov lv)
  oa : w.ownsRow T 3 1 av ab.length (ab.map iv)
  oe : w.ownsRow T 125 2 (.slice EA es.length ec) es.length (es.map pairCells).flatten
  len : ms.length = ps.length
  ol : w.ownsRow T 126 1 lv ps.length (ms.map mapV)
  maps : MapsOf s l T M w ps ms
  om : MapOf encPair encNat w M pm

section
variable {s : Shape} {l : List Plate} {A : Option Addr} {cap : Nat} {PA : Option Addr} {pcap G T M NB ncap : Nat} {W5 w : World} {ab : List Int} {es : List (Int × Int)} {pm : List ((Int × Int) × Nat)} {ps ms : List Nat} {av : Value} {EA : Option Addr} {ec : Nat} {ov lv : Value}

theorem MapsOf.ext {w' : World} (h : MapsOf s l T M w ps ms) (E : Ext w w') : MapsOf s l T M w' ps ms := fun j Mj p h1 h2 => by
  obtain ⟨a, b, m, h3, h4⟩ := h j Mj p h1 h2
  exact ⟨a, b, m, h3.ext E, h4⟩
theorem Mid.ext {w' : World} (h : Mid s l A cap PA pcap G T M NB ncap W5 w ab es pm ps ms av EA ec ov lv) (E : Ext w w') : Mid s l A cap PA pcap G T M NB ncap W5 w' ab es pm ps ms av EA ec ov lv :=
  ⟨Nat.le_trans h.size E.size, h.but.ext E h.size, h.brd.ext E, own_ext h.oa E, own_ext h.oe E, h.len, own_ext h.ol E, h.maps.ext E, h.om.ext E⟩
/-- A block of cells turns, or the map M. -/
theorem MapsOf.turn {w' : World} {row : Option Nat} (h : MapsOf s l T M w ps ms) (hg : w.grownBy w' row) (h2 : ∀ r, row = some r → r = M ∨ ∃ t cs z, w.heap[r]? = some (.cells cs t z)) : MapsOf s l T M w' ps ms := fun j Mj p hj hp => by
  obtain ⟨a, b, m, h3, h4⟩ := h j Mj p hj hp
  refine ⟨a, b, m, h3.grown hg (fun e => ?_), h4⟩
  rcases h2 Mj e.symm with h5 | ⟨t, cs, z, h5⟩
  · exact a h5
  · obtain ⟨es, clock, h6, _⟩ := h3
    rw [h5] at h6
    cases h6
theorem own_cells (M : Nat) {base : Nat} {e : TypeId} {size : Nat} {v : Value} {n : Nat} {xs : List Value} (h : w.ownsRow base e size v n xs) : ∀ r, v.ownBlock = some r → r = M ∨ ∃ t cs z, w.heap[r]? = some (.cells cs t z) := by
  intro r hr
  rcases h.2 with ⟨rfl, _⟩ | ⟨g, cap, cur, rfl, _, hg, _⟩
  · cases hr
  · simp only [Value.ownBlock, Option.some.injEq] at hr
    subst hr
    exact Or.inr ⟨_, _, _, hg⟩
theorem MapsOf.far (h : MapsOf s l T M w ps ms) (hG : G < T) (i : Nat) (u : Value) : MapsOf s l T M (w.setCell ⟨G, i, none⟩ u) ps ms := fun j Mj p h1 h2 => by
  obtain ⟨a, b, m, h3, h4⟩ := h j Mj p h1 h2
  exact ⟨a, b, m, h3.far (by show Mj ≠ G; omega) u, h4⟩
theorem mid_size {w' : World} {row : Option Nat} (h : T ≤ w.heap.size) (hg : w.grownBy w' row) : T ≤ w'.heap.size := Nat.le_trans h hg.size
theorem set_size (w : World) (p : Addr) (u : Value) : (w.setCell p u).heap.size = w.heap.size := by simp [World.setCell]

/-- One more of those above. -/
theorem Mid.appA (h : Mid s l A cap PA pcap G T M NB ncap W5 w ab es pm ps ms av EA ec ov lv) (hG : G < T) (hM : T ≤ M) {a : Int} {t : TypeId} {w4 : World} {v' : Value} (own4 : w4.ownsRow T 3 1 v' (ab.length + 1) (ab.map iv ++ [iv a]))
    (hg : (w.alloc (.cells #[.int .i64 a] t)).grownBy w4 av.ownBlock) : ∃ W6, w4.setCell ⟨G, 6, none⟩ v' = W6 ∧ Mid s l A cap PA pcap G T M NB ncap W5 W6 (ab ++ [a]) es pm ps ms v' EA ec ov lv := by
  obtain ⟨h0, h1, h2, h3, h4, h5, h6, h7, h8⟩ := h.ext (ext_alloc w (.cells #[.int .i64 a] t))
  have hr : ∀ r, av.ownBlock = some r → T ≤ r := fun r hr => (h3.lt r hr).1
  refine ⟨_, rfl, by rw [set_size]; exact mid_size h0 hg, (h1.grown hg h0 hr).setG _ _, ?_, ?_, own_setCell (own_grown h4 hg (own_apart h4 h3 (by decide))) hG _, h5, own_setCell (own_grown h6 hg (own_apart h6 h3 (by decide))) hG _,
    (h7.turn hg (own_cells M h3)).far hG _ _, (h8.grown hg (own_map h3 h8)).far (by show M ≠ G; omega) _⟩
  · exact (h2.grown hg (own_ne h3 hG)).set_ 6 v'
  · rw [List.map_append, List.length_append]
    exact own_setCell own4 hG _
/-- One more pair. -/
theorem Mid.appE (h : Mid s l A cap PA pcap G T M NB ncap W5 w ab es pm ps ms av EA ec ov lv) (hG : G < T) (hM : T ≤ M) {a b : Int} {t : TypeId} {w4 : World} {EA' : Option Addr} {ec' : Nat} (own4 : w4.ownsRow T 125 2 (.slice EA' (es.length + 1) ec') (es.length + 1) ((es.map pairCells).flatten ++ [.int .i64 a, .int .i64 b]))
    (hg : (w.alloc (.cells #[.int .i64 a, .int .i64 b] t)).grownBy w4 (Value.slice EA es.length ec).ownBlock) : ∃ W6, w4.setCell ⟨G, 7, none⟩ (.slice EA' (es.length + 1) ec') = W6 ∧ Mid s l A cap PA pcap G T M NB ncap W5 W6 ab (es ++ [(a, b)]) pm ps ms av EA' ec' ov lv := by
  obtain ⟨h0, h1, h2, h3, h4, h5, h6, h7, h8⟩ := h.ext (ext_alloc w (.cells #[.int .i64 a, .int .i64 b] t))
  have hr : ∀ r, (Value.slice EA es.length ec).ownBlock = some r → T ≤ r := fun r hr => (h4.lt r hr).1
  refine ⟨_, rfl, by rw [set_size]; exact mid_size h0 hg, (h1.grown hg h0 hr).setG _ _, ?_, own_setCell (own_grown h3 hg (own_apart h3 h4 (by decide))) hG _, ?_, h5, own_setCell (own_grown h6 hg (own_apart h6 h4 (by decide))) hG _,
    (h7.turn hg (own_cells M h4)).far hG _ _, (h8.grown hg (own_map h4 h8)).far (by show M ≠ G; omega) _⟩
  · rw [List.length_append]
    exact (h2.grown hg (own_ne h4 hG)).set_ 7 _
  · rw [List.map_append, List.length_append, List.flatten_append]
    exact own_setCell own4 hG _
/-- One more map. -/
theorem Mid.appL (h : Mid s l A cap PA pcap G T M NB ncap W5 w ab es pm ps ms av EA ec ov lv) (hG : G < T) (hM : T ≤ M) {Mn p : Nat} {t : TypeId} {w4 : World} {v' : Value} {mn : List ((Int × Bool) × Nat)} (hMn : M < Mn) (hmap : MapOf encSort encSet w Mn mn) (hget : ∀ q, getK mn q = layAt s l p q)
    (own4 : w4.ownsRow T 126 1 v' (ps.length + 1) (ms.map mapV ++ [mapV Mn])) (hg : (w.alloc (.cells #[.map (some Mn)] t)).grownBy w4 lv.ownBlock) :
    ∃ W6, w4.setCell ⟨G, 9, none⟩ v' = W6 ∧ Mid s l A cap PA pcap G T M NB ncap W5 W6 ab es pm (ps ++ [p]) (ms ++ [Mn]) av EA ec ov v' := by
  have hmap' := hmap.ext (ext_alloc w (.cells #[.map (some Mn)] t))
  obtain ⟨h0, h1, h2, h3, h4, h5, h6, h7, h8⟩ := h.ext (ext_alloc w (.cells #[.map (some Mn)] t))
  have hr : ∀ r, lv.ownBlock = some r → T ≤ r := fun r hr => (h6.lt r hr).1
  refine ⟨_, rfl, by rw [set_size]; exact mid_size h0 hg, (h1.grown hg h0 hr).setG _ _, (h2.grown hg (own_ne h6 hG)).set_ 9 _, own_setCell (own_grown h3 hg (own_apart h3 h6 (by decide))) hG _, own_setCell (own_grown h4 hg (own_apart h4 h6 (by decide))) hG _,
    by simp [h5], ?_, ?_, (h8.grown hg (own_map h6 h8)).far (by show M ≠ G; omega) _⟩
  · rw [List.map_append, List.length_append]
    exact own_setCell own4 hG _
  · have hold := (h7.turn hg (own_cells M h6)).far hG 9 v'
    intro j Mj q hj hq
    rcases Nat.lt_or_ge j ms.length with hlt | hge
    · rw [List.getElem?_append_left hlt] at hj
      rw [List.getElem?_append_left (by omega)] at hq
      exact hold j Mj q hj hq
    · rw [List.getElem?_append_right hge] at hj
      rw [List.getElem?_append_right (by omega)] at hq
      have hj0 : j - ms.length = 0 := by
        have := (List.getElem?_eq_some_iff.1 hj).1
        simp at this
        omega
      rw [hj0] at hj
      rw [show j - ps.length = 0 by omega] at hq
      simp only [List.getElem?_cons_zero, Option.some.injEq] at hj hq
      subst hj hq
      exact ⟨by omega, by omega, mn, (hmap'.grown hg (own_map h6 hmap')).far (by show Mn ≠ G; omega) _, hget⟩
theorem Mid.put (h : Mid s l A cap PA pcap G T M NB ncap W5 w ab es pm ps ms av EA ec ov lv) (hG : G < T) (hM : T ≤ M) {w6 : World} {pm' : List ((Int × Int) × Nat)} (hm : MapOf encPair encNat w6 M pm') (hg : w.grownBy w6 (some M)) : Mid s l A cap PA pcap G T M NB ncap W5 w6 ab es pm' ps ms av EA ec ov lv := by
  obtain ⟨h0, h1, h2, h3, h4, h5, h6, h7, h8⟩ := h
  exact ⟨mid_size h0 hg, h1.grown hg h0 (fun r e => by cases e; exact hM), h2.grown hg (fun e => by cases e; omega), own_grown h3 hg (Or.inr (own_map h3 h8).symm), own_grown h4 hg (Or.inr (own_map h4 h8).symm), h5, own_grown h6 hg (Or.inr (own_map h6 h8).symm),
    h7.turn hg (fun r e => Or.inl (by cases e; rfl)), hm⟩
/-- One more of those over pairs: a row in blocks from T2 on. -/
theorem Mid.appO {T2 : Nat} {os : List Int} (h : Mid s l A cap PA pcap G T M NB ncap W5 w ab es pm ps ms av EA ec ov lv) (hov : w.ownsRow T2 3 1 ov os.length (os.map iv)) (hav : ∀ r, av.ownBlock = some r → r < T2) (hT2 : T ≤ T2) (hG : G < T) (hM : T ≤ M) {a : Int} {t : TypeId} {w4 : World} {v' : Value}
    (own4 : w4.ownsRow T2 3 1 v' (os.length + 1) (os.map iv ++ [iv a])) (hg : (w.alloc (.cells #[.int .i64 a] t)).grownBy w4 ov.ownBlock) :
    ∃ W6, w4.setCell ⟨G, 8, none⟩ v' = W6 ∧ Mid s l A cap PA pcap G T M NB ncap W5 W6 ab es pm ps ms av EA ec v' lv ∧ W6.ownsRow T2 3 1 v' (os ++ [a]).length ((os ++ [a]).map iv) := by
  obtain ⟨h0, h1, h2, h3, h4, h5, h6, h7, h8⟩ := h.ext (ext_alloc w (.cells #[.int .i64 a] t))
  have hov := own_ext hov (ext_alloc w (.cells #[.int .i64 a] t))
  have hr : ∀ r, ov.ownBlock = some r → T2 ≤ r := fun r hr => (hov.lt r hr).1
  have hr2 : ∀ r, ov.ownBlock = some r → T ≤ r := fun r h => Nat.le_trans hT2 (hr r h)
  have hao : av.ownBlock = none ∨ av.ownBlock ≠ ov.ownBlock := by
    cases e : av.ownBlock with
    | none => exact Or.inl rfl
    | some r =>
      right
      intro e2
      have := hr r e2.symm
      have := hav r e
      omega
  refine ⟨_, rfl, ⟨by rw [set_size]; exact mid_size h0 hg, (h1.grown hg h0 hr2).setG _ _, (h2.grown hg (own_ne hov (by omega))).set_ 8 _, own_setCell (own_grown h3 hg hao) hG _, own_setCell (own_grown h4 hg (own_apart h4 hov (by decide))) hG _,
    h5, own_setCell (own_grown h6 hg (own_apart h6 hov (by decide))) hG _, (h7.turn hg (own_cells M hov)).far hG _ _, (h8.grown hg (own_map hov h8)).far (by show M ≠ G; omega) _⟩, ?_⟩
  rw [List.map_append, List.length_append]
  exact own_setCell own4 (show G < T2 by omega) _

theorem Mid.c6 (h : Mid s l A cap PA pcap G T M NB ncap W5 w ab es pm ps ms av EA ec ov lv) : w.cell? ⟨G, 6, none⟩ = some av := h.brd.cell 6
theorem Mid.c7 (h : Mid s l A cap PA pcap G T M NB ncap W5 w ab es pm ps ms av EA ec ov lv) : w.cell? ⟨G, 7, none⟩ = some (.slice EA es.length ec) := h.brd.cell 7
theorem Mid.c8 (h : Mid s l A cap PA pcap G T M NB ncap W5 w ab es pm ps ms av EA ec ov lv) : w.cell? ⟨G, 8, none⟩ = some ov := h.brd.cell 8
theorem Mid.c9 (h : Mid s l A cap PA pcap G T M NB ncap W5 w ab es pm ps ms av EA ec ov lv) : w.cell? ⟨G, 9, none⟩ = some lv := h.brd.cell 9

/-- With some row of those above; with some row of maps. -/
def MidA (s : Shape) (l : List Plate) (A : Option Addr) (cap : Nat) (PA : Option Addr) (pcap G T M NB ncap : Nat) (W5 : World) (ab : List Int) (es : List (Int × Int)) (pm : List ((Int × Int) × Nat)) (ps ms : List Nat) (EA : Option Addr) (ec : Nat) (ov lv : Value) (w : World) : Prop :=
  ∃ av, Mid s l A cap PA pcap G T M NB ncap W5 w ab es pm ps ms av EA ec ov lv
def MidL (s : Shape) (l : List Plate) (A : Option Addr) (cap : Nat) (PA : Option Addr) (pcap G T M NB ncap : Nat) (W5 : World) (ab : List Int) (es : List (Int × Int)) (pm : List ((Int × Int) × Nat)) (ps : List Nat) (av : Value) (EA : Option Addr) (ec : Nat) (ov : Value) (w : World) : Prop :=
  ∃ ms lv, Mid s l A cap PA pcap G T M NB ncap W5 w ab es pm ps ms av EA ec ov lv

/-! ### the pairs of one place -/
def edgesJ (s : Shape) (k j : Nat) : List (Int × Int) :=
  edgesS s k ++ ((if 1 ≤ j ∧ 0 ≤ s.num (s.px k + 1) (s.py k) (s.pz k) then [(numOf s.cells k, s.num (s.px k + 1) (s.py k) (s.pz k))] else []) ++
    (if 2 ≤ j ∧ 0 ≤ s.num (s.px k) (s.py k + 1) (s.pz k) then [(numOf s.cells k, s.num (s.px k) (s.py k + 1) (s.pz k))] else []))
theorem edgesJ_zero (s : Shape) (k : Nat) : edgesJ s k 0 = edgesS s k := by simp [edgesJ]
theorem edgesJ_one_y {s : Shape} {k : Nat} {n : Int} (h : s.num (s.px k + 1) (s.py k) (s.pz k) = n) (hn : 0 ≤ n) : edgesJ s k 1 = edgesJ s k 0 ++ [(numOf s.cells k, n)] := by
  subst h
  simp [edgesJ, hn]
theorem edgesJ_one_n {s : Shape} {k : Nat} {n : Int} (h : s.num (s.px k + 1) (s.py k) (s.pz k) = n) (hn : ¬ 0 ≤ n) : edgesJ s k 1 = edgesJ s k 0 := by
  subst h
  simp [edgesJ, hn]
theorem edgesJ_two_y {s : Shape} {k : Nat} {n : Int} (h : s.num (s.px k) (s.py k + 1) (s.pz k) = n) (hn : 0 ≤ n) : edgesJ s k 2 = edgesJ s k 1 ++ [(numOf s.cells k, n)] := by
  subst h
  simp [edgesJ, hn]
theorem edgesJ_two_n {s : Shape} {k : Nat} {n : Int} (h : s.num (s.px k) (s.py k + 1) (s.pz k) = n) (hn : ¬ 0 ≤ n) : edgesJ s k 2 = edgesJ s k 1 := by
  subst h
  simp [edgesJ, hn]
theorem edgesJ_end {s : Shape} {k : Nat} (h : ¬ numOf s.cells k < 0) : edgesS s (k + 1) = edgesJ s k 2 := by
  rw [edgesS, if_neg h]
  simp [edgesJ, edgesAt]

/-! ### what the callees need -/
theorem Mid.base (h : Mid s l A cap PA pcap G T M NB ncap W5 w ab es pm ps ms av EA ec ov lv) (hb : Bytes w A cap s.cells) (hn : Ints W5 (some ⟨NB, 0, none⟩) ncap (numsOf s.cells)) (h1 : NB < T) (h2 : NB ≠ G) : Base w G s A cap (some ⟨NB, 0, none⟩) ncap := by
  have c := h.brd.cell
  exact ⟨c 0, c 1, c 2, c 3, c 5, hb, SliceIs.but hn h.but (fun q hq => by cases hq; exact ⟨h1, h2⟩)⟩
theorem Mid.below {w0 : World} (h : Mid s l A cap PA pcap G T M NB ncap W5 w ab es pm ps ms av EA ec ov lv) (E : Ext w0 W5) (h1 : w0.heap.size ≤ G) (h2 : w0.heap.size ≤ T) : Ext w0 w := h.but.below E h1 h2
theorem Mid.brd4 (h : Mid s l A cap PA pcap G T M NB ncap W5 w ab es pm ps ms av EA ec ov lv) (hb : Bytes w A cap s.cells) (hp : Plates w PA pcap l) (hn : Ints W5 (some ⟨NB, 0, none⟩) ncap (numsOf s.cells)) (h1 : NB < T) (h2 : NB ≠ G) : Brd w G s A cap (some ⟨NB, 0, none⟩) ncap l PA pcap :=
  ⟨h.base hb hn h1 h2, h.brd.cell 4, hp⟩
end
end Go.Proofs.YtaaeapjnjjbglaaDoor

namespace Go.Proofs.YtaaeapjnjjbglaaDoor
open Go.RowKit

theorem own_any {w : World} {b : Nat} {e : TypeId} {sz : Nat} {A : Option Addr} {n cap : Nat} {rows : List (List Value)} (hsz : 0 < sz) (hw : ∀ r ∈ rows, r.length = sz) (hn : rows.length = n) (h : w.ownsRow b e sz (.slice A n cap) n rows.flatten) : SliceIs w A n cap sz rows := by
  rcases Nat.eq_zero_or_pos n with h0 | h0
  · subst h0
    rcases h.2 with ⟨hv, _⟩ | ⟨g, cap', cur, hv, _, _, h1, h2, _⟩
    · cases hv
      exact ⟨hn, Nat.le_refl _, Nat.zero_le _, hw, fun h => by omega⟩
    · cases hv
      exact ⟨hn, h1, h2, hw, fun h => by omega⟩
  · exact own_slice hsz hw hn h0 h
theorem flat_ints (xs : List Int) : (xs.map fun n => [Value.int .i64 n]).flatten = xs.map iv := by
  induction xs with
  | nil => rfl
  | cons x l ih => simp [iv, ih]
theorem flat_maps (ms : List Nat) : (ms.map fun n => [mapV n]).flatten = ms.map mapV := by
  induction ms with
  | nil => rfl
  | cons x l ih => simp [ih]
theorem own_ints {w : World} {b : Nat} {A : Option Addr} {cap : Nat} {xs : List Int} (h : w.ownsRow b 3 1 (.slice A xs.length cap) xs.length (xs.map iv)) : Ints w A cap xs :=
  own_any (by decide) (by simp) (by simp) (by rw [flat_ints]; exact h)
theorem own_pairs {w : World} {b : Nat} {A : Option Addr} {cap : Nat} {es : List (Int × Int)} (h : w.ownsRow b 125 2 (.slice A es.length cap) es.length (es.map pairCells).flatten) : SliceIs w A es.length cap 2 (es.map pairCells) :=
  own_any (by decide) (by
    intro r hr
    obtain ⟨p, _, rfl⟩ := List.mem_map.1 hr
    rfl) (by simp) h
theorem pair_at {w : World} {A : Option Addr} {cap : Nat} {es : List (Int × Int)} (h : SliceIs w A es.length cap 2 (es.map pairCells)) {k : Nat} (hk : k < es.length) :
    ∃ b off p, A = some ⟨b, off, none⟩ ∧ es[k]? = some p ∧ b < w.heap.size ∧ w.cell? ⟨b, off + k * 2, none⟩ = some (.int .i64 p.1) ∧ w.cell? ⟨b, off + k * 2 + 1, none⟩ = some (.int .i64 p.2) := by
  obtain ⟨b, off, hA, hb, hc⟩ := SliceIs.cells h (by omega)
  have hget : es[k]? = some es[k] := List.getElem?_eq_getElem hk
  have hr : (es.map pairCells)[k]? = some (pairCells es[k]) := by rw [List.getElem?_map, hget]; rfl
  exact ⟨b, off, es[k], hA, hget, hb, hc k _ hr 0 _ rfl, hc k _ hr 1 _ rfl⟩

/-! ### what is over the pairs -/
def overT (s : Shape) (k : Nat) : List Int := (overS s).take k
theorem overS_len (s : Shape) : (overS s).length = (eds s).length := by simp [overS, eds]
theorem overT_len {s : Shape} {k : Nat} (h : k ≤ (eds s).length) : (overT s k).length = k := by
  unfold overT
  rw [List.length_take, overS_len]
  omega
theorem overT_succ {s : Shape} {k : Nat} {p : Int × Int} {o : Int} (h : (eds s)[k]? = some p) (ho : overAt (abv s) (eds s) p = o) : overT s (k + 1) = overT s k ++ [o] := by
  unfold overT
  rw [List.take_add_one]
  have : (overS s)[k]? = some o := by
    unfold overS
    rw [List.getElem?_map]
    show Option.map _ (eds s)[k]? = _
    rw [h]
    exact congrArg some ho
  rw [this]
  rfl
theorem overT_all (s : Shape) : overT s (eds s).length = overS s := by
  unfold overT
  rw [List.take_of_length_le (by rw [overS_len]; exact Nat.le_refl _)]

def lookV : Option Nat → Value
  | some v => .tuple #[.int .i64 (v : Int), .bool true]
  | none => .tuple #[.int .i64 0, .bool false]
def overV : Option Nat → Int
  | some j => (j : Int)
  | none => -1
theorem overAt_eq (ab : List Int) (es : List (Int × Int)) (p : Int × Int) : overAt ab es p = overV (getK (pairsOf es) (ab.getD p.1.toNat 0, ab.getD p.2.toNat 0)) := by
  unfold overAt
  cases getK (pairsOf es) (ab.getD p.1.toNat 0, ab.getD p.2.toNat 0) <;> rfl
theorem look_pairs {w : World} {M : Nat} {pm : List ((Int × Int) × Nat)} (h : MapOf encPair encNat w M pm) (a b : Int) : (Instr.lookup 123 (.map (some M)) (.agg #[.int .i64 a, .int .i64 b]) true).run Tryd.prog w = .ok (lookV (getK pm (a, b))) w := by
  have := lookup_run pairKey Tryd.underlying123 (w := w) (z := .int .i64 0) (by kernel_rfl) h (a, b) true
  rw [show Value.agg #[.int .i64 a, .int .i64 b] = encPair (a, b) from rfl, this]
  cases getK pm (a, b) <;> rfl

/-! ### the board -/
structure Board (w : World) (g : Nat) (s : Shape) (A : Option Addr) (cap : Nat) (l : List Plate) (PA : Option Addr) (pcap : Nat) (NA : Option Addr) (ncap : Nat) (AA : Option Addr) (acap : Nat) (EA : Option Addr) (ecap : Nat) (OA : Option Addr) (ocap : Nat) (LA : Option Addr) (lcap : Nat) (ms : List Nat) : Prop where
  brd : Brd w g s A cap NA ncap l PA pcap
  c6 : w.cell? ⟨g, 6, none⟩ = some (.slice AA (fullN s.cells) acap)
  c7 : w.cell? ⟨g, 7, none⟩ = some (.slice EA (eds s).length ecap)
  c8 : w.cell? ⟨g, 8, none⟩ = some (.slice OA (eds s).length ocap)
  c9 : w.cell? ⟨g, 9, none⟩ = some (.slice LA (fullN s.cells) lcap)
  above : Ints w AA acap (abv s)
  edges : SliceIs w EA (eds s).length ecap 2 ((eds s).map pairCells)
  over : Ints w OA ocap (overS s)
  lays : SliceIs w LA (fullN s.cells) lcap 1 (ms.map fun n => [mapV n])
  len : ms.length = fullN s.cells
  maps : ∀ (j Mj : Nat), ms[j]? = some Mj → ∃ m, MapOf encSort encSet w Mj m ∧ ∀ q, getK m q = layAt s l ((placesS s s.cells.length).getD j 0) q
theorem Board.ext {w w' : World} {g : Nat} {s : Shape} {A : Option Addr} {cap : Nat} {l : List Plate} {PA : Option Addr} {pcap : Nat} {NA : Option Addr} {ncap : Nat} {AA : Option Addr} {acap : Nat} {EA : Option Addr} {ecap : Nat} {OA : Option Addr} {ocap : Nat} {LA : Option Addr} {lcap : Nat} {ms : List Nat}
    (h : Board w g s A cap l PA pcap NA ncap AA acap EA ecap OA ocap LA lcap ms) (e : Ext w w') : Board w' g s A cap l PA pcap NA ncap AA acap EA ecap OA ocap LA lcap ms :=
  ⟨h.brd.ext e, e.cell h.c6, e.cell h.c7, e.cell h.c8, e.cell h.c9, h.above.ext e, h.edges.ext e, h.over.ext e, h.lays.ext e, h.len, fun j Mj hj => by
    obtain ⟨m, h1, h2⟩ := h.maps j Mj hj
    exact ⟨m, h1.ext e, h2⟩⟩
/-- What look leaves behind. -/
def LookOk (s : Shape) (l : List Plate) (A : Option Addr) (cap : Nat) (PA : Option Addr) (pcap : Nat) (w : World) (e : Ending) (w' : World) : Prop :=
  ∃ g NA ncap AA acap EA ecap OA ocap LA lcap ms, e = .returned (.tuple #[.pointer (some ⟨g, 0, none⟩), .int .i64 0]) ∧ Board w' g s A cap l PA pcap NA ncap AA acap EA ecap OA ocap LA lcap ms ∧ Ext w w'
theorem board_of {s : Shape} {l : List Plate} {A : Option Addr} {cap : Nat} {PA : Option Addr} {pcap G T M NB ncap T2 : Nat} {W5 w : World} {pm : List ((Int × Int) × Nat)} {ms : List Nat} {AA : Option Addr} {acap : Nat} {EA : Option Addr} {ec : Nat} {ov lv : Value}
    (h : Mid s l A cap PA pcap G T M NB ncap W5 w (abv s) (eds s) pm (placesS s s.cells.length) ms (.slice AA (abv s).length acap) EA ec ov lv) (hb : Brd w G s A cap (some ⟨NB, 0, none⟩) ncap l PA pcap)
    (ho : w.ownsRow T2 3 1 ov (overT s (eds s).length).length ((overT s (eds s).length).map iv)) :
    ∃ OA ocap LA lcap, Board w G s A cap l PA pcap (some ⟨NB, 0, none⟩) ncap AA acap EA ec OA ocap LA lcap ms := by
  obtain ⟨OA, ocap, rfl⟩ := own_forms ho
  obtain ⟨LA, lcap, rfl⟩ := own_forms h.ol
  have hp : (placesS s s.cells.length).length = fullN s.cells := by
    rw [placesS_len]
    exact abv_len
  refine ⟨OA, ocap, LA, lcap, hb, ?_, h.c7, ?_, ?_, own_ints h.oa, own_pairs h.oe, ?_, ?_, h.len.trans hp, fun j Mj hj => ?_⟩
  · have := h.c6
    rw [abv_len] at this
    exact this
  · have := h.c8
    rw [overT_len (Nat.le_refl _)] at this
    exact this
  · have := h.c9
    rw [hp] at this
    exact this
  · have := own_ints ho
    rw [overT_all] at this
    exact this
  · have := h.ol
    rw [hp] at this
    exact own_any (by decide) (by simp) (by simp [h.len, hp]) (by rw [flat_maps]; exact this)
  · have hj2 : j < (placesS s s.cells.length).length := by
      have := (List.getElem?_eq_some_iff.1 hj).1
      rw [h.len] at this
      exact this
    have hg : (placesS s s.cells.length)[j]? = some ((placesS s s.cells.length).getD j 0) := by
      rw [List.getD_eq_getElem?_getD, List.getElem?_eq_getElem hj2]
      rfl
    exact (h.maps j Mj _ hj hg).2.2
end Go.Proofs.YtaaeapjnjjbglaaDoor

namespace Go.Proofs.YtaaeapjnjjbglaaDoor
open Go.RowKit

theorem infoU32 : (Tryd.prog.info? 130).map (fun i => (i.zero, i.size, i.bytes)) = some (some (.int .u32 0), 1, 4) := by kernel_rfl
def uv (n : Nat) : Value := .int .u32 (n : Int)
/-- What a lookup of a sort gives. -/
def sortV : Option Nat → Value
  | some v => .tuple #[.int .u32 (v : Int), .bool true]
  | none => .tuple #[.int .u32 0, .bool false]
theorem look_sort {w : World} {M : Nat} {m : List ((Int × Bool) × Nat)} (h : MapOf encSort encSet w M m) (a : Int) (b : Bool) : (Instr.lookup 126 (.map (some M)) (.agg #[.int .i64 a, .bool b]) true).run Tryd.prog w = .ok (sortV (getK m (a, b))) w := by
  have := lookup_run sortKey Tryd.underlying126 (w := w) (z := .int .u32 0) (by kernel_rfl) h (a, b) true
  rw [show Value.agg #[.int .i64 a, .bool b] = encSort (a, b) from rfl, this]
  cases getK m (a, b) <;> rfl
/-- The map of a place. -/
theorem lay_place {s : Shape} {l : List Plate} (ok : s.Ok) {x y z : Int} {n : Nat} (h : s.num x y z = n) (q : Int × Bool) :
    layAt s l ((placesS s s.cells.length).getD n 0) q = layF s l x y z (s.colorAt x y z) l.length q := by
  have hin : s.inside x y z = true := num_in (by omega)
  have hid := s.idx_in ok hin
  obtain ⟨p1, p2, p3⟩ := s.place_of ok hin
  have hne : s.num x y z = numOf s.cells (s.idx x y z).toNat := s.num_eq hin
  have hg := placesS_get (s := s) (Nat.le_refl _) (show (s.idx x y z).toNat < s.cells.length by omega) (by omega)
  rw [← hne, h, Int.toNat_natCast] at hg
  rw [List.getD_eq_getElem?_getD, hg]
  show layAt s l (s.idx x y z).toNat q = _
  unfold layAt Shape.colorAt
  rw [p1, p2, p3, if_pos hin]
theorem bits_and {a b : Nat} (ha : a < 65536) (hb : b < 65536) : bits .and .u32 (a : Int) (b : Int) = ((a &&& b : Nat) : Int) := by
  exact u32_and_nat a b (by omega) (by omega)
theorem bits_or {a b : Nat} (ha : a < 65536) (hb : b < 65536) : bits .or .u32 (a : Int) (b : Int) = ((a ||| b : Nat) : Int) := by
  exact u32_or_nat a b (by omega) (by omega)
theorem cover_small {s : Shape} {l : List Plate} {c : Laid} {m : Nat} (ok : s.Ok) (hm : coverOf s l c = some m) : m < 65536 := by
  have : m < 2 ^ 16 := by
    apply Nat.lt_pow_two_of_testBit
    intro i hi
    cases hb : m.testBit i
    · rfl
    · have := (cover_lt ok hm hb).1
      have := ok.full
      omega
  omega
theorem liesB_plate {s : Shape} {l : List Plate} {c : Laid} (h : liesB s l c = true) : 0 ≤ c.plate ∧ c.plate < l.length := (lies_iff.1 h).1
theorem own_setCell_ne {w : World} {base : Nat} {e : TypeId} {size : Nat} {v : Value} {n : Nat} {xs : List Value} (h : w.ownsRow base e size v n xs) {p : Addr} (hp : p.block < base) (u : Value) : (w.setCell p u).ownsRow base e size v n xs := own_setCell h hp u
theorem flat_uv (xs : List Nat) : (xs.map fun n => [uv n]).flatten = xs.map uv := by
  induction xs with
  | nil => rfl
  | cons x l ih => simp [ih]
theorem full_eq {F all : Nat} (hF : F ≤ 16) : ((all : Int) == ((2 : Int) ^ F - 1) % 4294967296) = decide (all = 2 ^ F - 1) := by
  have h1 : 2 ^ F ≤ 2 ^ 16 := Nat.pow_le_pow_right (by omega) hF
  have h2 : 1 ≤ 2 ^ F := Nat.one_le_two_pow
  have e : (2 : Int) ^ F = ((2 ^ F : Nat) : Int) := (Int.natCast_pow 2 F).symm
  rw [e]
  generalize 2 ^ F = p at h1 h2
  rw [Bool.eq_iff_iff]
  simp only [beq_iff_eq, decide_eq_true_eq]
  omega
/-- What set hands back. -/
def SetRes (s : Shape) (l : List Plate) (c : List Laid) (w : World) (e : Ending) (w' : World) : Prop :=
  (∃ SA sc, ∃ out : List Nat, e = .returned (.tuple #[.slice SA out.length sc, .bool (setB s l c)]) ∧ (setB s l c = true → SliceIs w' SA out.length sc 1 (out.map fun m => [uv m]) ∧ ∃ all, setRun s l c c.length = some (out, all) ∧ all = 2 ^ fullN s.cells - 1)) ∧ Ext w w'
theorem setB_bad {s : Shape} {l : List Plate} {c : List Laid} {k : Nat} {out : List Nat} {all : Nat} (h : setRun s l c k = some (out, all)) (hk : k < c.length) (hs : setStep s l c k (out, all) = none) : setB s l c = false := by
  have : setRun s l c c.length = none := runs_fail h hs hk
  unfold setB
  rw [this]

set_option maxRecDepth 100000 in
set_option maxHeartbeats 8000000 in
theorem set_c (g : Nat) (s : Shape) (A : Option Addr) (cap : Nat) (l : List Plate) (PA : Option Addr) (pcap : Nat) (NA : Option Addr) (ncap : Nat) (AA : Option Addr) (acap : Nat) (EA : Option Addr) (ec : Nat) (OA : Option Addr) (oc : Nat) (LA : Option Addr) (lc : Nat) (ms : List Nat)
    (c : List Laid) (CA : Option Addr) (ccap : Nat) (ok : s.Ok) (okl : platesB l = true) (hclen : c.length ≤ 1000) (w : World) (hB : Board w g s A cap l PA pcap NA ncap AA acap EA ec OA oc LA lc ms) (hcs : Laids w CA ccap c) :
    Calls Tryd.prog 82 #[.pointer (some ⟨g, 0, none⟩), .slice CA c.length ccap] w (SetRes s l c w) := by
  have hl8 := plates_len okl
  have hmk := make_ints l.length (by omega)
  obtain ⟨W2, hW2, E2, B2, hz2⟩ := box_ w (intsA (List.replicate l.length 0)) 3
  rw [← usedL_zero l c] at B2
  obtain ⟨U, hU⟩ : ∃ U, w.heap.size = U := ⟨_, rfl⟩
  rw [hU] at B2 hz2
  have c4 := hB.brd.c4
  have hF := ok.full
  go_enter Tryd.func82, Tryd.ntmps82
  go_wp2_with fail
  clear hmk hW2 c4
  have HU := Lib.hid hU
  clear hU
  go_loopw [6, 7, 8, 23] (fun ov al la i wr => ∃ (k : Nat) (out : List Nat) (all : Nat), k ≤ c.length ∧ i = .int .i64 k ∧ al = .int .u32 (all : Int) ∧ la = .int .i64 (prevNum s c k) ∧ setRun s l c k = some (out, all) ∧ all < 65536 ∧ Ext w wr ∧
    Blk wr U 3 (intsA (usedL l c k)) ∧ wr.ownsRow (U + 1) 130 1 ov out.length (out.map uv)) (fun _ _ _ i _ => c.length - (intOf i).toNat)
  case atStart => exact ⟨0, [], 0, by omega, rfl, rfl, rfl, rfl, by omega, E2, B2, World.ownsRow_nil _ _ _ _⟩
  case round =>
    obtain ⟨k, out, all, hk, rfl, rfl, rfl, hrun, hall, E, BU, own⟩ := hrel
    have hol1 : out.length ≤ 1000 := by have := (setRun_is hrun).len; omega
    have Hrun := Lib.hid hrun
    clear hrun
    have hUr : U < wr.heap.size := BU.lt
    by_cases hlt : k < c.length
    · obtain ⟨b, off, a, rfl, ha, hb, a0, a1, a2, a3, a4⟩ := hcs.at_ hlt
      obtain ⟨q0, q1, q2, q3, q4⟩ := E.five a0 a1 a2 a3 a4
      have hbr : b < wr.heap.size := Nat.lt_of_lt_of_le hb E.size
      have Ha := Lib.hid ha
      have Hla := Lib.hid (laidAt_eq ha)
      clear ha
      obtain ⟨W1, hW1, E1, B1, hz1⟩ := box_ wr #[.int .i64 a.plate, .int .i64 a.x, .int .i64 a.y, .int .i64 a.z, .bool a.turned] 64
      have b1 := B1.cell
      have BU1 := BU.ext E1
      have own1 := own_ext own E1
      have E01 := E.trans E1
      have hB1 := hB.ext E01
      obtain ⟨n, hn⟩ : ∃ n, s.num a.x a.y a.z = n := ⟨_, rfl⟩
      obtain ⟨la, hla⟩ : ∃ la, prevNum s c k = la := ⟨_, rfl⟩
      have hlo : -1 ≤ la := by rw [← hla]; exact prevNum_ge s c k
      have Hn := Lib.hid hn
      have Hlast := Lib.hid hla
      rw [hla]
      clear hla
      by_cases hle : n ≤ la
      · have hd : decide (n ≤ la) = true := by simpa using hle
        have Hbad := Lib.hid (setB_bad Hrun.out hlt (by
          unfold setStep numL
          rw [Hla.out, Hn.out, Hlast.out, if_pos hle]))
        clear hn hle
        go_wp2_with fail
        refine (at_c a.x a.y a.z g s A cap _ _ ok _ hB1.brd.base).mono ?_
        rintro e W3 ⟨rfl, E3⟩
        rw [Hn.out]
        go_wp2_with fail
        go_ret2
        exact ⟨⟨none, 0, [], by rw [Hbad.out]; rfl, fun h => by rw [Hbad.out] at h; cases h⟩, E01.trans E3⟩
      · have hd : decide (n ≤ la) = false := by simpa using hle
        have hnlt : n < fullN s.cells := by rw [← hn]; exact num_lt_full ok _ _ _
        clear hn
        obtain ⟨j, hj⟩ := Int.eq_ofNat_of_zero_le (show 0 ≤ n by omega)
        subst hj
        have hjm : j < ms.length := by rw [hB.len]; omega
        obtain ⟨Mj, hMj⟩ : ∃ Mj, ms[j]? = some Mj := ⟨_, List.getElem?_eq_getElem hjm⟩
        obtain ⟨m, hmap, hget⟩ := hB.maps j Mj hMj
        have Hcov : Hid (getK m (a.plate, a.turned) = coverOf s l a) := Lib.hid (by
          rw [hget, lay_place ok Hn.out]
          rfl)
        clear hget
        obtain ⟨lb, loff, hLA, hlb, hlc⟩ := hB.lays.cells (by omega)
        have lcell := hlc j [mapV Mj] (by rw [List.getElem?_map, hMj]; rfl) 0 _ rfl
        simp only [Nat.mul_one, Nat.add_zero, mapV] at lcell
        subst hLA
        clear hlc hMj hjm
        obtain ⟨r, hr⟩ : ∃ r, coverOf s l a = r := ⟨_, rfl⟩
        have Hr := Lib.hid hr
        clear hr
        cases r with
        | none =>
          have Hbad := Lib.hid (setB_bad Hrun.out hlt (by
            unfold setStep numL
            rw [Hla.out, Hn.out, Hlast.out, if_neg (show ¬ ((j : Int) ≤ la) by omega), Hr.out]))
          go_wp2_with fail
          refine (at_c a.x a.y a.z g s _ cap _ _ ok _ hB1.brd.base).mono ?_
          rintro e W3 ⟨rfl, E3⟩
          rw [Hn.out]
          have E03 := E01.trans E3
          have hB3 := hB.ext E03
          have c9 := hB3.c9
          have lcell3 := E03.cell lcell
          have B3 := B1.ext E3
          have b3 := B3.cell
          have hlk : ∀ x, (Instr.lookup 126 (.map (some Mj)) (.agg #[.int .i64 a.plate, .bool a.turned]) true).run Tryd.prog (grow W3 x) = .ok (sortV none) (grow W3 x) := fun x => by
            rw [look_sort (hmap.ext (E03.trans ((Ext.refl _).grow x))), Hcov.out, Hr.out]
          have hj63 : (j : Int) < 16 := by omega
          clear b1 q0 q1 q2 q3 q4
          dsimp only [sortV] at hlk
          go_wp2_with fail
          refine wp_region_grow (by kernel_rfl) (by kernel_rfl) ?_
          repeat (go_big_quiet_step (fail))
          refine wpQuiet_nil ?_
          intro W4 hW4
          have E4 : Ext W3 W4 := by
            obtain ⟨x, rfl⟩ := hW4
            exact (Ext.refl _).grow x
          clear hW4
          obtain ⟨hcW4, hfW4, hzW4⟩ := ext_facts E4
          go_wp2_with fail
          go_ret2
          exact ⟨⟨none, 0, [], by rw [Hbad.out]; rfl, fun h => by rw [Hbad.out] at h; cases h⟩, E03.trans E4⟩
        | some mm =>
          have hmm := cover_small ok Hr.out
          have hb0 := bits_and hmm hall
          by_cases hand : mm &&& all = 0
          · have hpl := liesB_plate (lies_cover.2 ⟨by rw [Hn.out]; omega, by rw [Hr.out]; rfl⟩)
            have hb1 : (bits .and .u32 (mm : Int) (all : Int) != 0) = false := by rw [hb0, hand]; rfl
            have hb2 : (bits .and .u32 (mm : Int) (all : Int) == 0) = true := by rw [hb0, hand]; rfl
            have hb3 : bits .or .u32 (all : Int) (mm : Int) = ((all ||| mm : Nat) : Int) := bits_or hall hmm
            have hor : all ||| mm < 65536 := by
              have := Nat.or_lt_two_pow (x := all) (y := mm) (n := 16) (by omega) (by omega)
              omega
            obtain ⟨hp1, hp2⟩ := hpl
            obtain ⟨pb, poff, p, hPA, hpl, hpb, p0, p1, p2, p3⟩ := hB.brd.plates.at_ (k := a.plate.toNat) (by omega)
            subst hPA
            have okp := (plate_ok okl hpl).n
            have Hp := Lib.hid (plateAt_eq hpl)
            clear hpl
            have hun : usedN c k a.plate ≤ 1000 := by have := usedN_le c k a.plate; omega
            have hpt : ((a.plate.toNat : Nat) : Int) = a.plate := by omega
            have Hget : Hid ((usedL l c k)[a.plate.toNat]? = some (usedN c k a.plate : Int)) := Lib.hid (by
              have := usedL_get (l := l) (c := c) (k := k) (p := a.plate.toNat) (by omega)
              rwa [hpt] at this)
            have Hset : Hid ((usedL l c k).set a.plate.toNat ((usedN c k a.plate : Int) + 1) = usedL l c (k + 1)) := Lib.hid (by
              have := usedL_succ (l := l) (p := a.plate.toNat) Ha.out hpt.symm
              rwa [hpt] at this)
            have Hsucc : Hid (usedN c (k + 1) a.plate = usedN c k a.plate + 1) := Lib.hid (by
              have := usedN_succ Ha.out a.plate
              rwa [if_pos rfl] at this)
            clear hpt
            have Hand := Lib.hid hand
            clear hand hb0
            go_wp2_with fail
            refine (at_c a.x a.y a.z g s _ cap _ _ ok _ hB1.brd.base).mono ?_
            rintro e W3 ⟨rfl, E3⟩
            rw [Hn.out]
            have E03 := E01.trans E3
            have hB3 := hB.ext E03
            have c9 := hB3.c9
            have lcell3 := E03.cell lcell
            have B3 := B1.ext E3
            have b3 := B3.cell
            have hlk : ∀ x, (Instr.lookup 126 (.map (some Mj)) (.agg #[.int .i64 a.plate, .bool a.turned]) true).run Tryd.prog (grow W3 x) = .ok (sortV (some mm)) (grow W3 x) := fun x => by
              rw [look_sort (hmap.ext (E03.trans ((Ext.refl _).grow x))), Hcov.out, Hr.out]
            have hj63 : (j : Int) < 16 := by omega
            clear b1 q0 q1 q2 q3 q4
            dsimp only [sortV] at hlk
            go_wp2_with fail
            refine wp_region_grow (by kernel_rfl) (by kernel_rfl) ?_
            repeat (go_big_quiet_step (fail))
            refine wpQuiet_nil ?_
            intro W4 hW4
            have E4 : Ext W3 W4 := by
              obtain ⟨x, rfl⟩ := hW4
              exact (Ext.refl _).grow x
            clear hW4
            obtain ⟨hcW4, hfW4, hzW4⟩ := ext_facts E4
            clear hlk b3
            have E04 := E03.trans E4
            have B4 := B3.ext E4
            have b4 := B4.cell
            have BU4 := (BU1.ext E3).ext E4
            have own4 := own_ext (own_ext own1 E3) E4
            have bu4 : W4.cell? ⟨U, a.plate.toNat, none⟩ = some (.int .i64 (usedN c k a.plate)) := by rw [BU4.cell, intsA_get, Hget.out]; rfl
            have fu4 := BU4.frozen a.plate.toNat
            obtain ⟨W5, hW5, BU5, keep5, ext5, hz5⟩ := BU4.store1 a.plate.toNat (.int .i64 ((usedN c k a.plate : Int) + 1))
            rw [intsA_set, Hset.out] at BU5
            have E05 : Ext w W5 := ext5 w E04 (by rw [HU.out]; exact Nat.le_refl _)
            have B5 := keep5 _ _ _ (by omega) B4
            have b5 := B5.cell
            have own5 := own_setCell_ne own4 (p := ⟨U, a.plate.toNat, none⟩) (by show U < U + 1; omega) (.int .i64 ((usedN c k a.plate : Int) + 1))
            rw [hW5] at own5
            obtain ⟨t0, t1, t2, t3⟩ := E05.four p0 p1 p2 p3
            have c45 := (hB.ext E05).brd.c4
            have bu5 : W5.cell? ⟨U, a.plate.toNat, none⟩ = some (.int .i64 ((usedN c k a.plate : Int) + 1)) := by
              have hg := usedL_get (l := l) (c := c) (k := k + 1) (p := a.plate.toNat) (by omega)
              rw [show ((a.plate.toNat : Nat) : Int) = a.plate by omega, Hsucc.out] at hg
              rw [BU5.cell, intsA_get, hg]
              simp [iv]
            clear hz5
            by_cases hu : p.N < (usedN c k a.plate : Int) + 1
            · have hub : decide (p.N < (usedN c k a.plate : Int) + 1) = true := by simpa using hu
              have Hbad := Lib.hid (setB_bad Hrun.out hlt (by
                unfold setStep numL
                rw [Hla.out, Hn.out, Hlast.out, if_neg (show ¬ ((j : Int) ≤ la) by omega), Hr.out, Hp.out, Hsucc.out]
                show (if _ ∨ p.N < ((usedN c k a.plate + 1 : Nat) : Int) then _ else _) = _
                rw [if_pos (Or.inr (by omega))]))
              clear hu
              go_wp2_with fail
              refine wp_region_grow (by kernel_rfl) (by kernel_rfl) ?_
              repeat (go_big_quiet_step (fail))
              refine wpQuiet_nil ?_
              intro W6 hW6
              have E6 : Ext W5 W6 := by
                obtain ⟨x, rfl⟩ := hW6
                exact (Ext.refl _).grow x
              clear hW6
              obtain ⟨hcW6, hfW6, hzW6⟩ := ext_facts E6
              go_wp2_with fail
              go_ret2
              exact ⟨⟨none, 0, [], by rw [Hbad.out]; rfl, fun h => by rw [Hbad.out] at h; cases h⟩, E05.trans E6⟩
            · have hub : decide (p.N < (usedN c k a.plate : Int) + 1) = false := by simpa using hu
              have Hgood : Hid (setRun s l c (k + 1) = some (out ++ [mm], all ||| mm)) := Lib.hid (by
                show runs _ (k + 1) _ = _
                rw [runs_succ Hrun.out]
                unfold setStep numL
                rw [Hla.out, Hn.out, Hlast.out, if_neg (show ¬ ((j : Int) ≤ la) by omega), Hr.out, Hp.out, Hsucc.out]
                show (if mm &&& all ≠ 0 ∨ p.N < ((usedN c k a.plate + 1 : Nat) : Int) then none else some (out ++ [mm], all ||| mm)) = _
                rw [if_neg]
                rintro (h | h)
                · exact h Hand.out
                · omega)
              have Hprev : Hid (prevNum s c (k + 1) = (j : Int)) := Lib.hid (by
                show numL s (laidAt c k) = _
                rw [Hla.out]
                exact Hn.out)
              clear hu
              obtain ⟨i0, hi, hz0, hz1', hz2'⟩ := info_parts infoU32
              have hml : out.length + 1 ≤ maxLen := by unfold maxLen; omega
              have hml2 : (out.length + 1) * 4 ≤ 140737488355328 := by omega
              go_wp2_with fail
              refine wp_region_grow (by kernel_rfl) (by kernel_rfl) ?_
              repeat (go_big_quiet_step (fail))
              refine wpQuiet_nil ?_
              intro W6 hW6
              have E6 : Ext W5 W6 := by
                obtain ⟨x, rfl⟩ := hW6
                exact (Ext.refl _).grow x
              clear hW6
              obtain ⟨hcW6, hfW6, hzW6⟩ := ext_facts E6
              have own6 := own_ext own5 E6
              have BU6 := BU5.ext E6
              have hbase6 : U + 1 ≤ W6.heap.size := BU6.lt
              clear b4 b5 bu4 bu5 t0 t1 t2 t3 c45 fu4
              go_wp2_with (at_builtin; refine wpList_append_one #[.int .u32 (mm : Int)] rfl (.tmp 87) (.tmp 89) 86 rfl (U + 1) 130 130 i0 (.int .u32 0) 1 4 Tryd.underlying86 hi hz0 hz1' hz2' rfl (by decide) _ out.length _ _ rfl own6 rfl rfl (by simp [Value.oneCell']) hml hml2 hbase6 ?_; intro g7 cap7 w7 own7 hg7; have BU7 := (BU6.alloc (.cells #[.int .u32 (mm : Int)] 130)).grown hg7 (own_ne own6 (by omega)); have E7 := ((E05.trans E6).alloc (.cells #[.int .u32 (mm : Int)] 130)).grown hg7 (fun q hq => by have := (own6.lt q hq).1; rw [HU.out]; omega))
              go_roundw
              case rel =>
                refine ⟨k + 1, out ++ [mm], all ||| mm, by omega, by go_num, by first | rfl | rw [hb3], by rw [Hprev.out], Hgood.out, hor, E7, BU7, ?_⟩
                rw [List.map_append, List.length_append]
                exact own7
              case measure => simp only [intOf]; omega
          · have hb1 : (bits .and .u32 (mm : Int) (all : Int) != 0) = true := by rw [hb0]; simpa using hand
            have hb2 : (bits .and .u32 (mm : Int) (all : Int) == 0) = false := by rw [hb0]; simpa using hand
            have Hbad := Lib.hid (setB_bad Hrun.out hlt (by
              unfold setStep numL
              rw [Hla.out, Hn.out, Hlast.out, if_neg (show ¬ ((j : Int) ≤ la) by omega), Hr.out]
              show (if mm &&& all ≠ 0 ∨ _ then _ else _) = _
              rw [if_pos (Or.inl hand)]))
            clear hand hb0
            go_wp2_with fail
            refine (at_c a.x a.y a.z g s _ cap _ _ ok _ hB1.brd.base).mono ?_
            rintro e W3 ⟨rfl, E3⟩
            rw [Hn.out]
            have E03 := E01.trans E3
            have hB3 := hB.ext E03
            have c9 := hB3.c9
            have lcell3 := E03.cell lcell
            have B3 := B1.ext E3
            have b3 := B3.cell
            have hlk : ∀ x, (Instr.lookup 126 (.map (some Mj)) (.agg #[.int .i64 a.plate, .bool a.turned]) true).run Tryd.prog (grow W3 x) = .ok (sortV (some mm)) (grow W3 x) := fun x => by
              rw [look_sort (hmap.ext (E03.trans ((Ext.refl _).grow x))), Hcov.out, Hr.out]
            have hj63 : (j : Int) < 16 := by omega
            clear b1 q0 q1 q2 q3 q4
            dsimp only [sortV] at hlk
            go_wp2_with fail
            refine wp_region_grow (by kernel_rfl) (by kernel_rfl) ?_
            repeat (go_big_quiet_step (fail))
            refine wpQuiet_nil ?_
            intro W4 hW4
            have E4 : Ext W3 W4 := by
              obtain ⟨x, rfl⟩ := hW4
              exact (Ext.refl _).grow x
            clear hW4
            obtain ⟨hcW4, hfW4, hzW4⟩ := ext_facts E4
            go_wp2_with fail
            go_ret2
            exact ⟨⟨none, 0, [], by rw [Hbad.out]; rfl, fun h => by rw [Hbad.out] at h; cases h⟩, E03.trans E4⟩
    · obtain rfl : k = c.length := by omega
      have hBr := hB.ext E
      have c6 := hBr.c6
      obtain ⟨SA, sc, rfl⟩ := own_forms own
      have hsl : SliceIs wr SA out.length sc 1 (out.map fun m => [uv m]) := own_any (by decide) (by simp) (by simp) (by rw [flat_uv]; exact own)
      have Hsl := Lib.hid hsl
      have Hset : Hid (setB s l c = decide (all = 2 ^ fullN s.cells - 1)) := Lib.hid (by
        unfold setB
        rw [Hrun.out])
      have Hfe := Lib.hid (full_eq (all := all) hF.2)
      clear hsl own BU
      go_wp2_with fail
      refine wp_region_grow (by kernel_rfl) (by kernel_rfl) ?_
      repeat (go_big_quiet_step (fail))
      refine wpQuiet_nil ?_
      intro W3 hW3
      have E3 : Ext wr W3 := by
        obtain ⟨x, rfl⟩ := hW3
        exact (Ext.refl _).grow x
      clear hW3
      obtain ⟨hcW3, hfW3, hzW3⟩ := ext_facts E3
      go_wp2_with fail
      go_ret2
      refine ⟨⟨SA, sc, out, by rw [Hset.out, ← Hfe.out]; rfl, fun h => ⟨Hsl.out.ext E3, all, Hrun.out, ?_⟩⟩, E.trans E3⟩
      rw [Hset.out] at h
      simpa using h
end Go.Proofs.YtaaeapjnjjbglaaDoor

namespace Go.Proofs.YtaaeapjnjjbglaaDoor
open Go.RowKit

theorem low_bits {x : Nat} (h0 : x ≠ 0) (h : x < 2 ^ 32) :
    x.testBit (Lib.ctz 32 x) = true ∧ Lib.ctz 32 x < 32 ∧ (∀ j, j < Lib.ctz 32 x → x.testBit j = false) ∧ ∀ j, (x &&& (x - 1)).testBit j = (x.testBit j && decide (j ≠ Lib.ctz 32 x)) := by
  have e : Lib.ctz 32 x = Lib.ctzFrom 32 x := by simp [Lib.ctz, h0]
  obtain ⟨m, hm, hk⟩ := Lib.ctzFrom_spec 32 x (by omega) h
  rw [e]
  generalize Lib.ctzFrom 32 x = k at hm hk
  have hpos : 0 < 2 ^ k := Nat.two_pow_pos k
  have hx : ∀ j, x.testBit j = (decide (k ≤ j) && (2 * m + 1).testBit (j - k)) := fun j => by rw [hm, Nat.testBit_two_pow_mul]
  have hy : ∀ j, (x - 1).testBit j = if j < k then (2 ^ k - 1).testBit j else (2 * m).testBit (j - k) := fun j => by
    have h1 : x - 1 = 2 ^ k * (2 * m) + (2 ^ k - 1) := by rw [hm, Nat.mul_add]; omega
    rw [h1, Nat.testBit_two_pow_mul_add _ (by omega)]
  have o1 : (2 * m + 1).testBit 0 = true := by simp
  have o2 : (2 * m).testBit 0 = false := by simp
  have o3 : ∀ t, (2 * m + 1).testBit (t + 1) = (2 * m).testBit (t + 1) := fun t => by
    rw [Nat.testBit_succ, Nat.testBit_succ, show (2 * m + 1) / 2 = m by omega, show 2 * m / 2 = m by omega]
  refine ⟨by rw [hx, Nat.sub_self, o1]; simp, hk, fun j hj => by rw [hx, decide_eq_false (by omega)]; rfl, fun j => ?_⟩
  rw [Nat.testBit_and, hx, hy]
  rcases Nat.lt_trichotomy j k with hj | hj | hj
  · rw [decide_eq_false (by omega : ¬ k ≤ j)]
    rfl
  · subst hj
    rw [Nat.sub_self, if_neg (by omega), o2]
    simp
  · obtain ⟨t, rfl⟩ : ∃ t, j = k + (t + 1) := ⟨j - k - 1, by omega⟩
    rw [if_neg (by omega), show k + (t + 1) - k = t + 1 by omega, o3, decide_eq_true (by omega : k ≤ k + (t + 1)), decide_eq_true (by omega : k + (t + 1) ≠ k)]
    simp

theorem bitsOf_zero : bitsOf 0 = [] := by simp [bitsOf]
theorem bitsOf_step {x : Nat} (h0 : x ≠ 0) (h : x < 2 ^ 32) : bitsOf x = Lib.ctz 32 x :: bitsOf (x &&& (x - 1)) := by
  obtain ⟨h1, h2, h3, h4⟩ := low_bits h0 h
  generalize Lib.ctz 32 x = k at h1 h2 h3 h4
  have hr : List.range 32 = List.range' 0 k ++ (k :: List.range' (k + 1) (31 - k)) := by
    rw [List.range_eq_range']
    have e1 : List.range' 0 32 = List.range' 0 k ++ List.range' (0 + k) (32 - k) := by
      rw [List.range'_append_1]
      congr 1
      omega
    rw [e1, Nat.zero_add]
    congr 1
    rw [show 32 - k = (31 - k) + 1 by omega, List.range'_succ]
  have f1 : ∀ y : Nat, (∀ j, j < k → y.testBit j = false) → (List.range' 0 k).filter (fun n => y.testBit n) = [] := fun y hy => by
    rw [List.filter_eq_nil_iff]
    intro a ha
    rw [List.mem_range'_1] at ha
    rw [hy a (by omega)]
    simp
  unfold bitsOf
  rw [hr, List.filter_append, List.filter_append, f1 x h3, f1 (x &&& (x - 1)) (fun j hj => by rw [h4, h3 j hj]; rfl), List.nil_append, List.nil_append, List.filter_cons, List.filter_cons, if_pos h1, if_neg (by rw [h4]; simp)]
  congr 1
  apply List.filter_congr
  intro a ha
  rw [List.mem_range'_1] at ha
  rw [h4, decide_eq_true (by omega : a ≠ k), Bool.and_true]
theorem and_pred_lt {x : Nat} (h0 : x ≠ 0) : x &&& (x - 1) < x := by
  have := Nat.and_le_right (n := x) (m := x - 1)
  omega

/-- How many bits. -/
def pop (m : Nat) : Nat := (bitsOf m).length
def pop8 (m : Nat) : Nat := ((List.range 8).filter fun n => m.testBit n).length
theorem pop_bytes (m : Nat) : pop m = pop8 (m >>> 24 &&& 255) + pop8 (m >>> 16 &&& 255) + pop8 (m >>> 8 &&& 255) + pop8 (m &&& 255) := by
  have h255 : ∀ b, b < 8 → (255 : Nat).testBit b = true := fun b hb => by
    match b, hb with
    | 0, _ | 1, _ | 2, _ | 3, _ | 4, _ | 5, _ | 6, _ | 7, _ => rfl
  have hb : ∀ k, pop8 (m >>> k &&& 255) = ((List.range' k 8).filter fun n => m.testBit n).length := fun k => by
    have e : List.range' k 8 = (List.range 8).map (k + ·) := by rw [List.range_eq_range', List.map_add_range']; rfl
    rw [e, List.filter_map, List.length_map]
    unfold pop8
    congr 1
    apply List.filter_congr
    intro a ha
    rw [List.mem_range] at ha
    rw [Nat.testBit_and, h255 a ha, Bool.and_true, Nat.testBit_shiftRight]
    rfl
  have h0 := hb 0
  rw [Nat.shiftRight_zero] at h0
  rw [hb 24, hb 16, hb 8, h0]
  unfold pop bitsOf
  have e : List.range 32 = List.range' 0 8 ++ (List.range' 8 8 ++ (List.range' 16 8 ++ List.range' 24 8)) := rfl
  rw [e, List.filter_append, List.filter_append, List.filter_append, List.length_append, List.length_append, List.length_append]
  omega
theorem pop_full {m n : Nat} (hn : n ≤ 32) (hm : ∀ b, m.testBit b = true → b < n) : pop m = n ↔ ∀ b, b < n → m.testBit b = true := by
  have e : bitsOf m = (List.range n).filter fun b => m.testBit b := by
    unfold bitsOf
    have e1 : List.range 32 = List.range' 0 n ++ List.range' n (32 - n) := by
      rw [List.range_eq_range']
      have := List.range'_append_1 (s := 0) (m := n) (n := 32 - n)
      rw [Nat.zero_add] at this
      rw [this]
      congr 1
      omega
    rw [e1, List.filter_append, ← List.range_eq_range', (List.filter_eq_nil_iff (l := List.range' n (32 - n))).2 ?_, List.append_nil]
    intro a ha
    rw [List.mem_range'_1] at ha
    intro hb
    have := hm a hb
    omega
  unfold pop
  rw [e]
  have h := List.length_filter_eq_length_iff (l := List.range n) (p := fun b => m.testBit b)
  rw [List.length_range] at h
  rw [h]
  simp
end Go.Proofs.YtaaeapjnjjbglaaDoor

namespace Go.Proofs.YtaaeapjnjjbglaaDoor
open Go.RowKit

theorem and32 (a b : Nat) (ha : a < 4294967296) (hb : b < 4294967296) : bits .and .u32 (a : Int) (b : Int) = ((a &&& b : Nat) : Int) := by
  have hx : a &&& b < 2 ^ 32 := Nat.and_lt_two_pow _ (by omega)
  have h1 : (BitVec.ofInt 32 (a : Int)).toNat = a := by
    rw [BitVec.ofInt_natCast, BitVec.toNat_ofNat]; exact Nat.mod_eq_of_lt (by omega)
  have h2 : (BitVec.ofInt 32 (b : Int)).toNat = b := by
    rw [BitVec.ofInt_natCast, BitVec.toNat_ofNat]; exact Nat.mod_eq_of_lt (by omega)
  show IntKind.u32.wrap ((BitVec.ofInt 32 (a : Int) &&& BitVec.ofInt 32 (b : Int)).toNat : Int) = _
  rw [BitVec.toNat_and, h1, h2, IntKind.wrap_u32]
  omega

def tabA : Array UInt8 := #[0, 1, 1, 2, 1, 2, 2, 3, 1, 2, 2, 3, 2, 3, 3, 4, 1, 2, 2, 3, 2, 3, 3, 4, 2, 3, 3, 4, 3, 4, 4, 5, 1, 2, 2, 3, 2, 3, 3, 4, 2, 3, 3, 4, 3, 4, 4, 5, 2, 3, 3, 4, 3, 4, 4, 5, 3, 4, 4, 5, 4, 5, 5, 6, 1, 2, 2, 3, 2, 3, 3, 4, 2, 3, 3, 4, 3, 4, 4, 5, 2, 3, 3, 4, 3, 4, 4, 5, 3, 4, 4, 5, 4, 5, 5, 6, 2, 3, 3, 4, 3, 4, 4, 5, 3, 4, 4, 5, 4, 5, 5, 6, 3, 4, 4, 5, 4, 5, 5, 6, 4, 5, 5, 6, 5, 6, 6, 7, 1, 2, 2, 3, 2, 3, 3, 4, 2, 3, 3, 4, 3, 4, 4, 5, 2, 3, 3, 4, 3, 4, 4, 5, 3, 4, 4, 5, 4, 5, 5, 6, 2, 3, 3, 4, 3, 4, 4, 5, 3, 4, 4, 5, 4, 5, 5, 6, 3, 4, 4, 5, 4, 5, 5, 6, 4, 5, 5, 6, 5, 6, 6, 7, 2, 3, 3, 4, 3, 4, 4, 5, 3, 4, 4, 5, 4, 5, 5, 6, 3, 4, 4, 5, 4, 5, 5, 6, 4, 5, 5, 6, 5, 6, 6, 7, 3, 4, 4, 5, 4, 5, 5, 6, 4, 5, 5, 6, 5, 6, 6, 7, 4, 5, 5, 6, 5, 6, 6, 7, 5, 6, 6, 7, 6, 7, 7, 8]
theorem tab_all : (List.range 256).all (fun i => (tabA.getD i 0).toNat == pop8 i) = true := by kernel_rfl
theorem tab_size : tabA.size = 256 := by kernel_rfl
theorem tab_at (i : Nat) (h : i < (ByteArray.mk tabA).size) : ((((ByteArray.mk tabA)[i]'h).toNat : Nat) : Int) = (pop8 i : Int) := by
  have hi : i < 256 := by have : (ByteArray.mk tabA).size = 256 := tab_size; omega
  have h1 := List.all_eq_true.1 tab_all i (List.mem_range.2 hi)
  have h2 : tabA.getD i 0 = (ByteArray.mk tabA)[i]'h := by
    have h3 : i < tabA.size := by rw [tab_size]; exact hi
    rw [Array.getD_eq_getD_getElem?, Array.getElem?_eq_getElem h3]
    rfl
  rw [← h2]
  exact congrArg _ (by simpa using h1)

set_option maxRecDepth 100000 in
set_option maxHeartbeats 2000000 in
theorem ones_c (m : Nat) (hm : m < 4294967296) (w : World) :
    Calls Tryd.prog 69 #[.int .u32 m] w fun e w' => e = .returned (.int .i64 (pop m)) ∧ Ext w w' := by
  have Hp := Lib.hid (pop_bytes m)
  have hm0 : (0 : Int) ≤ m := by omega
  have hp8 : ∀ k, pop8 k ≤ 8 := fun k => by
    unfold pop8
    exact Nat.le_trans (List.length_filter_le _ _) (by simp)
  have hlt : ∀ k : Nat, (k &&& 255) < 256 := fun k => Nat.lt_of_le_of_lt Nat.and_le_right (by omega)
  have n24 : m / 16777216 = m >>> 24 &&& 255 := by
    have := Nat.and_two_pow_sub_one_eq_mod (m >>> 24) 8
    rw [show (255 : Nat) = 2 ^ 8 - 1 from rfl, this, Nat.shiftRight_eq_div_pow]
    omega
  have e24 : (m : Int) / 16777216 = ((m >>> 24 &&& 255 : Nat) : Int) := by
    have h1 : m >>> 24 < 256 := by rw [Nat.shiftRight_eq_div_pow]; omega
    have h2 : m >>> 24 &&& 255 = m >>> 24 := by
      have := Nat.and_two_pow_sub_one_eq_mod (m >>> 24) 8
      rw [show (255 : Nat) = 2 ^ 8 - 1 from rfl, this]
      omega
    rw [h2, Nat.shiftRight_eq_div_pow]
    omega
  have a16 : bits .and .u32 ((m : Int) / 65536) 255 = ((m >>> 16 &&& 255 : Nat) : Int) := by
    rw [← and32 (m >>> 16) 255 (by rw [Nat.shiftRight_eq_div_pow]; omega) (by omega), Nat.shiftRight_eq_div_pow]
    rfl
  have a8 : bits .and .u32 ((m : Int) / 256) 255 = ((m >>> 8 &&& 255 : Nat) : Int) := by
    rw [← and32 (m >>> 8) 255 (by rw [Nat.shiftRight_eq_div_pow]; omega) (by omega), Nat.shiftRight_eq_div_pow]
    rfl
  have a0 : bits .and .u32 (m : Int) 255 = ((m &&& 255 : Nat) : Int) := by
    rw [← and32 m 255 hm (by omega)]
    rfl
  have l1 := hlt (m >>> 24)
  have l2 := hlt (m >>> 16)
  have l3 := hlt (m >>> 8)
  have l4 := hlt m
  have p1 := hp8 (m >>> 24 &&& 255)
  have p2 := hp8 (m >>> 16 &&& 255)
  have p3 := hp8 (m >>> 8 &&& 255)
  have p4 := hp8 (m &&& 255)
  generalize m >>> 24 &&& 255 = q1 at *
  generalize m >>> 16 &&& 255 = q2 at *
  generalize m >>> 8 &&& 255 = q3 at *
  generalize m &&& 255 = q4 at *
  clear hlt hp8
  go_enter Tryd.func69, Tryd.ntmps69
  go_wp2_with fail
  refine wp_region_grow (by kernel_rfl) (by kernel_rfl) ?_
  repeat (go_big_quiet_step ((rw [dif_pos (by omega)]; exact ⟨rfl, congrArg (Value.int .u8) (tab_at _ _)⟩)))
  refine wpQuiet_nil ?_
  intro W2 hW2
  have E2 : Ext w W2 := by
    obtain ⟨x, rfl⟩ := hW2
    exact (Ext.refl _).grow x
  clear hW2
  go_wp2_with fail
  go_ret
  exact ⟨by rw [Hp.out]; simp only [n24]; go_num, E2⟩
end Go.Proofs.YtaaeapjnjjbglaaDoor

namespace Go.Proofs.YtaaeapjnjjbglaaDoor
open Go.RowKit

def TzTab (w : World) : Prop := TabAt 0 Lib.deBruijn32tab w
set_option maxHeartbeats 1000000 in
theorem tz_core (x k idx : Nat) (w : World) (hx0 : ((x : Int) == 0) = false)
    (key : bits BinOp.and IntKind.u32 (x : Int) (-(x : Int) % 4294967296) * 125613361 % 4294967296 / 134217728 = (idx : Int))
    (hi : idx < 32) (hk : k < 32) (hcell : w.cell? ⟨0, idx, none⟩ = some (.int .u8 k)) :
    Calls Tryd.prog 66 #[.int .u32 x] w fun e w' => e = .returned (.int .i64 k) ∧ w' = w := by
  go_enter Tryd.func66, Tryd.ntmps66
  go_wp2_with (simp only [key])
  go_ret
  exact ⟨rfl, rfl⟩
theorem tz_c (x : Nat) (h0 : x ≠ 0) (hx : x < 4294967296) (w : World) (hT : TzTab w) :
    Calls Tryd.prog 66 #[.int .u32 x] w fun e w' => e = .returned (.int .i64 (Lib.ctz 32 x)) ∧ w' = w := by
  obtain ⟨hlow, hk⟩ := Lib.lowest_bit 32 x h0 hx
  obtain ⟨hi, htab⟩ := Lib.deBruijn32_at _ hk
  have hcell := hT _ hi
  rw [htab] at hcell
  exact tz_core x _ _ w (by simp; omega) (tz32_key x _ hx h0 hlow) hi hk hcell
theorem TzTab.ext {w w' : World} (h : TzTab w) (e : Ext w w') : TzTab w' := fun j hj => e.cell (h j hj)
end Go.Proofs.YtaaeapjnjjbglaaDoor
