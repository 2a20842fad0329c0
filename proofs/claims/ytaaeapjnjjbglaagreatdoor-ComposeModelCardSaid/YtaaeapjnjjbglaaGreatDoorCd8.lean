/- The board while look fills it. -/
import Derived.Test.YtaaeapjnjjbglaaGreatDoorCd6
import Derived.Test.YtaaeapjnjjbglaaGreatDoorCd7
import Derived.Deep.RegionHeld3
import Derived.Deep.RegionLaw

namespace Go.Proofs.YtaaeapjnjjbglaaGreatDoor
open Go.RowKit

/-- Of the blocks below B only g may have turned. -/
structure But (g B : Nat) (w w' : World) : Prop where
  os : w'.os = w.os
  tape : w'.tape = w.tape
  output : w'.output = w.output
  size : w.heap.size ≤ w'.heap.size
  block : ∀ k, k < B → k ≠ g → w'.heap[k]? = w.heap[k]?
theorem But.refl (g B : Nat) (w : World) : But g B w w := ⟨rfl, rfl, rfl, Nat.le_refl _, fun _ _ _ => rfl⟩
theorem But.trans {g B : Nat} {a b c : World} (h : But g B a b) (k : But g B b c) : But g B a c :=
  ⟨k.os.trans h.os, k.tape.trans h.tape, k.output.trans h.output, Nat.le_trans h.size k.size, fun i hi hg => (k.block i hi hg).trans (h.block i hi hg)⟩
theorem But.ext {g B : Nat} {a b c : World} (h : But g B a b) (k : Ext b c) (hB : B ≤ b.heap.size) : But g B a c :=
  h.trans ⟨k.1, k.2, k.3, k.size, fun i hi _ => k.block i (by omega)⟩
theorem But.alloc {g B : Nat} {a b : World} (h : But g B a b) (hB : B ≤ b.heap.size) (o : Obj) : But g B a (b.alloc o) := h.ext ((Ext.refl b).alloc o) hB
theorem But.setG {g B : Nat} {a b : World} (h : But g B a b) (i : Nat) (u : Value) : But g B a (b.setCell ⟨g, i, none⟩ u) :=
  h.trans ⟨rfl, rfl, rfl, by simp [World.setCell], fun k _ hk => Below.heap_setCell _ _ _ _ hk⟩
theorem But.grown {g B : Nat} {a b c : World} {row : Option Nat} (h : But g B a b) (k : b.grownBy c row) (hB : B ≤ b.heap.size) (hr : ∀ r, row = some r → B ≤ r) : But g B a c :=
  h.trans ⟨k.os, k.tape, k.output, k.size, fun i hi _ => k.block i (by omega) (fun e => by have := hr i e.symm; omega)⟩
theorem But.below {g B : Nat} {a b c : World} (h : But g B b c) (k : Ext a b) (h1 : a.heap.size ≤ g) (h2 : a.heap.size ≤ B) : Ext a c :=
  ⟨h.os.trans k.os, h.tape.trans k.tape, h.output.trans k.output, Nat.le_trans k.size h.size, fun i hi => (h.block i (by omega) (by omega)).trans (k.block i hi)⟩
theorem But.cell {g B : Nat} {a b : World} (h : But g B a b) {p : Addr} {v : Value} (hp : p.block < B) (hg : p.block ≠ g) (hc : a.cell? p = some v) : b.cell? p = some v := by
  rw [← hc]
  unfold World.cell?
  rw [h.block _ hp hg]
theorem SliceIs.but {g B : Nat} {a b : World} {A : Option Addr} {n cap sz : Nat} {rows : List (List Value)} (h : SliceIs a A n cap sz rows) (k : But g B a b) (hA : ∀ q, A = some q → q.block < B ∧ q.block ≠ g) : SliceIs b A n cap sz rows := by
  obtain ⟨h1, h2, h3, h4, h5⟩ := h
  refine ⟨h1, h2, h3, h4, fun hn => ?_⟩
  obtain ⟨bb, off, hAe, hb, hc⟩ := h5 hn
  obtain ⟨q1, q2⟩ := hA _ hAe
  exact ⟨bb, off, hAe, Nat.lt_of_lt_of_le hb k.size, fun i r hr j u hu => k.cell q1 q2 (hc i r hr j u hu)⟩
theorem Blk.but {G B g : Nat} {a b : World} {t : TypeId} {cs : Array Value} (h : Blk a g t cs) (k : But G B a b) (h1 : g < B) (h2 : g ≠ G) : Blk b g t cs := (k.block g h1 h2).trans h
theorem infoPair : (Tryz.prog.info? 133).map (fun i => (i.zero, i.size, i.bytes)) = some (some (.agg #[.int .i64 0, .int .i64 0]), 2, 16) := by kernel_rfl
theorem infoMap : (Tryz.prog.info? 140).map (fun i => (i.zero, i.size, i.bytes)) = some (some (.map none), 1, 8) := by kernel_rfl

/-- The cells of the board. -/
def brdCells (s : Shape) (A : Option Addr) (cap : Nat) (PA : Option Addr) (pl pcap : Nat) (nv av ev ov lv : Value) : Array Value :=
  #[.int .i64 s.W, .int .i64 s.D, .int .i64 s.H, .slice A s.cells.length cap, .slice PA pl pcap, nv, av, ev, ov, lv]
theorem nums_take {cs : List Int} {k : Nat} (h : k < cs.length) : (numsOf cs).take (k + 1) = (numsOf cs).take k ++ [numOf cs k] := by
  rw [List.take_add_one, numsOf_get h]
  rfl
theorem shapeErr_ok {s : Shape} (h : s.valid = true) : shapeErr s = 0 := by simp [shapeErr, h]
theorem platesErr_ok {l : List Plate} (h : platesB l = true) : platesErr l = 0 := by simp [platesErr, h]

/-! ### rows of the call's own -/
/-- A guard: the operation of a region is this append. -/
theorem at_append {P : Program} {ops : Array Oper} {o : Oper} {a : Act} {w : World} {K : Act → World → Prop} {Q : Exit → Act → World → Prop} {F : Prop} (args : Array Operand) (ts : Array TypeId)
    (_ : o.op = .call { callee := .builtin .append, args := args, argTypes := ts }) (h : if Region.wanted o (yielded ops a.tmps) = true then o.wp P a w K Q else F) : if Region.wanted o (yielded ops a.tmps) = true then o.wp P a w K Q else F := h

theorem own_forms {w : World} {base : Nat} {e : TypeId} {size : Nat} {v : Value} {n : Nat} {xs : List Value} (h : w.ownsRow base e size v n xs) : ∃ A cap, v = .slice A n cap := by
  rcases h.2 with ⟨rfl, rfl⟩ | ⟨g, cap, cur, hv, _⟩
  · exact ⟨none, 0, rfl⟩
  · exact ⟨_, cap, hv⟩
theorem own_grown {w w' : World} {base : Nat} {e : TypeId} {size : Nat} {v : Value} {n : Nat} {xs : List Value} {row : Option Nat} (h : w.ownsRow base e size v n xs) (hg : w.grownBy w' row) (hr : v.ownBlock = none ∨ v.ownBlock ≠ row) :
    w'.ownsRow base e size v n xs := by
  obtain ⟨h1, h2⟩ := h
  refine ⟨h1, ?_⟩
  rcases h2 with h2 | ⟨g, cap, cur, hv, hb, hh, r⟩
  · exact Or.inl h2
  · refine Or.inr ⟨g, cap, cur, hv, hb, ?_, r⟩
    have hlt : g < w.heap.size := (Array.getElem?_eq_some_iff.1 hh).1
    rw [hg.block g hlt ?_]
    · exact hh
    · subst hv
      rcases hr with hr | hr
      · cases hr
      · exact fun e => hr (by rw [← e]; rfl)
theorem own_blk {w : World} {base : Nat} {e : TypeId} {size : Nat} {v : Value} {n : Nat} {xs : List Value} (h : w.ownsRow base e size v n xs) {g : Nat} {t : TypeId} {cs : Array Value} (hb : Blk w g t cs) (he : t ≠ e) : some g ≠ v.ownBlock := by
  intro e1
  rcases h.2 with ⟨rfl, _⟩ | ⟨g', cap, cur, rfl, _, hg, _⟩
  · cases e1
  · simp only [Value.ownBlock, Option.some.injEq] at e1
    subst e1
    unfold Blk at hb
    rw [hg] at hb
    simp only [Option.some.injEq, Obj.cells.injEq] at hb
    exact he hb.2.1.symm
theorem ext_alloc (w : World) (o : Obj) : Ext w (w.alloc o) := (Ext.refl w).alloc o

def encNat (n : Nat) : Value := .int .i64 (n : Int)
def mapV (n : Nat) : Value := .map (some n)
def pairCells (p : Int × Int) : List Value := [.int .i64 p.1, .int .i64 p.2]
/-- What each sort covers from the place with an index. -/
def layAt (s : Shape) (l : List Plate) (p : Nat) (q : Int × Bool) : Option Nat := layF s l (s.px p) (s.py p) (s.pz p) (s.cells.getD p 0) l.length q

/-- The maps of these places. -/
def MapsOf (s : Shape) (l : List Plate) (T M : Nat) (w : World) (ps ms : List Nat) : Prop :=
  ∀ (j Mj p : Nat), ms[j]? = some Mj → ps[j]? = some p → Mj ≠ M ∧ T ≤ Mj ∧ ∃ m, MapOf encSort encSet w Mj m ∧ ∀ q, getK m q = layAt s l p q

structure Mid (s : Shape) (l : List Plate) (A : Option Addr) (cap : Nat) (PA : Option Addr) (pcap G T M NB ncap : Nat) (W5 w : World) (ab : List Int) (es : List (Int × Int)) (pm : List ((Int × Int) × Nat)) (ps ms : List Nat) (av : Value) (EA : Option Addr) (ec : Nat) (ov lv : Value) : Prop where
  size : T ≤ w.heap.size
  but : But G T W5 w
  brd : Blk w G 111 (brdCells s A cap PA l.length pcap (.slice (some ⟨NB, 0, none⟩) s.cells.length ncap) av (.slice EA es.length ec) ov lv)
  oa : w.ownsRow T 3 1 av ab.length (ab.map iv)
  oe : w.ownsRow T 133 2 (.slice EA es.length ec) es.length (es.map pairCells).flatten
  len : ms.length = ps.length
  ol : w.ownsRow T 140 1 lv ps.length (ms.map mapV)
  maps : MapsOf s l T M w ps ms
  om : MapOf encPair encNat w M pm

section
variable {s : Shape} {l : List Plate} {A : Option Addr} {cap : Nat} {PA : Option Addr} {pcap G T M NB ncap : Nat} {W5 w : World} {ab : List Int} {es : List (Int × Int)} {pm : List ((Int × Int) × Nat)} {ps ms : List Nat} {av : Value} {EA : Option Addr} {ec : Nat} {ov lv : Value}

theorem MapsOf.ext {w' : World} (h : MapsOf s l T M w ps ms) (E : Ext w w') : MapsOf s l T M w' ps ms := fun j Mj p h1 h2 => by
  obtain ⟨a, b, m, h3, h4⟩ := h j Mj p h1 h2
  exact ⟨a, b, m, h3.ext E, h4⟩
theorem Mid.ext {w' : World} (h : Mid s l A cap PA pcap G T M NB ncap W5 w ab es pm ps ms av EA ec ov lv) (E : Ext w w') : Mid s l A cap PA pcap G T M NB ncap W5 w' ab es pm ps ms av EA ec ov lv :=
  ⟨Nat.le_trans h.size E.size, h.but.ext E h.size, h.brd.ext E, own_ext h.oa E, own_ext h.oe E, h.len, own_ext h.ol E, h.maps.ext E, h.om.ext E⟩
/-- A block of cells turns, or the map M. -/
theorem MapsOf.turn {w' : World} {row : Option Nat} (h : MapsOf s l T M w ps ms) (hg : w.grownBy w' row) (h2 : ∀ r, row = some r → r = M ∨ ∃ t cs z, w.heap[r]? = some (.cells cs t z)) : MapsOf s l T M w' ps ms := fun j Mj p hj hp => by
  obtain ⟨a, b, m, h3, h4⟩ := h j Mj p hj hp
  refine ⟨a, b, m, h3.grown hg (fun e => ?_), h4⟩
  rcases h2 Mj e.symm with h5 | ⟨t, cs, z, h5⟩
  · exact a h5
  · obtain ⟨es, clock, h6, _⟩ := h3
    rw [h5] at h6
    cases h6
theorem own_cells (M : Nat) {base : Nat} {e : TypeId} {size : Nat} {v : Value} {n : Nat} {xs : List Value} (h : w.ownsRow base e size v n xs) : ∀ r, v.ownBlock = some r → r = M ∨ ∃ t cs z, w.heap[r]? = some (.cells cs t z) := by
  intro r hr
  rcases h.2 with ⟨rfl, _⟩ | ⟨g, cap, cur, rfl, _, hg, _⟩
  · cases hr
  · simp only [Value.ownBlock, Option.some.injEq] at hr
    subst hr
    exact Or.inr ⟨_, _, _, hg⟩
theorem MapsOf.far (h : MapsOf s l T M w ps ms) (hG : G < T) (i : Nat) (u : Value) : MapsOf s l T M (w.setCell ⟨G, i, none⟩ u) ps ms := fun j Mj p h1 h2 => by
  obtain ⟨a, b, m, h3, h4⟩ := h j Mj p h1 h2
  exact ⟨a, b, m, h3.far (by show Mj ≠ G; omega) u, h4⟩
theorem mid_size {w' : World} {row : Option Nat} (h : T ≤ w.heap.size) (hg : w.grownBy w' row) : T ≤ w'.heap.size := Nat.le_trans h hg.size
theorem set_size (w : World) (p : Addr) (u : Value) : (w.setCell p u).heap.size = w.heap.size := by simp [World.setCell]

/-- One more of those above. -/
theorem Mid.appA (h : Mid s l A cap PA pcap G T M NB ncap W5 w ab es pm ps ms av EA ec ov lv) (hG : G < T) (hM : T ≤ M) {a : Int} {t : TypeId} {w4 : World} {v' : Value} (own4 : w4.ownsRow T 3 1 v' (ab.length + 1) (ab.map iv ++ [iv a]))
    (hg : (w.alloc (.cells #[.int .i64 a] t)).grownBy w4 av.ownBlock) : ∃ W6, w4.setCell ⟨G, 6, none⟩ v' = W6 ∧ Mid s l A cap PA pcap G T M NB ncap W5 W6 (ab ++ [a]) es pm ps ms v' EA ec ov lv := by
  obtain ⟨h0, h1, h2, h3, h4, h5, h6, h7, h8⟩ := h.ext (ext_alloc w (.cells #[.int .i64 a] t))
  have hr : ∀ r, av.ownBlock = some r → T ≤ r := fun r hr => (h3.lt r hr).1
  refine ⟨_, rfl, by rw [set_size]; exact mid_size h0 hg, (h1.grown hg h0 hr).setG _ _, ?_, ?_, own_setCell (own_grown h4 hg (own_apart h4 h3 (by decide))) hG _, h5, own_setCell (own_grown h6 hg (own_apart h6 h3 (by decide))) hG _,
    (h7.turn hg (own_cells M h3)).far hG _ _, (h8.grown hg (own_map h3 h8)).far (by show M ≠ G; omega) _⟩
  · exact (h2.grown hg (own_ne h3 hG)).set_ 6 v'
  · rw [List.map_append, List.length_append]
    exact own_setCell own4 hG _
/-- One more pair. -/
theorem Mid.appE (h : Mid s l A cap PA pcap G T M NB ncap W5 w ab es pm ps ms av EA ec ov lv) (hG : G < T) (hM : T ≤ M) {a b : Int} {t : TypeId} {w4 : World} {EA' : Option Addr} {ec' : Nat} (own4 : w4.ownsRow T 133 2 (.slice EA' (es.length + 1) ec') (es.length + 1) ((es.map pairCells).flatten ++ [.int .i64 a, .int .i64 b]))
    (hg : (w.alloc (.cells #[.int .i64 a, .int .i64 b] t)).grownBy w4 (Value.slice EA es.length ec).ownBlock) : ∃ W6, w4.setCell ⟨G, 7, none⟩ (.slice EA' (es.length + 1) ec') = W6 ∧ Mid s l A cap PA pcap G T M NB ncap W5 W6 ab (es ++ [(a, b)]) pm ps ms av EA' ec' ov lv := by
  obtain ⟨h0, h1, h2, h3, h4, h5, h6, h7, h8⟩ := h.ext (ext_alloc w (.cells #[.int .i64 a, .int .i64 b] t))
  have hr : ∀ r, (Value.slice EA es.length ec).ownBlock = some r → T ≤ r := fun r hr => (h4.lt r hr).1
  refine ⟨_, rfl, by rw [set_size]; exact mid_size h0 hg, (h1.grown hg h0 hr).setG _ _, ?_, own_setCell (own_grown h3 hg (own_apart h3 h4 (by decide))) hG _, ?_, h5, own_setCell (own_grown h6 hg (own_apart h6 h4 (by decide))) hG _,
    (h7.turn hg (own_cells M h4)).far hG _ _, (h8.grown hg (own_map h4 h8)).far (by show M ≠ G; omega) _⟩
  · rw [List.length_append]
    exact (h2.grown hg (own_ne h4 hG)).set_ 7 _
  · rw [List.map_append, List.length_append, List.flatten_append]
    exact own_setCell own4 hG _
/-- One more map. -/
theorem Mid.appL (h : Mid s l A cap PA pcap G T M NB ncap W5 w ab es pm ps ms av EA ec ov lv) (hG : G < T) (hM : T ≤ M) {Mn p : Nat} {t : TypeId} {w4 : World} {v' : Value} {mn : List ((Int × Bool) × Nat)} (hMn : M < Mn) (hmap : MapOf encSort encSet w Mn mn) (hget : ∀ q, getK mn q = layAt s l p q)
    (own4 : w4.ownsRow T 140 1 v' (ps.length + 1) (ms.map mapV ++ [mapV Mn])) (hg : (w.alloc (.cells #[.map (some Mn)] t)).grownBy w4 lv.ownBlock) :
    ∃ W6, w4.setCell ⟨G, 9, none⟩ v' = W6 ∧ Mid s l A cap PA pcap G T M NB ncap W5 W6 ab es pm (ps ++ [p]) (ms ++ [Mn]) av EA ec ov v' := by
  have hmap' := hmap.ext (ext_alloc w (.cells #[.map (some Mn)] t))
  obtain ⟨h0, h1, h2, h3, h4, h5, h6, h7, h8⟩ := h.ext (ext_alloc w (.cells #[.map (some Mn)] t))
  have hr : ∀ r, lv.ownBlock = some r → T ≤ r := fun r hr => (h6.lt r hr).1
  refine ⟨_, rfl, by rw [set_size]; exact mid_size h0 hg, (h1.grown hg h0 hr).setG _ _, (h2.grown hg (own_ne h6 hG)).set_ 9 _, own_setCell (own_grown h3 hg (own_apart h3 h6 (by decide))) hG _, own_setCell (own_grown h4 hg (own_apart h4 h6 (by decide))) hG _,
    by simp [h5], ?_, ?_, (h8.grown hg (own_map h6 h8)).far (by show M ≠ G; omega) _⟩
  · rw [List.map_append, List.length_append]
    exact own_setCell own4 hG _
  · have hold := (h7.turn hg (own_cells M h6)).far hG 9 v'
    intro j Mj q hj hq
    rcases Nat.lt_or_ge j ms.length with hlt | hge
    · rw [List.getElem?_append_left hlt] at hj
      rw [List.getElem?_append_left (by omega)] at hq
      exact hold j Mj q hj hq
    · rw [List.getElem?_append_right hge] at hj
      rw [List.getElem?_append_right (by omega)] at hq
      have hj0 : j - ms.length = 0 := by
        have := (List.getElem?_eq_some_iff.1 hj).1
        simp at this
        omega
      rw [hj0] at hj
      rw [show j - ps.length = 0 by omega] at hq
      simp only [List.getElem?_cons_zero, Option.some.injEq] at hj hq
      subst hj hq
      exact ⟨by omega, by omega, mn, (hmap'.grown hg (own_map h6 hmap')).far (by show Mn ≠ G; omega) _, hget⟩
theorem Mid.put (h : Mid s l A cap PA pcap G T M NB ncap W5 w ab es pm ps ms av EA ec ov lv) (hG : G < T) (hM : T ≤ M) {w6 : World} {pm' : List ((Int × Int) × Nat)} (hm : MapOf encPair encNat w6 M pm') (hg : w.grownBy w6 (some M)) : Mid s l A cap PA pcap G T M NB ncap W5 w6 ab es pm' ps ms av EA ec ov lv := by
  obtain ⟨h0, h1, h2, h3, h4, h5, h6, h7, h8⟩ := h
  exact ⟨mid_size h0 hg, h1.grown hg h0 (fun r e => by cases e; exact hM), h2.grown hg (fun e => by cases e; omega), own_grown h3 hg (Or.inr (own_map h3 h8).symm), own_grown h4 hg (Or.inr (own_map h4 h8).symm), h5, own_grown h6 hg (Or.inr (own_map h6 h8).symm),
    h7.turn hg (fun r e => Or.inl (by cases e; rfl)), hm⟩
/-- One more of those over pairs: a row in blocks from T2 on. -/
theorem Mid.appO {T2 : Nat} {os : List Int} (h : Mid s l A cap PA pcap G T M NB ncap W5 w ab es pm ps ms av EA ec ov lv) (hov : w.ownsRow T2 3 1 ov os.length (os.map iv)) (hav : ∀ r, av.ownBlock = some r → r < T2) (hT2 : T ≤ T2) (hG : G < T) (hM : T ≤ M) {a : Int} {t : TypeId} {w4 : World} {v' : Value}
    (own4 : w4.ownsRow T2 3 1 v' (os.length + 1) (os.map iv ++ [iv a])) (hg : (w.alloc (.cells #[.int .i64 a] t)).grownBy w4 ov.ownBlock) :
    ∃ W6, w4.setCell ⟨G, 8, none⟩ v' = W6 ∧ Mid s l A cap PA pcap G T M NB ncap W5 W6 ab es pm ps ms av EA ec v' lv ∧ W6.ownsRow T2 3 1 v' (os ++ [a]).length ((os ++ [a]).map iv) := by
  obtain ⟨h0, h1, h2, h3, h4, h5, h6, h7, h8⟩ := h.ext (ext_alloc w (.cells #[.int .i64 a] t))
  have hov := own_ext hov (ext_alloc w (.cells #[.int .i64 a] t))
  have hr : ∀ r, ov.ownBlock = some r → T2 ≤ r := fun r hr => (hov.lt r hr).1
  have hr2 : ∀ r, ov.ownBlock = some r → T ≤ r := fun r h => Nat.le_trans hT2 (hr r h)
  have hao : av.ownBlock = none ∨ av.ownBlock ≠ ov.ownBlock := by
    cases e : av.ownBlock with
    | none => exact Or.inl rfl
    | some r =>
      right
      intro e2
      have := hr r e2.symm
      have := hav r e
      omega
  refine ⟨_, rfl, ⟨by rw [set_size]; exact mid_size h0 hg, (h1.grown hg h0 hr2).setG _ _, (h2.grown hg (own_ne hov (by omega))).set_ 8 _, own_setCell (own_grown h3 hg hao) hG _, own_setCell (own_grown h4 hg (own_apart h4 hov (by decide))) hG _,
    h5, own_setCell (own_grown h6 hg (own_apart h6 hov (by decide))) hG _, (h7.turn hg (own_cells M hov)).far hG _ _, (h8.grown hg (own_map hov h8)).far (by show M ≠ G; omega) _⟩, ?_⟩
  rw [List.map_append, List.length_append]
  exact own_setCell own4 (show G < T2 by omega) _

theorem Mid.c6 (h : Mid s l A cap PA pcap G T M NB ncap W5 w ab es pm ps ms av EA ec ov lv) : w.cell? ⟨G, 6, none⟩ = some av := h.brd.cell 6
theorem Mid.c7 (h : Mid s l A cap PA pcap G T M NB ncap W5 w ab es pm ps ms av EA ec ov lv) : w.cell? ⟨G, 7, none⟩ = some (.slice EA es.length ec) := h.brd.cell 7
theorem Mid.c8 (h : Mid s l A cap PA pcap G T M NB ncap W5 w ab es pm ps ms av EA ec ov lv) : w.cell? ⟨G, 8, none⟩ = some ov := h.brd.cell 8
theorem Mid.c9 (h : Mid s l A cap PA pcap G T M NB ncap W5 w ab es pm ps ms av EA ec ov lv) : w.cell? ⟨G, 9, none⟩ = some lv := h.brd.cell 9

/-- With some row of those above; with some row of maps. -/
def MidA (s : Shape) (l : List Plate) (A : Option Addr) (cap : Nat) (PA : Option Addr) (pcap G T M NB ncap : Nat) (W5 : World) (ab : List Int) (es : List (Int × Int)) (pm : List ((Int × Int) × Nat)) (ps ms : List Nat) (EA : Option Addr) (ec : Nat) (ov lv : Value) (w : World) : Prop :=
  ∃ av, Mid s l A cap PA pcap G T M NB ncap W5 w ab es pm ps ms av EA ec ov lv
def MidL (s : Shape) (l : List Plate) (A : Option Addr) (cap : Nat) (PA : Option Addr) (pcap G T M NB ncap : Nat) (W5 : World) (ab : List Int) (es : List (Int × Int)) (pm : List ((Int × Int) × Nat)) (ps : List Nat) (av : Value) (EA : Option Addr) (ec : Nat) (ov : Value) (w : World) : Prop :=
  ∃ ms lv, Mid s l A cap PA pcap G T M NB ncap W5 w ab es pm ps ms av EA ec ov lv

/-! ### the pairs of one place -/
def edgesJ (s : Shape) (k j : Nat) : List (Int × Int) :=
  edgesS s k ++ ((if 1 ≤ j ∧ 0 ≤ s.num (s.px k + 1) (s.py k) (s.pz k) then [(numOf s.cells k, s.num (s.px k + 1) (s.py k) (s.pz k))] else []) ++
    (if 2 ≤ j ∧ 0 ≤ s.num (s.px k) (s.py k + 1) (s.pz k) then [(numOf s.cells k, s.num (s.px k) (s.py k + 1) (s.pz k))] else []))
theorem edgesJ_zero (s : Shape) (k : Nat) : edgesJ s k 0 = edgesS s k := by simp [edgesJ]
theorem edgesJ_one_y {s : Shape} {k : Nat} {n : Int} (h : s.num (s.px k + 1) (s.py k) (s.pz k) = n) (hn : 0 ≤ n) : edgesJ s k 1 = edgesJ s k 0 ++ [(numOf s.cells k, n)] := by
  subst h
  simp [edgesJ, hn]
theorem edgesJ_one_n {s : Shape} {k : Nat} {n : Int} (h : s.num (s.px k + 1) (s.py k) (s.pz k) = n) (hn : ¬ 0 ≤ n) : edgesJ s k 1 = edgesJ s k 0 := by
  subst h
  simp [edgesJ, hn]
theorem edgesJ_two_y {s : Shape} {k : Nat} {n : Int} (h : s.num (s.px k) (s.py k + 1) (s.pz k) = n) (hn : 0 ≤ n) : edgesJ s k 2 = edgesJ s k 1 ++ [(numOf s.cells k, n)] := by
  subst h
  simp [edgesJ, hn]
theorem edgesJ_two_n {s : Shape} {k : Nat} {n : Int} (h : s.num (s.px k) (s.py k + 1) (s.pz k) = n) (hn : ¬ 0 ≤ n) : edgesJ s k 2 = edgesJ s k 1 := by
  subst h
  simp [edgesJ, hn]
theorem edgesJ_end {s : Shape} {k : Nat} (h : ¬ numOf s.cells k < 0) : edgesS s (k + 1) = edgesJ s k 2 := by
  rw [edgesS, if_neg h]
  simp [edgesJ, edgesAt]

/-! ### what the callees need -/
theorem Mid.base (h : Mid s l A cap PA pcap G T M NB ncap W5 w ab es pm ps ms av EA ec ov lv) (hb : Bytes w A cap s.cells) (hn : Ints W5 (some ⟨NB, 0, none⟩) ncap (numsOf s.cells)) (h1 : NB < T) (h2 : NB ≠ G) : Base w G s A cap (some ⟨NB, 0, none⟩) ncap := by
  have c := h.brd.cell
  exact ⟨c 0, c 1, c 2, c 3, c 5, hb, SliceIs.but hn h.but (fun q hq => by cases hq; exact ⟨h1, h2⟩)⟩
theorem Mid.below {w0 : World} (h : Mid s l A cap PA pcap G T M NB ncap W5 w ab es pm ps ms av EA ec ov lv) (E : Ext w0 W5) (h1 : w0.heap.size ≤ G) (h2 : w0.heap.size ≤ T) : Ext w0 w := h.but.below E h1 h2
theorem Mid.brd4 (h : Mid s l A cap PA pcap G T M NB ncap W5 w ab es pm ps ms av EA ec ov lv) (hb : Bytes w A cap s.cells) (hp : Plates w PA pcap l) (hn : Ints W5 (some ⟨NB, 0, none⟩) ncap (numsOf s.cells)) (h1 : NB < T) (h2 : NB ≠ G) : Brd w G s A cap (some ⟨NB, 0, none⟩) ncap l PA pcap :=
  ⟨h.base hb hn h1 h2, h.brd.cell 4, hp⟩
end
end Go.Proofs.YtaaeapjnjjbglaaGreatDoor
