/- Hanging together, by definition; the set that the reference grows. ComposeModel, plain: the bricks of a composition have no common cells; they are linked just where the laid plates touch. -/
import Derived.Test.YtaaeapjnjjbglaaGreatDoorCd7
import Derived.Test.YtaaeapjnjjbglaaGreatDoorCd18
import Derived.Test.YtaaeapjnjjbglaaGreatDoorCd20

namespace Go.Proofs.YtaaeapjnjjbglaaGreatDoor
open Go.RowKit

def Tl (s : Shape) (l : List Plate) (c : List Laid) (i j : Nat) : Prop := touchB s l (laidAt c i) (laidAt c j) = true
open Classical in
noncomputable def hangB (s : Shape) (l : List Plate) (c : List Laid) : Bool := decide (Conn c.length (Tl s l c))
theorem hangB_iff {s : Shape} {l : List Plate} {c : List Laid} : hangB s l c = true ↔ Conn c.length (Tl s l c) := by simp [hangB]

/-- The laid plates that are in, and how many. -/
structure InT (s : Shape) (l : List Plate) (c : List Laid) (ins : List Bool) (n : Nat) : Prop where
  len : ins.length = c.length
  zero : ins[0]? = some true
  cnt : ins.countP id = n
  min : ∀ R : Nat → Prop, R 0 → (∀ i j, i < c.length → j < c.length → R i → Tl s l c i j → R j) → ∀ i, ins[i]? = some true → R i
variable {s : Shape} {l : List Plate} {c : List Laid} {ins : List Bool} {n : Nat}

theorem InT.start (h : 0 < c.length) : InT s l c ((List.replicate c.length false).set 0 true) 1 := by
  obtain ⟨m, hm⟩ : ∃ m, c.length = m + 1 := ⟨c.length - 1, by omega⟩
  have e : (List.replicate c.length false).set 0 true = true :: List.replicate m false := by rw [hm, List.replicate_succ, List.set_cons_zero]
  rw [e]
  refine ⟨by simp [hm], rfl, ?_, fun R h0 _ i hi => ?_⟩
  · rw [List.countP_cons, List.countP_replicate]
    simp
  · match i with
    | 0 => exact h0
    | i + 1 =>
      rw [List.getElem?_cons_succ, List.getElem?_replicate] at hi
      split at hi <;> simp at hi
theorem InT.step (h : InT s l c ins n) {i k : Nat} (hi : ins[i]? = some true) (hk : ins[k]? = some false) (ht : Tl s l c i k) : InT s l c (ins.set k true) (n + 1) := by
  obtain ⟨hil, _⟩ := List.getElem?_eq_some_iff.1 hi
  obtain ⟨hkl, hkv⟩ := List.getElem?_eq_some_iff.1 hk
  refine ⟨by rw [List.length_set]; exact h.len, ?_, ?_, fun R h0 hR j hj => ?_⟩
  · rw [List.getElem?_set]
    split
    · rename_i e
      subst e
      simp
    · exact h.zero
  · rw [List.countP_set hkl, hkv, h.cnt]
    simp
  · rw [List.getElem?_set] at hj
    split at hj
    · rename_i e
      subst e
      exact hR i k (by rw [← h.len]; exact hil) (by rw [← h.len]; exact hkl) (h.min R h0 hR i hi) ht
    · exact h.min R h0 hR j hj
theorem InT.le (h : InT s l c ins n) : n ≤ c.length := by
  have := List.countP_le_length (p := id) (l := ins)
  rw [h.cnt, h.len] at this
  exact this
theorem InT.get (h : InT s l c ins n) {j : Nat} (hj : j < c.length) : ∃ b, ins[j]? = some b := ⟨_, List.getElem?_eq_getElem (by rw [h.len]; exact hj)⟩
theorem InT.done (h : InT s l c ins n) (hcl : ∀ i j, i < c.length → j < c.length → ins[i]? = some true → ins[j]? = some false → ¬ Tl s l c i j) : hangB s l c = decide (n = c.length) := by
  have hc := conn_of (n := c.length) (T := Tl s l c) (S := fun i => ins[i]? = some true) h.zero
    (fun i j hi hj hs ht => by
      obtain ⟨b, hb⟩ := h.get hj
      cases b
      · exact absurd ht (hcl i j hi hj hs hb)
      · exact hb)
    (fun R h0 hR i _ hi => h.min R h0 hR i hi)
  have e : (∀ i, i < c.length → ins[i]? = some true) ↔ n = c.length := by
    rw [← h.cnt, ← h.len, List.countP_eq_length]
    constructor
    · intro ha a hm
      obtain ⟨i, hi⟩ := List.getElem?_of_mem hm
      have := ha i (List.getElem?_eq_some_iff.1 hi).1
      rw [hi] at this
      simpa using this
    · intro ha i hi
      have h1 : ins[i]? = some ins[i] := List.getElem?_eq_getElem hi
      have := ha _ (List.mem_of_getElem? h1)
      rw [h1]
      simpa using this
  unfold hangB
  rw [decide_eq_decide]
  exact hc.trans e

/-! ### a block of bools -/
def bv (b : Bool) : Value := .bool b
def boolsA (xs : List Bool) : Array Value := (xs.map bv).toArray
theorem boolsA_get (xs : List Bool) (i : Nat) : (boolsA xs)[i]? = xs[i]?.map bv := by simp [boolsA]
theorem boolsA_set (xs : List Bool) (i : Nat) (v : Bool) : (boolsA xs).setIfInBounds i (.bool v) = boolsA (xs.set i v) := by
  unfold boolsA
  rw [List.setIfInBounds_toArray, List.map_set]
  rfl
theorem infoBool : (Tryz.prog.info? 4).map (fun i => (i.zero, i.size, i.bytes)) = some (some (.bool false), 1, 1) := by kernel_rfl
theorem make_bools (n : Nat) (hn : n ≤ 100000) (w : World) : (Instr.makeSlice 144 (.int .i64 (n : Int)) (.int .i64 (n : Int))).run Tryz.prog w = .ok (.slice (some ⟨w.heap.size, 0, none⟩) n n) (w.alloc (.cells (boolsA (List.replicate n false)) 4)) := by
  obtain ⟨i0, hi, hz0, hz1, hz2⟩ := info_parts infoBool
  have h := run_make (P := Tryz.prog) w 144 4 i0 (.bool false) Tryz.underlying144 hi hz0 .i64 .i64 (n : Int) (n : Int) (by omega) (Int.le_refl _) (by rw [hz2]; omega) (by omega)
  rw [h]
  have e : madeCells (Value.cells (.bool false)) ((n : Int).toNat * i0.size) = boolsA (List.replicate n false) := by
    rw [hz1, Int.toNat_natCast, Nat.mul_one]
    apply Array.ext
    · simp [size_madeCells, boolsA]
    · intro i h1 h2
      simp [madeCells, boolsA, Value.cells, bv, Nat.mod_one]
  rw [e]
  simp
end Go.Proofs.YtaaeapjnjjbglaaGreatDoor

namespace Go.Proofs.YtaaeapjnjjbglaaGreatDoor
open Go.RowKit

/-- A cell has one laid plate. -/
theorem comp_once {s : Shape} {l : List Plate} {c : List Laid} (ok : s.Ok) (h : compB s l c = true) {i j : Nat} (hi : i < c.length) (hj : j < c.length) {x y z : Int} (h1 : hasB l (laidAt c i) x y z = true) (h2 : hasB l (laidAt c j) x y z = true) : i = j := by
  have hci : c[i]? = some (laidAt c i) := by
    unfold laidAt
    rw [List.getD_eq_getElem?_getD, List.getElem?_eq_getElem hi]
    rfl
  have hn := lies_num (comp_lies h hci) h1
  have hin : s.inside x y z = true := by
    cases e : s.inside x y z
    · unfold Shape.num at hn
      rw [e] at hn
      simp at hn
    · rfl
  rw [Shape.num_eq hin] at hn
  obtain ⟨f1, -⟩ := numOf_full hn
  have hlt := getD_lt f1
  obtain ⟨e1, e2, e3⟩ := Shape.place_of ok hin
  unfold compB at h
  rw [Bool.and_eq_true, List.all_eq_true, List.all_eq_true] at h
  have hc := h.2 _ (List.mem_range.2 hlt)
  unfold coveredAt at hc
  rw [Bool.or_eq_true, decide_eq_true_eq, decide_eq_true_eq, e1, e2, e3] at hc
  rcases hc with hc | hc
  · exact absurd hc f1
  · obtain ⟨k, -, -, hu⟩ := byI_iff.1 hc
    exact (hu i hi h1).trans (hu j hj h2).symm
/-! ### cells and knobs of a brick -/
theorem cell_of {p : Plate} {u v : Int} (hu : 0 ≤ u ∧ u < p.W) (hv : 0 ≤ v ∧ v < p.D) : ∃ i, i < areaP p ∧ cellPt p i = ⟨u, v, 0⟩ := by
  have h0 : 0 ≤ v * p.W := Int.mul_nonneg hv.1 (by omega)
  have h1 : v * p.W ≤ (p.D - 1) * p.W := Int.mul_le_mul_of_nonneg_right (by omega) (by omega)
  have h2 : (p.D - 1) * p.W = p.W * p.D - p.W := by rw [Int.sub_mul, Int.mul_comm]; omega
  have e : (((u + v * p.W).toNat : Nat) : Int) = u + v * p.W := by omega
  refine ⟨(u + v * p.W).toNat, by unfold areaP; omega, ?_⟩
  unfold cellPt
  rw [e, Int.add_mul_emod_self_right, Int.emod_eq_of_lt hu.1 hu.2, Int.add_mul_ediv_right _ _ (by omega), Int.ediv_eq_zero_of_lt hu.1 hu.2, Int.zero_add]
def tN (a : Laid) : Nat := if a.turned then 1 else 0
def atP (l : List Plate) (a : Laid) : Lat.Pt := ⟨brickX l a, a.y, a.z⟩
theorem cell_has {l : List Plate} {a : Laid} (okl : platesB l = true) (hp : 0 ≤ a.plate ∧ a.plate < l.length) {q : Lat.Pt} : (∃ i, i < areaP (plateAt l a.plate.toNat) ∧ q = Lat.addP (Lat.turnS (cellPt (plateAt l a.plate.toNat) i) (tN a)) (atP l a)) ↔ hasB l a q.x q.y q.z = true := by
  constructor
  · rintro ⟨i, hi, rfl⟩
    refine placed_has okl hp (List.mem_map.2 ⟨_, List.mem_map.2 ⟨i, List.mem_range.2 hi, rfl⟩, ?_⟩)
    rfl
  · intro h
    have hx : brickX l a = if a.turned then a.x + (plateAt l a.plate.toNat).D - 1 else a.x := rfl
    have hw : sizeW l a = if a.turned then (plateAt l a.plate.toNat).D else (plateAt l a.plate.toNat).W := rfl
    have hd : sizeD l a = if a.turned then (plateAt l a.plate.toNat).W else (plateAt l a.plate.toNat).D := rfl
    obtain ⟨p, hpp⟩ : ∃ p, plateAt l a.plate.toNat = p := ⟨_, rfl⟩
    rw [hpp] at hx hw hd ⊢
    rw [hasB_iff, hw, hd] at h
    obtain ⟨x, y, z⟩ := q
    unfold tN atP
    rw [hx]
    cases ht : a.turned
    · rw [ht] at h
      simp only [Bool.false_eq_true, if_false] at h ⊢
      obtain ⟨rfl, h1, h2⟩ := h
      obtain ⟨i, hi, e⟩ := cell_of (p := p) (u := x - a.x) (v := y - a.y) (by omega) (by omega)
      refine ⟨i, hi, ?_⟩
      rw [e]
      show (⟨x, y, a.z⟩ : Lat.Pt) = ⟨x - a.x + a.x, y - a.y + a.y, 0 + a.z⟩
      congr 1 <;> omega
    · rw [ht] at h
      simp only [if_true] at h ⊢
      obtain ⟨rfl, h1, h2⟩ := h
      obtain ⟨i, hi, e⟩ := cell_of (p := p) (u := y - a.y) (v := a.x + p.D - 1 - x) (by omega) (by omega)
      refine ⟨i, hi, ?_⟩
      rw [e]
      show (⟨x, y, a.z⟩ : Lat.Pt) = ⟨-(a.x + p.D - 1 - x) + (a.x + p.D - 1), y - a.y + a.y, 0 + a.z⟩
      congr 1 <;> omega
theorem mem_knbsL {p : Plate} {x : Lat.Knb} : ∀ {n : Nat}, x ∈ knbsL p n ↔ ∃ i, i < n ∧ (x = knbPt p i 4 1 ∨ x = knbPt p i 5 2)
  | 0 => ⟨fun h => (by cases h), fun ⟨_, h, _⟩ => (by omega)⟩
  | n + 1 => by
    show x ∈ knbsL p n ++ [knbPt p n 4 1, knbPt p n 5 2] ↔ _
    rw [List.mem_append, mem_knbsL]
    simp only [List.mem_cons, List.not_mem_nil, or_false]
    constructor
    · rintro (⟨i, hi, h⟩ | h)
      · exact ⟨i, by omega, h⟩
      · exact ⟨n, by omega, h⟩
    · rintro ⟨i, hi, h⟩
      rcases Nat.lt_or_ge i n with hlt | hge
      · exact Or.inl ⟨i, hlt, h⟩
      · obtain rfl : i = n := by omega
        exact Or.inr h
theorem kindAt_map {l : List Plate} {k : Nat} (h : k < l.length) : Lat.kindAt (l.map kndOf) k = kndOf (plateAt l k) := by
  unfold Lat.kindAt plateAt
  rw [List.getD_eq_getElem?_getD, List.getD_eq_getElem?_getD, List.getElem?_map, List.getElem?_eq_getElem h]
  rfl
theorem brkAt_map {s : Shape} {l : List Plate} {c : List Laid} {k : Nat} (h : k < c.length) : Lat.brkAt (c.map (brkOf s l)) k = brkOf s l (laidAt c k) := by
  unfold Lat.brkAt laidAt
  rw [List.getD_eq_getElem?_getD, List.getD_eq_getElem?_getD, List.getElem?_map, List.getElem?_eq_getElem h]
  rfl
theorem brk_turn (s : Shape) (l : List Plate) (a : Laid) : (brkOf s l a).turn.toNat = tN a := by
  unfold brkOf tN
  cases a.turned <;> rfl
theorem dir_up (a : Laid) : Lat.dirT 4 (tN a) = 4 ∧ Lat.dirT 5 (tN a) = 5 := by
  unfold tN
  cases a.turned <;> decide
theorem mem_bknobs {s : Shape} {l : List Plate} {a : Laid} (okl : platesB l = true) (hp : 0 ≤ a.plate ∧ a.plate < l.length) {x : Lat.Knb} : x ∈ Lat.bknobs (l.map kndOf) (brkOf s l a) ↔ ∃ q : Lat.Pt, hasB l a q.x q.y q.z = true ∧ (x = ⟨q, 4, 1⟩ ∨ x = ⟨q, 5, 2⟩) := by
  unfold Lat.bknobs
  rw [brk_turn, show (brkOf s l a).kind = a.plate from rfl, kindAt_map (by omega)]
  show x ∈ Lat.placeK (knbsL (plateAt l a.plate.toNat) (areaP (plateAt l a.plate.toNat))) (tN a) (atP l a) ↔ _
  obtain ⟨d4, d5⟩ := dir_up a
  unfold Lat.placeK
  rw [List.mem_map]
  constructor
  · rintro ⟨y, hy, rfl⟩
    obtain ⟨i, hi, rfl | rfl⟩ := mem_knbsL.1 hy
    · refine ⟨_, (cell_has okl hp).1 ⟨i, hi, rfl⟩, Or.inl ?_⟩
      show (⟨_, ((Lat.dirT 4 (tN a) : Nat) : Int), 1⟩ : Lat.Knb) = _
      rw [d4]
      rfl
    · refine ⟨_, (cell_has okl hp).1 ⟨i, hi, rfl⟩, Or.inr ?_⟩
      show (⟨_, ((Lat.dirT 5 (tN a) : Nat) : Int), 2⟩ : Lat.Knb) = _
      rw [d5]
      rfl
  · rintro ⟨q, hq, h⟩
    obtain ⟨i, hi, rfl⟩ := (cell_has okl hp).2 hq
    rcases h with rfl | rfl
    · refine ⟨knbPt _ i 4 1, mem_knbsL.2 ⟨i, hi, Or.inl rfl⟩, ?_⟩
      show (⟨_, ((Lat.dirT 4 (tN a) : Nat) : Int), 1⟩ : Lat.Knb) = _
      rw [d4]
      rfl
    · refine ⟨knbPt _ i 5 2, mem_knbsL.2 ⟨i, hi, Or.inr rfl⟩, ?_⟩
      show (⟨_, ((Lat.dirT 5 (tN a) : Nat) : Int), 2⟩ : Lat.Knb) = _
      rw [d5]
      rfl
theorem pt_at (q : Lat.Pt) : Lat.addP q (Lat.stepS 4) = ⟨q.x, q.y, q.z + 1⟩ ∧ Lat.addP q (Lat.stepS 5) = ⟨q.x, q.y, q.z - 1⟩ := by
  constructor
  · show (⟨q.x + 0, q.y + 0, q.z + 1⟩ : Lat.Pt) = _
    simp
  · show (⟨q.x + 0, q.y + 0, q.z + -1⟩ : Lat.Pt) = _
    simp
    rfl
/-- Two bricks have knobs that meet just if a cell of one is above a cell of the other. -/
theorem meet_iff {s : Shape} {l : List Plate} {a b : Laid} (okl : platesB l = true) (hpa : 0 ≤ a.plate ∧ a.plate < l.length) (hpb : 0 ≤ b.plate ∧ b.plate < l.length) :
    (∃ x ∈ Lat.bknobs (l.map kndOf) (brkOf s l a), ∃ y ∈ Lat.bknobs (l.map kndOf) (brkOf s l b), Lat.meetB x y = true) ↔ ∃ x y z, hasB l a x y z = true ∧ (hasB l b x y (z + 1) = true ∨ hasB l b x y (z - 1) = true) := by
  constructor
  · rintro ⟨x, hx, y, hy, h⟩
    obtain ⟨q, hq, hx⟩ := (mem_bknobs okl hpa).1 hx
    obtain ⟨r, hr, hy⟩ := (mem_bknobs okl hpb).1 hy
    obtain ⟨h1, h2, h3, -⟩ := Lat.meetB_iff.1 h
    obtain ⟨u1, u2⟩ := pt_at q
    rcases hx with rfl | rfl <;> rcases hy with rfl | rfl
    · exact absurd rfl h3
    · have e : Lat.addP q (Lat.stepS 4) = r := h1
      rw [u1] at e
      subst e
      exact ⟨q.x, q.y, q.z, hq, Or.inl hr⟩
    · have e : Lat.addP q (Lat.stepS 5) = r := h1
      rw [u2] at e
      subst e
      exact ⟨q.x, q.y, q.z, hq, Or.inr hr⟩
    · exact absurd rfl h3
  · rintro ⟨x, y, z, h1, h2 | h2⟩
    · exact ⟨_, (mem_bknobs okl hpa).2 ⟨⟨x, y, z⟩, h1, Or.inl rfl⟩, _, (mem_bknobs okl hpb).2 ⟨⟨x, y, z + 1⟩, h2, Or.inr rfl⟩, Lat.meetB_iff.2 ⟨(pt_at _).1, rfl, fun e => absurd (show (1 : Int) = 2 from e) (by decide), rfl⟩⟩
    · exact ⟨_, (mem_bknobs okl hpa).2 ⟨⟨x, y, z⟩, h1, Or.inr rfl⟩, _, (mem_bknobs okl hpb).2 ⟨⟨x, y, z - 1⟩, h2, Or.inl rfl⟩, Lat.meetB_iff.2 ⟨(pt_at _).2, rfl, fun e => absurd (show (2 : Int) = 1 from e) (by decide), rfl⟩⟩
theorem knb_mem {L : List Lat.Knb} {k : Nat} (h : k < L.length) : Lat.knbAt L k ∈ L := by
  rw [Lat.knbAt_eq (List.getElem?_eq_getElem h)]
  exact List.getElem_mem h
theorem touch_comm {s : Shape} {l : List Plate} {a b : Laid} (ha : liesB s l a = true) : touchP s l a b ↔ ∃ x y z, hasB l a x y z = true ∧ (hasB l b x y (z + 1) = true ∨ hasB l b x y (z - 1) = true) := by
  unfold touchP
  constructor
  · rintro ⟨x, y, z, -, h⟩
    exact ⟨x, y, z, h⟩
  · rintro ⟨x, y, z, h, h'⟩
    have hn := lies_num ha h
    refine ⟨x, y, z, ?_, h, h'⟩
    cases e : s.inside x y z
    · unfold Shape.num at hn
      rw [e] at hn
      simp at hn
    · rfl
/-- The links of the bricks are the touches of the laid plates. -/
theorem nbr_iff {s : Shape} {l : List Plate} {c : List Laid} (okl : platesB l = true) (h : compB s l c = true) {i j : Nat} (hi : i < c.length) (hj : j < c.length) : Lat.Nbr (Lat.linkL (l.map kndOf) (c.map (brkOf s l))) i j ↔ Tl s l c i j := by
  have at_ : ∀ k, k < c.length → liesB s l (laidAt c k) = true := fun k hk => comp_lies h (by
    unfold laidAt
    rw [List.getD_eq_getElem?_getD, List.getElem?_eq_getElem hk]
    rfl)
  have pl : ∀ k, k < c.length → 0 ≤ (laidAt c k).plate ∧ (laidAt c k).plate < l.length := fun k hk => (lies_iff.1 (at_ k hk)).1
  have tc : ∀ u v, u < c.length → v < c.length → (Tl s l c u v ↔ ∃ x y z, hasB l (laidAt c u) x y z = true ∧ (hasB l (laidAt c v) x y (z + 1) = true ∨ hasB l (laidAt c v) x y (z - 1) = true)) := fun u v hu hv => touchB_iff.trans (touch_comm (at_ u hu))
  have sy : ∀ u v, u < c.length → v < c.length → Tl s l c u v → Tl s l c v u := fun u v hu hv ht => by
    obtain ⟨x, y, z, h1, h2 | h2⟩ := (tc u v hu hv).1 ht
    · exact (tc v u hv hu).2 ⟨x, y, z + 1, h2, Or.inr (by rw [Int.add_sub_cancel]; exact h1)⟩
    · exact (tc v u hv hu).2 ⟨x, y, z - 1, h2, Or.inl (by rw [Int.sub_add_cancel]; exact h1)⟩
  have lk : ∀ u v, u < c.length → v < c.length → u < v → ((∃ x ∈ Lat.linkL (l.map kndOf) (c.map (brkOf s l)), x.a = u ∧ x.b = v) ↔ Tl s l c u v) := fun u v hu hv huv => by
    rw [tc u v hu hv, ← meet_iff (s := s) okl (pl u hu) (pl v hv)]
    constructor
    · rintro ⟨x, hx, rfl, rfl⟩
      obtain ⟨-, -, h3, h4, h5, -⟩ := Lat.mem_linkL.1 hx
      rw [brkAt_map hu] at h3 h5
      rw [brkAt_map hv] at h4 h5
      exact ⟨_, knb_mem h3, _, knb_mem h4, h5⟩
    · rintro ⟨x, hx, y, hy, hm⟩
      obtain ⟨m, hm1, rfl⟩ := List.mem_iff_getElem.1 hx
      obtain ⟨n, hn1, rfl⟩ := List.mem_iff_getElem.1 hy
      refine ⟨⟨u, v, m, n, Lat.oddS (Lat.knbAt (Lat.bknobs (l.map kndOf) (Lat.brkAt (c.map (brkOf s l)) u)) m).sort⟩, Lat.mem_linkL.2 ⟨huv, by simpa using hv, ?_, ?_, ?_, rfl⟩, rfl, rfl⟩
      · show m < (Lat.bknobs _ (Lat.brkAt _ u)).length
        rw [brkAt_map hu]
        exact hm1
      · show n < (Lat.bknobs _ (Lat.brkAt _ v)).length
        rw [brkAt_map hv]
        exact hn1
      · show Lat.meetB (Lat.knbAt (Lat.bknobs _ (Lat.brkAt _ u)) m) (Lat.knbAt (Lat.bknobs _ (Lat.brkAt _ v)) n) = true
        rw [brkAt_map hu, brkAt_map hv, Lat.knbAt_eq (List.getElem?_eq_getElem hm1), Lat.knbAt_eq (List.getElem?_eq_getElem hn1)]
        exact hm
  constructor
  · rintro ⟨x, hx, ⟨rfl, rfl⟩ | ⟨rfl, rfl⟩⟩
    · exact (lk _ _ hi hj (Lat.mem_linkL.1 hx).ab).1 ⟨x, hx, rfl, rfl⟩
    · exact sy _ _ hj hi ((lk _ _ hj hi (Lat.mem_linkL.1 hx).ab).1 ⟨x, hx, rfl, rfl⟩)
  · intro ht
    rcases Nat.lt_trichotomy i j with hlt | rfl | hlt
    · obtain ⟨x, hx, e1, e2⟩ := (lk i j hi hj hlt).2 ht
      exact ⟨x, hx, Or.inl ⟨e1, e2⟩⟩
    · exfalso
      obtain ⟨x, y, z, h1, h2⟩ := (tc i i hi hi).1 ht
      have e1 := (hasB_iff.1 h1).1
      rcases h2 with h2 | h2
      · have e2 := (hasB_iff.1 h2).1
        omega
      · have e2 := (hasB_iff.1 h2).1
        omega
    · obtain ⟨x, hx, e1, e2⟩ := (lk j i hj hi hlt).2 (sy i j hi hj ht)
      exact ⟨x, hx, Or.inr ⟨e2, e1⟩⟩
theorem linkL_in {ks : List Lat.Knd} {bs : List Lat.Brk} : Lat.Within (Lat.linkL ks bs) bs.length := fun x hx => by
  have h := Lat.mem_linkL.1 hx
  have h1 := h.ab
  have h2 := h.b
  omega
/-- All groups are 0 just if the composition hangs together. -/
theorem groups_hang {s : Shape} {l : List Plate} {c : List Laid} (okl : platesB l = true) (h : compB s l c = true) : (∀ i, i < c.length → (Lat.groupL (Lat.linkL (l.map kndOf) (c.map (brkOf s l))) c.length).getD i 0 = 0) ↔ hangB s l c = true := by
  have hw : Lat.Within (Lat.linkL (l.map kndOf) (c.map (brkOf s l))) c.length := by
    have := linkL_in (ks := l.map kndOf) (bs := c.map (brkOf s l))
    rwa [List.length_map] at this
  have hg := Lat.groupL_least hw
  rw [hangB_iff]
  constructor
  · intro h0 S s0 hS i hi
    have hc := (hg.2 i hi).c
    rw [h0 i hi] at hc
    have key : ∀ {k}, Lat.Conn (Lat.linkL (l.map kndOf) (c.map (brkOf s l))) 0 k → S k := fun {k} hk => by
      induction hk with
      | refl => exact s0
      | step _ hn ih =>
        have hlt := hn.lt hw
        exact hS _ _ hlt.1 hlt.2 ih ((nbr_iff okl h hlt.1 hlt.2).1 hn)
    exact key hc.symm
  · intro hc i hi
    have h0 : Lat.Conn (Lat.linkL (l.map kndOf) (c.map (brkOf s l))) 0 i := hc (fun k => Lat.Conn (Lat.linkL (l.map kndOf) (c.map (brkOf s l))) 0 k) .refl (fun u v hu hv hs ht => hs.step ((nbr_iff okl h hu hv).2 ht)) i hi
    have := (hg.2 i hi).le 0 h0.symm
    omega
end Go.Proofs.YtaaeapjnjjbglaaGreatDoor
