/- What a composition is, and the sets of its plates: plain. The sets that a composition's plates cover exist just if it is a composition by definition. Laid plates in memory; At, size, index, Has of the reference. By and Lies of the reference. -/
import Derived.Test.YtaaeapjnjjbglaaDoorCm2

namespace Go.Proofs.YtaaeapjnjjbglaaDoor
open Go.RowKit

/-- A plate that is laid. -/
structure Laid where
  plate : Int
  x : Int
  y : Int
  z : Int
  turned : Bool
instance : Inhabited Laid := ⟨⟨0, 0, 0, 0, false⟩⟩
def laidAt (c : List Laid) (k : Nat) : Laid := c.getD k default
theorem laidAt_eq {c : List Laid} {k : Nat} {x : Laid} (h : c[k]? = some x) : laidAt c k = x := by simp [laidAt, h]

/-! ### blocks -/
def okCell (s : Shape) (color z v u : Int) : Prop := 0 ≤ s.num u v z ∧ s.cells.getD (s.idx u v z).toNat 0 = color
theorem cellStep_some {s : Shape} {color z v u : Int} {m m' : Nat} (h : cellStep s color z v u m = some m') : okCell s color z v u ∧ m' = m ||| 2 ^ (s.num u v z).toNat := by
  unfold cellStep at h
  split at h
  · cases h
  · rename_i hn
    rw [not_or] at hn
    exact ⟨⟨by omega, Classical.not_not.1 hn.2⟩, (Option.some.inj h).symm⟩
theorem cellStep_none {s : Shape} {color z v u : Int} {m : Nat} (h : cellStep s color z v u m = none) : ¬ okCell s color z v u := by
  unfold cellStep at h
  split at h
  · rename_i hn
    rintro ⟨h1, h2⟩
    rcases hn with hn | hn
    · omega
    · exact hn h2
  · cases h
theorem bit_or (m n b : Nat) : (m ||| 2 ^ n).testBit b = true ↔ m.testBit b = true ∨ n = b := by
  rw [Nat.testBit_or, Nat.testBit_two_pow]
  simp
theorem row_some {s : Shape} {color z x v : Int} {m : Nat} : ∀ {w m' : Nat}, rowStep s color z x w v m = some m' →
    (∀ j : Nat, j < w → okCell s color z v (x + j)) ∧ ∀ b : Nat, m'.testBit b = true ↔ m.testBit b = true ∨ ∃ j : Nat, j < w ∧ s.num (x + j) v z = b
  | 0, m', h => by
    have h : some m = some m' := h
    cases h
    exact ⟨fun j hj => by omega, fun b => ⟨Or.inl, fun h => h.elim id (fun ⟨j, hj, _⟩ => by omega)⟩⟩
  | w + 1, m', h => by
    have h' : (rowStep s color z x w v m).bind (fun k => cellStep s color z v (x + w) k) = some m' := h
    cases hr : rowStep s color z x w v m with
    | none => rw [hr] at h'; cases h'
    | some k =>
      rw [hr] at h'
      obtain ⟨ok, rfl⟩ := cellStep_some h'
      obtain ⟨h1, h2⟩ := row_some hr
      refine ⟨fun j hj => ?_, fun b => ?_⟩
      · rcases Nat.lt_or_ge j w with hj' | hj'
        · exact h1 j hj'
        · obtain rfl : j = w := by omega
          exact ok
      · rw [bit_or, h2 b]
        have := ok.1
        constructor
        · rintro ((h | ⟨j, hj, e⟩) | h)
          · exact Or.inl h
          · exact Or.inr ⟨j, by omega, e⟩
          · exact Or.inr ⟨w, by omega, by omega⟩
        · rintro (h | ⟨j, hj, e⟩)
          · exact Or.inl (Or.inl h)
          · rcases Nat.lt_or_ge j w with hj' | hj'
            · exact Or.inl (Or.inr ⟨j, hj', e⟩)
            · obtain rfl : j = w := by omega
              exact Or.inr (by omega)
theorem row_none {s : Shape} {color z x v : Int} {m : Nat} : ∀ {w : Nat}, rowStep s color z x w v m = none → ∃ j : Nat, j < w ∧ ¬ okCell s color z v (x + j)
  | 0, h => by cases h
  | w + 1, h => by
    have h' : (rowStep s color z x w v m).bind (fun k => cellStep s color z v (x + w) k) = none := h
    cases hr : rowStep s color z x w v m with
    | none =>
      obtain ⟨j, hj, h1⟩ := row_none hr
      exact ⟨j, by omega, h1⟩
    | some k =>
      rw [hr] at h'
      exact ⟨w, by omega, cellStep_none h'⟩
theorem block_some {s : Shape} {x y z color : Int} {w : Nat} : ∀ {d m : Nat}, blockS s x y z w d color = some m →
    (∀ i : Nat, i < d → ∀ j : Nat, j < w → okCell s color z (y + i) (x + j)) ∧ ∀ b : Nat, m.testBit b = true ↔ ∃ i : Nat, i < d ∧ ∃ j : Nat, j < w ∧ s.num (x + j) (y + i) z = b
  | 0, m, h => by
    have h : some 0 = some m := h
    cases h
    exact ⟨fun i hi => by omega, fun b => ⟨fun h => by simp at h, fun ⟨i, hi, _⟩ => by omega⟩⟩
  | d + 1, m', h => by
    have h' : (blockS s x y z w d color).bind (fun m => rowStep s color z x w (y + d) m) = some m' := h
    cases hr : blockS s x y z w d color with
    | none => rw [hr] at h'; cases h'
    | some k =>
      rw [hr] at h'
      obtain ⟨r1, r2⟩ := row_some h'
      obtain ⟨h1, h2⟩ := block_some hr
      refine ⟨fun i hi => ?_, fun b => ?_⟩
      · rcases Nat.lt_or_ge i d with hi' | hi'
        · exact h1 i hi'
        · obtain rfl : i = d := by omega
          exact r1
      · rw [r2 b, h2 b]
        constructor
        · rintro (⟨i, hi, e⟩ | e)
          · exact ⟨i, by omega, e⟩
          · exact ⟨d, by omega, e⟩
        · rintro ⟨i, hi, e⟩
          rcases Nat.lt_or_ge i d with hi' | hi'
          · exact Or.inl ⟨i, hi', e⟩
          · obtain rfl : i = d := by omega
            exact Or.inr e
theorem block_none {s : Shape} {x y z color : Int} {w : Nat} : ∀ {d : Nat}, blockS s x y z w d color = none → ∃ i : Nat, i < d ∧ ∃ j : Nat, j < w ∧ ¬ okCell s color z (y + i) (x + j)
  | 0, h => by cases h
  | d + 1, h => by
    have h' : (blockS s x y z w d color).bind (fun m => rowStep s color z x w (y + d) m) = none := h
    cases hr : blockS s x y z w d color with
    | none =>
      obtain ⟨i, hi, e⟩ := block_none hr
      exact ⟨i, by omega, e⟩
    | some k =>
      rw [hr] at h'
      obtain ⟨j, hj, e⟩ := row_none h'
      exact ⟨d, by omega, j, hj, e⟩

/-! ### numbers of full cells -/
theorem numOf_full {cs : List Int} {i : Nat} (h : 0 ≤ numOf cs i) : cs.getD i 0 ≠ 0 ∧ numOf cs i = (fullN (cs.take i) : Int) := by
  unfold numOf at h ⊢
  split at h
  · omega
  · rename_i h0
    exact ⟨h0, by rw [if_neg h0]⟩
theorem getD_lt {cs : List Int} {i : Nat} (h : cs.getD i 0 ≠ 0) : i < cs.length := by
  rcases Nat.lt_or_ge i cs.length with h' | h'
  · exact h'
  · exfalso
    apply h
    simp [List.getElem?_eq_none h']
theorem fullN_mono {cs : List Int} {i j : Nat} (h : i ≤ j) : fullN (cs.take i) ≤ fullN (cs.take j) := by
  have : cs.take i = (cs.take j).take i := by rw [List.take_take, Nat.min_eq_left h]
  rw [this]
  exact (List.take_sublist _ _).countP_le
theorem fullN_step {cs : List Int} {i : Nat} (h : cs.getD i 0 ≠ 0) : fullN (cs.take (i + 1)) = fullN (cs.take i) + 1 := by
  have hi := getD_lt h
  have hc : cs[i]? = some cs[i] := List.getElem?_eq_getElem hi
  rw [fullN_succ hc, if_neg]
  rw [List.getD_eq_getElem?_getD, hc] at h
  exact h
theorem numOf_lt {cs : List Int} {i j : Nat} (hi : 0 ≤ numOf cs i) (hj : 0 ≤ numOf cs j) : numOf cs i < numOf cs j ↔ i < j := by
  obtain ⟨i1, i2⟩ := numOf_full hi
  obtain ⟨j1, j2⟩ := numOf_full hj
  rw [i2, j2]
  constructor
  · intro h
    rcases Nat.lt_or_ge i j with h' | h'
    · exact h'
    · have := fullN_mono (cs := cs) h'
      omega
  · intro h
    have h1 := fullN_mono (cs := cs) (show i + 1 ≤ j from h)
    rw [fullN_step i1] at h1
    omega
theorem numOf_inj {cs : List Int} {i j : Nat} (hi : 0 ≤ numOf cs i) (h : numOf cs i = numOf cs j) : i = j := by
  have hj : 0 ≤ numOf cs j := by omega
  rcases Nat.lt_trichotomy i j with h' | h' | h'
  · have := (numOf_lt hi hj).2 h'
    omega
  · exact h'
  · have := (numOf_lt hj hi).2 h'
    omega
theorem numOf_surj {cs : List Int} : ∀ {k : Nat} {b : Nat}, k ≤ cs.length → b < fullN (cs.take k) → ∃ i, i < k ∧ numOf cs i = b
  | 0, b, _, h => by simp [fullN] at h
  | k + 1, b, hk, h => by
    by_cases h0 : cs.getD k 0 = 0
    · have hc : cs[k]? = some cs[k] := List.getElem?_eq_getElem (by omega)
      rw [List.getD_eq_getElem?_getD, hc] at h0
      simp only [Option.getD_some] at h0
      rw [fullN_succ hc, if_pos h0] at h
      obtain ⟨i, hi, e⟩ := numOf_surj (by omega) (show b < fullN (cs.take k) by omega)
      exact ⟨i, by omega, e⟩
    · rw [fullN_step h0] at h
      rcases Nat.lt_or_ge b (fullN (cs.take k)) with hb | hb
      · obtain ⟨i, hi, e⟩ := numOf_surj (by omega) hb
        exact ⟨i, by omega, e⟩
      · refine ⟨k, by omega, ?_⟩
        unfold numOf
        rw [if_neg h0]
        omega

/-! ### places -/
theorem Shape.inside_iff (s : Shape) (x y z : Int) : s.inside x y z = true ↔ (0 ≤ x ∧ x ≤ s.W - 1) ∧ (0 ≤ y ∧ y ≤ s.D - 1) ∧ 0 ≤ z ∧ z ≤ s.H - 1 := by
  simp only [Shape.inside, Bool.and_eq_true, inB_iff]
theorem Shape.place_of {s : Shape} (ok : s.Ok) {x y z : Int} (h : s.inside x y z = true) : s.px (s.idx x y z).toNat = x ∧ s.py (s.idx x y z).toNat = y ∧ s.pz (s.idx x y z).toNat = z := by
  have hi := s.idx_in ok h
  rw [Shape.inside_iff] at h
  obtain ⟨⟨x1, x2⟩, ⟨y1, y2⟩, z1, z2⟩ := h
  have w1 := ok.w
  have d1 := ok.d
  have e : ((s.idx x y z).toNat : Int) = (z * s.D + y) * s.W + x := by
    have : s.idx x y z = (z * s.D + y) * s.W + x := rfl
    omega
  have e1 : ((s.idx x y z).toNat : Int) % s.W = x := by
    rw [e, Int.mul_comm, Int.add_comm, Int.add_mul_emod_self_left, Int.emod_eq_of_lt x1 (by omega)]
  have e2 : ((s.idx x y z).toNat : Int) / s.W = z * s.D + y := by
    rw [e, Int.mul_comm, Int.add_comm, Int.add_mul_ediv_left _ _ (by omega), Int.ediv_eq_zero_of_lt x1 (by omega)]
    omega
  refine ⟨e1, ?_, ?_⟩
  · unfold Shape.py
    rw [e2, Int.mul_comm, Int.add_comm, Int.add_mul_emod_self_left, Int.emod_eq_of_lt y1 (by omega)]
  · unfold Shape.pz
    rw [e2, Int.mul_comm, Int.add_comm, Int.add_mul_ediv_left _ _ (by omega), Int.ediv_eq_zero_of_lt y1 (by omega)]
    omega
theorem Shape.idx_inj {s : Shape} (ok : s.Ok) {x y z x' y' z' : Int} (h : s.inside x y z = true) (h' : s.inside x' y' z' = true) (e : s.idx x y z = s.idx x' y' z') : x = x' ∧ y = y' ∧ z = z' := by
  obtain ⟨a1, a2, a3⟩ := s.place_of ok h
  obtain ⟨b1, b2, b3⟩ := s.place_of ok h'
  rw [e] at a1 a2 a3
  exact ⟨a1.symm.trans b1, a2.symm.trans b2, a3.symm.trans b3⟩
theorem Shape.num_eq {s : Shape} {x y z : Int} (h : s.inside x y z = true) : s.num x y z = numOf s.cells (s.idx x y z).toNat := by rw [Shape.num, if_pos h]
theorem Shape.num_inj {s : Shape} (ok : s.Ok) {x y z x' y' z' : Int} (h : 0 ≤ s.num x y z) (e : s.num x y z = s.num x' y' z') : x = x' ∧ y = y' ∧ z = z' := by
  have h1 : s.inside x y z = true := num_in (by omega)
  have h2 : s.inside x' y' z' = true := num_in (by omega)
  have i1 := s.idx_in ok h1
  have i2 := s.idx_in ok h2
  rw [s.num_eq h1] at h
  rw [s.num_eq h1, s.num_eq h2] at e
  have := numOf_inj h e
  exact s.idx_inj ok h1 h2 (by omega)
/-- The colour of a place; 0 outside. -/
def Shape.colorAt (s : Shape) (x y z : Int) : Int := if s.inside x y z then s.cells.getD (s.idx x y z).toNat 0 else 0
theorem Shape.num_iff {s : Shape} (x y z : Int) : 0 ≤ s.num x y z ↔ s.colorAt x y z ≠ 0 := by
  unfold Shape.num Shape.colorAt
  split
  · unfold numOf
    split
    · rename_i h
      exact ⟨fun h' => by omega, fun h' => absurd h h'⟩
    · rename_i h
      constructor
      · exact fun _ => h
      · intro _; omega
  · simp
theorem okCell_iff {s : Shape} {color z v u : Int} (hc : color ≠ 0) : okCell s color z v u ↔ s.colorAt u v z = color := by
  unfold okCell
  rw [Shape.num_iff]
  unfold Shape.colorAt
  split
  · exact ⟨fun h => h.2, fun h => ⟨by rw [h]; exact hc, h⟩⟩
  · simp
    exact fun h => hc h.symm

/-! ### laid plates -/
def sizeW (l : List Plate) (c : Laid) : Int := if c.turned then (plateAt l c.plate.toNat).D else (plateAt l c.plate.toNat).W
def sizeD (l : List Plate) (c : Laid) : Int := if c.turned then (plateAt l c.plate.toNat).W else (plateAt l c.plate.toNat).D
def hasB (l : List Plate) (c : Laid) (x y z : Int) : Bool := decide (z = c.z) && (inB c.x (c.x + sizeW l c - 1) x && inB c.y (c.y + sizeD l c - 1) y)
theorem hasB_iff {l : List Plate} {c : Laid} {x y z : Int} : hasB l c x y z = true ↔ z = c.z ∧ (c.x ≤ x ∧ x ≤ c.x + sizeW l c - 1) ∧ c.y ≤ y ∧ y ≤ c.y + sizeD l c - 1 := by
  simp only [hasB, Bool.and_eq_true, inB_iff, decide_eq_true_eq]
/-- All places of a block have a colour. -/
def sameAll (s : Shape) (color z x y : Int) (w d : Nat) : Bool := (List.range d).all fun i => (List.range w).all fun j => decide (s.colorAt (x + j) (y + i) z = color)
theorem sameAll_iff {s : Shape} {color z x y : Int} {w d : Nat} : sameAll s color z x y w d = true ↔ ∀ i : Nat, i < d → ∀ j : Nat, j < w → s.colorAt (x + j) (y + i) z = color := by
  simp only [sameAll, List.all_eq_true, List.mem_range, decide_eq_true_eq]
def liesB (s : Shape) (l : List Plate) (c : Laid) : Bool :=
  inB 0 ((l.length : Int) - 1) c.plate && (s.inside c.x c.y c.z && (!(c.turned && decide ((plateAt l c.plate.toNat).W = (plateAt l c.plate.toNat).D)) &&
    (sameAll s (s.colorAt c.x c.y c.z) c.z c.x c.y (sizeW l c).toNat (sizeD l c).toNat && (decide (s.colorAt c.x c.y c.z ≠ 0) && (decide ((plateAt l c.plate.toNat).color = 0) || decide ((plateAt l c.plate.toNat).color = s.colorAt c.x c.y c.z))))))
/-- The set that a laid plate covers. -/
def coverOf (s : Shape) (l : List Plate) (c : Laid) : Option Nat := layF s l c.x c.y c.z (s.colorAt c.x c.y c.z) l.length (c.plate, c.turned)

theorem layP_eq (s : Shape) (l : List Plate) (c : Laid) (color : Int) : layP s c.x c.y c.z color (plateAt l c.plate.toNat) c.turned =
    if (plateAt l c.plate.toNat).color ≠ 0 ∧ (plateAt l c.plate.toNat).color ≠ color then none else if c.turned = true ∧ (plateAt l c.plate.toNat).W = (plateAt l c.plate.toNat).D then none
    else blockS s c.x c.y c.z (sizeW l c).toNat (sizeD l c).toNat color := by
  unfold layP sizeW sizeD
  cases c.turned <;> simp
theorem lies_iff {s : Shape} {l : List Plate} {c : Laid} : liesB s l c = true ↔ (0 ≤ c.plate ∧ c.plate < l.length) ∧ s.inside c.x c.y c.z = true ∧ ¬ (c.turned = true ∧ (plateAt l c.plate.toNat).W = (plateAt l c.plate.toNat).D) ∧
    sameAll s (s.colorAt c.x c.y c.z) c.z c.x c.y (sizeW l c).toNat (sizeD l c).toNat = true ∧ s.colorAt c.x c.y c.z ≠ 0 ∧ ((plateAt l c.plate.toNat).color = 0 ∨ (plateAt l c.plate.toNat).color = s.colorAt c.x c.y c.z) := by
  simp only [liesB, Bool.and_eq_true, Bool.or_eq_true, Bool.not_eq_true', Bool.and_eq_false_iff, decide_eq_true_eq, decide_eq_false_iff_not, inB_iff, not_and]
  constructor
  · rintro ⟨⟨a1, a2⟩, b, c1, d, e, f⟩
    refine ⟨⟨a1, by omega⟩, b, fun h => ?_, d, e, f⟩
    rcases c1 with c1 | c1
    · rw [h] at c1; cases c1
    · exact c1
  · rintro ⟨⟨a1, a2⟩, b, c1, d, e, f⟩
    refine ⟨⟨a1, by omega⟩, b, ?_, d, e, f⟩
    cases h : c.turned
    · exact Or.inl rfl
    · exact Or.inr (c1 h)
/-- A laid plate is valid just if the map of its place has it. -/
theorem lies_cover {s : Shape} {l : List Plate} {c : Laid} : liesB s l c = true ↔ 0 ≤ s.num c.x c.y c.z ∧ (coverOf s l c).isSome = true := by
  rw [lies_iff, Shape.num_iff]
  unfold coverOf layF
  constructor
  · rintro ⟨hp, hin, ht, hs, hc, hcol⟩
    refine ⟨hc, ?_⟩
    rw [if_pos hp]
    show (layP s c.x c.y c.z (s.colorAt c.x c.y c.z) (plateAt l c.plate.toNat) c.turned).isSome = true
    rw [layP_eq, if_neg (by omega), if_neg ht]
    cases hb : blockS s c.x c.y c.z (sizeW l c).toNat (sizeD l c).toNat (s.colorAt c.x c.y c.z) with
    | some m => rfl
    | none =>
      exfalso
      obtain ⟨i, hi, j, hj, hn⟩ := block_none hb
      exact hn ((okCell_iff hc).2 (sameAll_iff.1 hs i hi j hj))
  · rintro ⟨hc, h⟩
    have hin : s.inside c.x c.y c.z = true := by
      have := (Shape.num_iff (s := s) c.x c.y c.z).2 hc
      exact num_in (by omega)
    split at h
    · rename_i hp
      have h : (layP s c.x c.y c.z (s.colorAt c.x c.y c.z) (plateAt l c.plate.toNat) c.turned).isSome = true := h
      rw [layP_eq] at h
      split at h
      · cases h
      · rename_i hcol
        split at h
        · cases h
        · rename_i ht
          obtain ⟨m, hm⟩ := Option.isSome_iff_exists.1 h
          obtain ⟨h1, _⟩ := block_some hm
          exact ⟨hp, hin, ht, sameAll_iff.2 fun i hi j hj => (okCell_iff hc).1 (h1 i hi j hj), hc, by omega⟩
    · cases h
/-- Which cells it covers. -/
theorem cover_bits {s : Shape} {l : List Plate} {c : Laid} {m : Nat} (ok : s.Ok) (hm : coverOf s l c = some m) {x y z : Int} {b : Nat} (hn : s.num x y z = b) : m.testBit b = true ↔ hasB l c x y z = true := by
  unfold coverOf layF at hm
  split at hm
  · have hm : layP s c.x c.y c.z (s.colorAt c.x c.y c.z) (plateAt l c.plate.toNat) c.turned = some m := hm
    rw [layP_eq] at hm
    split at hm
    · cases hm
    · split at hm
      · cases hm
      · obtain ⟨_, h2⟩ := block_some hm
        rw [h2 b, hasB_iff]
        constructor
        · rintro ⟨i, hi, j, hj, e⟩
          obtain ⟨e1, e2, e3⟩ := s.num_inj ok (by omega) (hn.trans e.symm)
          omega
        · rintro ⟨e, hx, hy⟩
          refine ⟨(y - c.y).toNat, by omega, (x - c.x).toNat, by omega, ?_⟩
          rw [show c.x + ((x - c.x).toNat : Int) = x by omega, show c.y + ((y - c.y).toNat : Int) = y by omega, ← e]
          exact hn
  · cases hm
theorem cover_lt {s : Shape} {l : List Plate} {c : Laid} {m : Nat} (ok : s.Ok) (hm : coverOf s l c = some m) {b : Nat} (hb : m.testBit b = true) : b < fullN s.cells ∧ ∃ x y z, s.num x y z = b := by
  unfold coverOf layF at hm
  split at hm
  · have hm : layP s c.x c.y c.z (s.colorAt c.x c.y c.z) (plateAt l c.plate.toNat) c.turned = some m := hm
    rw [layP_eq] at hm
    split at hm
    · cases hm
    · split at hm
      · cases hm
      · obtain ⟨_, h2⟩ := block_some hm
        obtain ⟨i, hi, j, hj, e⟩ := (h2 b).1 hb
        have := num_lt_full ok (c.x + j) (c.y + i) c.z
        exact ⟨by omega, _, _, _, e⟩
  · cases hm
end Go.Proofs.YtaaeapjnjjbglaaDoor

namespace Go.Proofs.YtaaeapjnjjbglaaDoor
open Go.RowKit

/-! ### by which plate a cell is covered -/
def byStep (l : List Plate) (c : List Laid) (x y z : Int) (k : Nat) (b : Int) : Option Int := if hasB l (laidAt c k) x y z = true then (if b ≠ -1 then none else some (k : Int)) else some b
def byRun (l : List Plate) (c : List Laid) (x y z : Int) (k : Nat) : Option Int := runs (byStep l c x y z) k (-1)
def byI (l : List Plate) (c : List Laid) (x y z : Int) : Int := (byRun l c x y z c.length).getD (-2)
theorem byRun_some {l : List Plate} {c : List Laid} {x y z : Int} : ∀ {k : Nat} {r : Int}, byRun l c x y z k = some r →
    (r = -1 ∧ ∀ i, i < k → hasB l (laidAt c i) x y z = false) ∨ ∃ i : Nat, i < k ∧ r = i ∧ hasB l (laidAt c i) x y z = true ∧ ∀ j, j < k → hasB l (laidAt c j) x y z = true → j = i
  | 0, r, h => by
    have h : some (-1) = some r := h
    cases h
    exact Or.inl ⟨rfl, fun i hi => by omega⟩
  | k + 1, r, h => by
    have h' : (byRun l c x y z k).bind (byStep l c x y z k) = some r := h
    cases hr : byRun l c x y z k with
    | none => rw [hr] at h'; cases h'
    | some q =>
      rw [hr] at h'
      have h' : byStep l c x y z k q = some r := h'
      have ih := byRun_some hr
      unfold byStep at h'
      split at h'
      · rename_i hk
        split at h'
        · cases h'
        · rename_i hq
          cases h'
          rcases ih with ⟨_, h1⟩ | ⟨i, _, e, _⟩
          · right
            refine ⟨k, by omega, rfl, hk, fun j hj hh => ?_⟩
            rcases Nat.lt_or_ge j k with h2 | h2
            · rw [h1 j h2] at hh; cases hh
            · omega
          · omega
      · rename_i hk
        cases h'
        have hk : hasB l (laidAt c k) x y z = false := by simpa using hk
        rcases ih with ⟨e, h1⟩ | ⟨i, hi, e, hh, h1⟩
        · left
          refine ⟨e, fun i hi => ?_⟩
          rcases Nat.lt_or_ge i k with h2 | h2
          · exact h1 i h2
          · obtain rfl : i = k := by omega
            exact hk
        · right
          refine ⟨i, by omega, e, hh, fun j hj hh' => ?_⟩
          rcases Nat.lt_or_ge j k with h2 | h2
          · exact h1 j h2 hh'
          · obtain rfl : j = k := by omega
            rw [hk] at hh'; cases hh'
theorem byRun_none {l : List Plate} {c : List Laid} {x y z : Int} : ∀ {k : Nat}, byRun l c x y z k = none → ∃ i j, i < j ∧ j < k ∧ hasB l (laidAt c i) x y z = true ∧ hasB l (laidAt c j) x y z = true
  | 0, h => by cases h
  | k + 1, h => by
    have h' : (byRun l c x y z k).bind (byStep l c x y z k) = none := h
    cases hr : byRun l c x y z k with
    | none =>
      obtain ⟨i, j, h1, h2, h3⟩ := byRun_none hr
      exact ⟨i, j, h1, by omega, h3⟩
    | some q =>
      rw [hr] at h'
      have h' : byStep l c x y z k q = none := h'
      have ih := byRun_some hr
      unfold byStep at h'
      split at h'
      · rename_i hk
        split at h'
        · rename_i hq
          rcases ih with ⟨e, _⟩ | ⟨i, hi, _, hh, _⟩
          · exact absurd e hq
          · exact ⟨i, k, hi, by omega, hh, hk⟩
        · cases h'
      · cases h'
theorem byI_iff {l : List Plate} {c : List Laid} {x y z : Int} : 0 ≤ byI l c x y z ↔ ∃ i, i < c.length ∧ hasB l (laidAt c i) x y z = true ∧ ∀ j, j < c.length → hasB l (laidAt c j) x y z = true → j = i := by
  unfold byI
  cases hr : byRun l c x y z c.length with
  | none =>
    obtain ⟨i, j, h1, h2, h3, h4⟩ := byRun_none hr
    constructor
    · intro h
      have h : (0 : Int) ≤ -2 := h
      omega
    · rintro ⟨k, hk, _, hu⟩
      have := hu i (by omega) h3
      have := hu j h2 h4
      omega
  | some r =>
    rcases byRun_some hr with ⟨e, h1⟩ | ⟨i, hi, e, hh, hu⟩
    · constructor
      · intro h
        have h : (0 : Int) ≤ r := h
        omega
      · rintro ⟨k, hk, hh, _⟩
        rw [h1 k hk] at hh
        cases hh
    · constructor
      · intro _
        exact ⟨i, hi, hh, hu⟩
      · intro _
        show (0 : Int) ≤ r
        omega
theorem byI_eq {l : List Plate} {c : List Laid} {x y z : Int} {i : Nat} (hi : i < c.length) (hh : hasB l (laidAt c i) x y z = true) (hu : ∀ j, j < c.length → hasB l (laidAt c j) x y z = true → j = i) : byI l c x y z = i := by
  unfold byI
  cases hr : byRun l c x y z c.length with
  | none =>
    obtain ⟨a, b, h1, h2, h3, h4⟩ := byRun_none hr
    have := hu a (by omega) h3
    have := hu b h2 h4
    omega
  | some r =>
    show r = i
    rcases byRun_some hr with ⟨e, h1⟩ | ⟨k, hk, e, hh', hu'⟩
    · rw [h1 i hi] at hh; cases hh
    · have := hu k hk hh'
      omega

/-! ### compositions -/
def usedN (c : List Laid) (k : Nat) (p : Int) : Nat := (c.take k).countP (fun x => decide (x.plate = p))
def numL (s : Shape) (x : Laid) : Int := s.num x.x x.y x.z
def idxL (s : Shape) (x : Laid) : Int := s.idx x.x x.y x.z
def prevNum (s : Shape) (c : List Laid) : Nat → Int
  | 0 => -1
  | k + 1 => numL s (laidAt c k)
def setStep (s : Shape) (l : List Plate) (c : List Laid) (k : Nat) (st : List Nat × Nat) : Option (List Nat × Nat) :=
  if numL s (laidAt c k) ≤ prevNum s c k then none else
  match coverOf s l (laidAt c k) with
  | none => none
  | some m => if m &&& st.2 ≠ 0 ∨ (plateAt l (laidAt c k).plate.toNat).N < usedN c (k + 1) (laidAt c k).plate then none else some (st.1 ++ [m], st.2 ||| m)
def setRun (s : Shape) (l : List Plate) (c : List Laid) (k : Nat) : Option (List Nat × Nat) := runs (setStep s l c) k ([], 0)
/-- What the sets are; whether they are those of a composition. -/
def setB (s : Shape) (l : List Plate) (c : List Laid) : Bool := match setRun s l c c.length with
  | none => false
  | some st => decide (st.2 = 2 ^ fullN s.cells - 1)
def compAt (s : Shape) (l : List Plate) (c : List Laid) (i : Nat) : Bool :=
  liesB s l (laidAt c i) && ((decide (i = 0) || decide (idxL s (laidAt c (i - 1)) < idxL s (laidAt c i))) && decide ((usedN c (i + 1) (laidAt c i).plate : Int) ≤ (plateAt l (laidAt c i).plate.toNat).N))
def coveredAt (s : Shape) (l : List Plate) (c : List Laid) (i : Nat) : Bool := decide (s.cells.getD i 0 = 0) || decide (0 ≤ byI l c (s.px i) (s.py i) (s.pz i))
def compB (s : Shape) (l : List Plate) (c : List Laid) : Bool := (List.range c.length).all (compAt s l c) && (List.range s.cells.length).all (coveredAt s l c)

structure SetIs (s : Shape) (l : List Plate) (c : List Laid) (k : Nat) (out : List Nat) (all : Nat) : Prop where
  len : out.length = k
  num : ∀ i, i < k → prevNum s c i < numL s (laidAt c i)
  cover : ∀ i, i < k → coverOf s l (laidAt c i) = some (out.getD i 0)
  used : ∀ i, i < k → (usedN c (i + 1) (laidAt c i).plate : Int) ≤ (plateAt l (laidAt c i).plate.toNat).N
  apart : ∀ i j, i < j → j < k → ∀ b, (out.getD i 0).testBit b = true → (out.getD j 0).testBit b = true → False
  bits : ∀ b, all.testBit b = true ↔ ∃ i, i < k ∧ (out.getD i 0).testBit b = true

theorem getD_snoc (l : List Nat) (m i : Nat) : (l ++ [m]).getD i 0 = if i = l.length then m else l.getD i 0 := by
  rw [List.getD_eq_getElem?_getD, List.getD_eq_getElem?_getD]
  split
  · subst_vars
    simp
  · rename_i h
    rcases Nat.lt_or_ge i l.length with h' | h'
    · rw [List.getElem?_append_left h']
    · rw [List.getElem?_append_right h', List.getElem?_eq_none h', List.getElem?_eq_none (by simp; omega)]
theorem and_zero {a b : Nat} : a &&& b = 0 ↔ ∀ i, a.testBit i = true → b.testBit i = true → False := by
  constructor
  · intro h i h1 h2
    have : (a &&& b).testBit i = true := by rw [Nat.testBit_and, h1, h2]; rfl
    rw [h] at this
    simp at this
  · intro h
    apply Nat.eq_of_testBit_eq
    intro i
    rw [Nat.testBit_and, Nat.zero_testBit]
    cases h1 : a.testBit i
    · rfl
    · cases h2 : b.testBit i
      · rfl
      · exact absurd h2 (fun h2 => h i h1 h2)
theorem setRun_is {s : Shape} {l : List Plate} {c : List Laid} : ∀ {k : Nat} {out : List Nat} {all : Nat}, setRun s l c k = some (out, all) → SetIs s l c k out all
  | 0, out, all, h => by
    have h : some (([] : List Nat), 0) = some (out, all) := h
    cases h
    exact ⟨rfl, fun i hi => by omega, fun i hi => by omega, fun i hi => by omega, fun i j _ hj => by omega, fun b => ⟨fun h => by simp at h, fun ⟨i, hi, _⟩ => by omega⟩⟩
  | k + 1, out', all', h => by
    have h' : (setRun s l c k).bind (setStep s l c k) = some (out', all') := h
    cases hr : setRun s l c k with
    | none => rw [hr] at h'; cases h'
    | some st =>
      obtain ⟨out, all⟩ := st
      rw [hr] at h'
      have h' : setStep s l c k (out, all) = some (out', all') := h'
      obtain ⟨i1, i2, i3, i4, i5, i6⟩ := setRun_is hr
      unfold setStep at h'
      split at h'
      · cases h'
      · rename_i hn
        split at h'
        · cases h'
        · rename_i m hm
          split at h'
          · cases h'
          · rename_i hg
            rw [not_or] at hg
            obtain ⟨g1, g2⟩ := hg
            have g1 : m &&& all = 0 := Classical.not_not.1 g1
            rw [and_zero] at g1
            simp only [Option.some.injEq, Prod.mk.injEq] at h'
            obtain ⟨rfl, rfl⟩ := h'
            refine ⟨by simp [i1], fun i hi => ?_, fun i hi => ?_, fun i hi => ?_, fun i j hij hj b => ?_, fun b => ?_⟩
            · rcases Nat.lt_or_ge i k with h2 | h2
              · exact i2 i h2
              · obtain rfl : i = k := by omega
                omega
            · rw [getD_snoc, i1]
              split
              · subst_vars
                exact hm
              · exact i3 i (by omega)
            · rcases Nat.lt_or_ge i k with h2 | h2
              · exact i4 i h2
              · obtain rfl : i = k := by omega
                omega
            · rw [getD_snoc, getD_snoc, i1, if_neg (by omega)]
              split
              · subst_vars
                intro h1 h2
                exact g1 b h2 ((i6 b).2 ⟨i, hij, h1⟩)
              · exact i5 i j hij (by omega) b
            · rw [Nat.testBit_or, Bool.or_eq_true, i6 b]
              constructor
              · rintro (⟨i, hi, e⟩ | e)
                · refine ⟨i, by omega, ?_⟩
                  rw [getD_snoc, i1, if_neg (by omega)]
                  exact e
                · refine ⟨k, by omega, ?_⟩
                  rw [getD_snoc, i1, if_pos rfl]
                  exact e
              · rintro ⟨i, hi, e⟩
                rw [getD_snoc, i1] at e
                split at e
                · exact Or.inr e
                · exact Or.inl ⟨i, by omega, e⟩
theorem prevNum_ge (s : Shape) (c : List Laid) (k : Nat) : -1 ≤ prevNum s c k := by
  cases k with
  | zero => exact Int.le_refl _
  | succ k =>
    show -1 ≤ s.num _ _ _
    unfold Shape.num
    split
    · exact numOf_lo _ _
    · omega
theorem numL_lt {s : Shape} (ok : s.Ok) {x y : Laid} (hx : 0 ≤ numL s x) (hy : 0 ≤ numL s y) : numL s x < numL s y ↔ idxL s x < idxL s y := by
  have h1 : s.inside x.x x.y x.z = true := num_in (by unfold numL at hx; omega)
  have h2 : s.inside y.x y.y y.z = true := num_in (by unfold numL at hy; omega)
  have i1 := s.idx_in ok h1
  have i2 := s.idx_in ok h2
  unfold numL at hx hy ⊢
  unfold idxL
  rw [s.num_eq h1] at hx ⊢
  rw [s.num_eq h2] at hy ⊢
  rw [numOf_lt hx hy]
  omega
/-- The full cell with an index is at its place. -/
theorem num_place {s : Shape} (ok : s.Ok) {i : Nat} (hi : i < s.cells.length) : s.num (s.px i) (s.py i) (s.pz i) = numOf s.cells i := by
  obtain ⟨h1, h2⟩ := s.place_in ok hi
  rw [s.num_eq h1, h2]
  rfl
theorem SetIs.lies {s : Shape} {l : List Plate} {c : List Laid} {k : Nat} {out : List Nat} {all : Nat} (h : SetIs s l c k out all) {i : Nat} (hi : i < k) : liesB s l (laidAt c i) = true := by
  rw [lies_cover]
  refine ⟨?_, by rw [h.cover i hi]; rfl⟩
  have h1 := h.num i hi
  have h2 := prevNum_ge s c i
  show 0 ≤ numL s (laidAt c i)
  omega
theorem full_bits {n all : Nat} (h : ∀ b, all.testBit b = true → b < n) : all = 2 ^ n - 1 ↔ ∀ b, b < n → all.testBit b = true := by
  constructor
  · rintro rfl b hb
    rw [Nat.testBit_two_pow_sub_one]
    simpa using hb
  · intro h2
    apply Nat.eq_of_testBit_eq
    intro b
    rw [Nat.testBit_two_pow_sub_one]
    cases hb : all.testBit b
    · have : ¬ b < n := fun h3 => by rw [h2 b h3] at hb; cases hb
      simp [this]
    · simp [h b hb]
theorem SetIs.covers {s : Shape} {l : List Plate} {c : List Laid} {out : List Nat} {all : Nat} (ok : s.Ok) (h : SetIs s l c c.length out all) (hall : all = 2 ^ fullN s.cells - 1) {x y z : Int} (hn : 0 ≤ s.num x y z) :
    ∃ i, i < c.length ∧ hasB l (laidAt c i) x y z = true ∧ ∀ j, j < c.length → hasB l (laidAt c j) x y z = true → j = i := by
  obtain ⟨b, hb⟩ := Int.eq_ofNat_of_zero_le hn
  have hlt := num_lt_full ok x y z
  have hbit : all.testBit b = true := by
    rw [hall, Nat.testBit_two_pow_sub_one]
    simp only [decide_eq_true_eq]
    omega
  obtain ⟨i, hi, e⟩ := (h.bits b).1 hbit
  refine ⟨i, hi, (cover_bits ok (h.cover i hi) hb).1 e, fun j hj hh => ?_⟩
  have e2 := (cover_bits ok (h.cover j hj) hb).2 hh
  rcases Nat.lt_trichotomy i j with h' | h' | h'
  · exact (h.apart i j h' hj b e e2).elim
  · exact h'.symm
  · exact (h.apart j i h' hi b e2 e).elim
theorem SetIs.comp {s : Shape} {l : List Plate} {c : List Laid} {out : List Nat} {all : Nat} (ok : s.Ok) (h : SetIs s l c c.length out all) (hall : all = 2 ^ fullN s.cells - 1) : compB s l c = true := by
  unfold compB
  rw [Bool.and_eq_true, List.all_eq_true, List.all_eq_true]
  constructor
  · intro i hi
    rw [List.mem_range] at hi
    unfold compAt
    simp only [Bool.and_eq_true, Bool.or_eq_true, decide_eq_true_eq]
    refine ⟨h.lies hi, ?_, h.used i hi⟩
    cases i with
    | zero => exact Or.inl rfl
    | succ i =>
      right
      have h1 := h.num (i + 1) hi
      have h2 := h.num i (by omega)
      have h3 := prevNum_ge s c i
      have h1 : numL s (laidAt c i) < numL s (laidAt c (i + 1)) := h1
      show idxL s (laidAt c i) < idxL s (laidAt c (i + 1))
      exact (numL_lt ok (by omega) (by omega)).1 h1
  · intro i hi
    rw [List.mem_range] at hi
    unfold coveredAt
    simp only [Bool.or_eq_true, decide_eq_true_eq]
    by_cases h0 : s.cells.getD i 0 = 0
    · exact Or.inl h0
    · right
      rw [byI_iff]
      refine h.covers ok hall ?_
      rw [num_place ok hi]
      unfold numOf
      rw [if_neg h0]
      omega
theorem comp_run {s : Shape} {l : List Plate} {c : List Laid} (ok : s.Ok) (h : compB s l c = true) : ∀ {k : Nat}, k ≤ c.length → ∃ st, setRun s l c k = some st
  | 0, _ => ⟨_, rfl⟩
  | k + 1, hk => by
    obtain ⟨⟨out, all⟩, hst⟩ := comp_run ok h (show k ≤ c.length by omega)
    have his := setRun_is hst
    unfold compB at h
    rw [Bool.and_eq_true, List.all_eq_true, List.all_eq_true] at h
    obtain ⟨h1, h2⟩ := h
    have hc := h1 k (List.mem_range.2 (by omega))
    unfold compAt at hc
    simp only [Bool.and_eq_true, Bool.or_eq_true, decide_eq_true_eq] at hc
    obtain ⟨hl, ho, hu⟩ := hc
    obtain ⟨hn, hcov⟩ := lies_cover.1 hl
    obtain ⟨m, hm⟩ := Option.isSome_iff_exists.1 hcov
    have hprev : prevNum s c k < numL s (laidAt c k) := by
      cases k with
      | zero =>
        show -1 < s.num _ _ _
        omega
      | succ k =>
        have hp := his.num k (by omega)
        have hq := prevNum_ge s c k
        refine (numL_lt ok (by omega) hn).2 ?_
        rcases ho with ho | ho
        · omega
        · exact ho
    have hand : m &&& all = 0 := by
      rw [and_zero]
      intro b hb1 hb2
      obtain ⟨i, hi, hb3⟩ := (his.bits b).1 hb2
      obtain ⟨hlt, x, y, z, hxyz⟩ := cover_lt ok hm hb1
      have g1 := (cover_bits ok hm hxyz).1 hb1
      have g2 := (cover_bits ok (his.cover i hi) hxyz).1 hb3
      have hin : s.inside x y z = true := num_in (by omega)
      have hid := s.idx_in ok hin
      obtain ⟨p1, p2, p3⟩ := s.place_of ok hin
      have hcv := h2 (s.idx x y z).toNat (List.mem_range.2 (by omega))
      unfold coveredAt at hcv
      simp only [Bool.or_eq_true, decide_eq_true_eq] at hcv
      have hne : s.cells.getD (s.idx x y z).toNat 0 ≠ 0 := by
        rw [s.num_eq hin] at hxyz
        exact (numOf_full (by omega)).1
      rcases hcv with hcv | hcv
      · exact hne hcv
      · rw [p1, p2, p3, byI_iff] at hcv
        obtain ⟨q, _, _, hq⟩ := hcv
        have := hq k (by omega) g1
        have := hq i (by omega) g2
        omega
    refine ⟨(out ++ [m], all ||| m), ?_⟩
    show (setRun s l c k).bind (setStep s l c k) = _
    rw [hst]
    show setStep s l c k (out, all) = _
    unfold setStep
    rw [if_neg (by omega), hm]
    show (if m &&& all ≠ 0 ∨ _ then none else some (out ++ [m], all ||| m)) = _
    rw [if_neg]
    rintro (h3 | h3)
    · exact h3 hand
    · omega
theorem set_comp {s : Shape} {l : List Plate} {c : List Laid} (ok : s.Ok) : setB s l c = compB s l c := by
  rw [Bool.eq_iff_iff]
  constructor
  · intro h
    unfold setB at h
    split at h
    · cases h
    · rename_i st hst
      obtain ⟨out, all⟩ := st
      exact (setRun_is hst).comp ok (by simpa using h)
  · intro h
    obtain ⟨⟨out, all⟩, hst⟩ := comp_run ok h (Nat.le_refl _)
    have his := setRun_is hst
    unfold setB
    rw [hst]
    show decide (all = _) = true
    rw [decide_eq_true_eq, full_bits]
    · intro b hb
      obtain ⟨i, hi, e⟩ := numOf_surj (cs := s.cells) (Nat.le_refl _) (show b < fullN (s.cells.take s.cells.length) by rw [List.take_length]; exact hb)
      unfold compB at h
      rw [Bool.and_eq_true, List.all_eq_true, List.all_eq_true] at h
      have hcv := h.2 i (List.mem_range.2 hi)
      unfold coveredAt at hcv
      simp only [Bool.or_eq_true, decide_eq_true_eq] at hcv
      rcases hcv with hcv | hcv
      · exact absurd hcv (numOf_full (by omega)).1
      · obtain ⟨j, hj, hh, _⟩ := byI_iff.1 hcv
        rw [his.bits]
        exact ⟨j, hj, (cover_bits ok (his.cover j hj) (by rw [num_place ok hi]; exact e)).2 hh⟩
    · intro b hb
      obtain ⟨i, hi, e⟩ := (his.bits b).1 hb
      exact (cover_lt ok (his.cover i hi) e).1
end Go.Proofs.YtaaeapjnjjbglaaDoor

namespace Go.Proofs.YtaaeapjnjjbglaaDoor
open Go.RowKit

def Laid.cells (c : Laid) : List Value := [.int .i64 c.plate, .int .i64 c.x, .int .i64 c.y, .int .i64 c.z, .bool c.turned]
def Laids (w : World) (A : Option Addr) (cap : Nat) (c : List Laid) : Prop := SliceIs w A c.length cap 5 (c.map Laid.cells)
theorem Laids.ext {w w' : World} {A : Option Addr} {cap : Nat} {c : List Laid} (h : Laids w A cap c) (e : Ext w w') : Laids w' A cap c := SliceIs.ext h e
theorem Laids.len {w : World} {A : Option Addr} {cap : Nat} {c : List Laid} (h : Laids w A cap c) : c.length ≤ maxLen := Nat.le_trans h.le h.small
theorem Laids.at_ {w : World} {A : Option Addr} {cap : Nat} {c : List Laid} (h : Laids w A cap c) {k : Nat} (hk : k < c.length) :
    ∃ b off x, A = some ⟨b, off, none⟩ ∧ c[k]? = some x ∧ b < w.heap.size ∧ w.cell? ⟨b, off + k * 5, none⟩ = some (.int .i64 x.plate) ∧ w.cell? ⟨b, off + k * 5 + 1, none⟩ = some (.int .i64 x.x) ∧
      w.cell? ⟨b, off + k * 5 + 2, none⟩ = some (.int .i64 x.y) ∧ w.cell? ⟨b, off + k * 5 + 3, none⟩ = some (.int .i64 x.z) ∧ w.cell? ⟨b, off + k * 5 + 4, none⟩ = some (.bool x.turned) := by
  obtain ⟨b, off, hA, hb, hc⟩ := SliceIs.cells h (by omega)
  have hget : c[k]? = some c[k] := List.getElem?_eq_getElem hk
  have hr : (c.map Laid.cells)[k]? = some c[k].cells := by rw [List.getElem?_map, hget]; rfl
  exact ⟨b, off, c[k], hA, hget, hb, hc k _ hr 0 _ rfl, hc k _ hr 1 _ rfl, hc k _ hr 2 _ rfl, hc k _ hr 3 _ rfl, hc k _ hr 4 _ rfl⟩

/-- What is laid within bounds. -/
structure Laid.Ok (l : List Plate) (c : Laid) : Prop where
  p : 0 ≤ c.plate ∧ c.plate < l.length
  x : 0 ≤ c.x ∧ c.x ≤ 8
  y : 0 ≤ c.y ∧ c.y ≤ 8
  z : 0 ≤ c.z ∧ c.z ≤ 4
theorem laid_ok {s : Shape} {l : List Plate} {c : Laid} (ok : s.Ok) (h : liesB s l c = true) : c.Ok l := by
  rw [lies_iff] at h
  obtain ⟨hp, hin, _⟩ := h
  rw [Shape.inside_iff] at hin
  have w1 := ok.w
  have d1 := ok.d
  have h1 := ok.h
  exact ⟨hp, by omega, by omega, by omega⟩
theorem sizes {l : List Plate} {c : Laid} (okl : platesB l = true) (h : 0 ≤ c.plate ∧ c.plate < l.length) : (1 ≤ sizeW l c ∧ sizeW l c ≤ 8) ∧ 1 ≤ sizeD l c ∧ sizeD l c ≤ 8 := by
  have hlt : c.plate.toNat < l.length := by omega
  have hget : l[c.plate.toNat]? = some l[c.plate.toNat] := List.getElem?_eq_getElem hlt
  have okp := plate_ok okl hget
  have h1 := okp.w
  have h2 := okp.d
  unfold sizeW sizeD
  rw [plateAt_eq hget]
  cases c.turned
  · simp only [Bool.false_eq_true, if_false]
    omega
  · simp only [if_true]
    omega

set_option maxHeartbeats 1000000 in
theorem rAt_c (s : Shape) (A : Option Addr) (cap : Nat) (x y z : Int) (ok : s.Ok) (w : World) (hb : Bytes w A cap s.cells) :
    Calls Tryd.prog 24 #[.agg #[.int .i64 s.W, .int .i64 s.D, .int .i64 s.H, .slice A s.cells.length cap], .int .i64 x, .int .i64 y, .int .i64 z] w fun e w' => e = .returned (.int .u8 (s.colorAt x y z)) ∧ Ext w w' := by
  obtain ⟨W1, hW1, E1, B1, hz1⟩ := box_ w #[.int .i64 s.W, .int .i64 s.D, .int .i64 s.H, .slice A s.cells.length cap] 24
  have b1 := B1.cell
  have hs2 := hb.ext E1
  obtain ⟨w1, w2⟩ := ok.w
  obtain ⟨d1, d2⟩ := ok.d
  obtain ⟨h1, h2⟩ := ok.h
  go_enter Tryd.func24, Tryd.ntmps24
  go_wp2_with fail
  refine (within_c _ _ _ _).mono ?_
  rintro e w0 ⟨rfl, rfl⟩
  cases k1 : inB 0 (s.W - 1) x
  · go_wp2_with fail
    go_ret
    exact ⟨by simp [Shape.colorAt, Shape.inside, k1], E1⟩
  go_wp2_with fail
  refine (within_c _ _ _ _).mono ?_
  rintro e w0 ⟨rfl, rfl⟩
  cases k2 : inB 0 (s.D - 1) y
  · go_wp2_with fail
    go_ret
    exact ⟨by simp [Shape.colorAt, Shape.inside, k2], E1⟩
  go_wp2_with fail
  refine (within_c _ _ _ _).mono ?_
  rintro e w0 ⟨rfl, rfl⟩
  cases k3 : inB 0 (s.H - 1) z
  · go_wp2_with fail
    go_ret
    exact ⟨by simp [Shape.colorAt, Shape.inside, k3], E1⟩
  have hin : s.inside x y z = true := by simp [Shape.inside, k1, k2, k3]
  have hres : s.colorAt x y z = s.cells.getD (s.idx x y z).toNat 0 := by rw [Shape.colorAt, if_pos hin]
  have hid := s.idx_in ok hin
  obtain ⟨i1, i2, i3, i4, i5, i6, -⟩ := hid
  rw [inB_iff] at k1 k2 k3
  obtain ⟨b, off, c, rfl, hc, hok, hbl, hcell⟩ := hs2.at_ (k := (s.idx x y z).toNat) (by omega)
  have hres : s.colorAt x y z = c := by rw [hres, List.getD_eq_getElem?_getD, hc]; rfl
  have ei : (z * s.D + y) * s.W + x = s.idx x y z := rfl
  have hi2 : (s.idx x y z) < (s.cells.length : Int) := i2
  have Hres := Lib.hid hres
  clear hres hc
  have hw1 : IntKind.i64.wrap (z * s.D) = z * s.D := IntWalk.i64_in _ (by omega)
  have hw2 : IntKind.i64.wrap ((z * s.D + y) * s.W) = (z * s.D + y) * s.W := IntWalk.i64_in _ (by omega)
  have hw3 : IntKind.i64.wrap (s.idx x y z) = s.idx x y z := IntWalk.i64_in _ (by omega)
  go_wp2_with fail
  go_ret
  exact ⟨by rw [Hres.out]; rfl, E1⟩

set_option maxHeartbeats 1000000 in
theorem size_c (A : Option Addr) (cap : Nat) (l : List Plate) (c : Laid) (hp : 0 ≤ c.plate ∧ c.plate < l.length) (w : World) (hl : Plates w A cap l) :
    Calls Tryd.prog 107 #[.slice A l.length cap, .agg #[.int .i64 c.plate, .int .i64 c.x, .int .i64 c.y, .int .i64 c.z, .bool c.turned]] w fun e w' =>
      e = .returned (.tuple #[.int .i64 (sizeW l c), .int .i64 (sizeD l c)]) ∧ Ext w w' := by
  obtain ⟨pl, x, y, z, t⟩ := c
  obtain ⟨hp1, hp2⟩ := hp
  obtain ⟨n, hn⟩ := Int.eq_ofNat_of_zero_le (show 0 ≤ pl from hp1)
  subst hn
  have hp2 : n < l.length := by
    have : (n : Int) < l.length := hp2
    omega
  have hlen := hl.len
  unfold maxLen at hlen
  obtain ⟨W1, hW1, E1, B1, hz1⟩ := box_ w #[.int .i64 n, .int .i64 x, .int .i64 y, .int .i64 z, .bool t] 64
  have b1 := B1.cell
  obtain ⟨b, off, p, rfl, hpl, hb, p0, p1, p2, p3⟩ := (hl.ext E1).at_ (k := n) hp2
  have Hw : Hid (sizeW l ⟨n, x, y, z, t⟩ = if t then p.D else p.W) := Lib.hid (by simp [sizeW, plateAt_eq hpl])
  have Hd : Hid (sizeD l ⟨n, x, y, z, t⟩ = if t then p.W else p.D) := Lib.hid (by simp [sizeD, plateAt_eq hpl])
  clear hpl
  cases t
  all_goals
    go_enter Tryd.func107, Tryd.ntmps107
    go_wp2_with fail
    refine wp_region_grow (by kernel_rfl) (by kernel_rfl) ?_
    repeat (go_big_quiet_step (fail))
    refine wpQuiet_nil ?_
    intro W3 hW3
    have E3 : Ext W1 W3 := by
      obtain ⟨x, rfl⟩ := hW3
      exact (Ext.refl _).grow x
    clear hW3
    obtain ⟨hcW3, hfW3, hzW3⟩ := ext_facts E3
    go_wp2_with fail
    go_ret2
    exact ⟨by rw [Hw.out, Hd.out]; rfl, E1.trans E3⟩

theorem hasB_eq {l : List Plate} {c : Laid} {x y z : Int} {a b : Bool} (h : z = c.z) (h1 : inB c.x (c.x + sizeW l c - 1) x = a) (h2 : inB c.y (c.y + sizeD l c - 1) y = b) : hasB l c x y z = (a && b) := by
  unfold hasB
  rw [decide_eq_true h, h1, h2]
  rfl
set_option maxHeartbeats 1000000 in
theorem has_c (A : Option Addr) (cap : Nat) (l : List Plate) (c : Laid) (x y z : Int) (okl : platesB l = true) (hc : c.Ok l) (w : World) (hl : Plates w A cap l) :
    Calls Tryd.prog 129 #[.slice A l.length cap, .agg #[.int .i64 c.plate, .int .i64 c.x, .int .i64 c.y, .int .i64 c.z, .bool c.turned], .int .i64 x, .int .i64 y, .int .i64 z] w fun e w' =>
      e = .returned (.bool (hasB l c x y z)) ∧ Ext w w' := by
  obtain ⟨W1, hW1, E1, B1, hz1⟩ := box_ w #[.int .i64 c.plate, .int .i64 c.x, .int .i64 c.y, .int .i64 c.z, .bool c.turned] 64
  have b1 := B1.cell
  have hl1 := hl.ext E1
  obtain ⟨⟨s1, s2⟩, s3, s4⟩ := sizes okl hc.p
  have hp := hc.p
  obtain ⟨x1, x2⟩ := hc.x
  obtain ⟨y1, y2⟩ := hc.y
  by_cases hz : z = c.z
  · have hzb : (z == c.z) = true := by simpa using hz
    cases k1 : inB c.x (c.x + sizeW l c - 1) x
    · have Hr := Lib.hid (hasB_eq hz k1 (b := inB c.y (c.y + sizeD l c - 1) y) rfl)
      clear hz
      go_enter Tryd.func129, Tryd.ntmps129
      go_wp2_with fail
      refine (size_c A cap l c hp _ hl1).mono ?_
      rintro e W2 ⟨rfl, E2⟩
      have B1 := B1.ext E2
      have b2 := B1.cell
      clear b1
      go_wp2_with fail
      refine (within_is k1 _).mono ?_
      rintro e w0 ⟨rfl, rfl⟩
      go_wp2_with fail
      go_ret
      exact ⟨by rw [Hr.out]; rfl, E1.trans E2⟩
    · have Hr := Lib.hid (hasB_eq hz k1 (b := inB c.y (c.y + sizeD l c - 1) y) rfl)
      clear hz
      go_enter Tryd.func129, Tryd.ntmps129
      go_wp2_with fail
      refine (size_c A cap l c hp _ hl1).mono ?_
      rintro e W2 ⟨rfl, E2⟩
      have B1 := B1.ext E2
      have b2 := B1.cell
      clear b1
      go_wp2_with fail
      refine (within_is k1 _).mono ?_
      rintro e w0 ⟨rfl, rfl⟩
      go_wp2_with fail
      refine (within_c _ _ _ _).mono ?_
      rintro e w0 ⟨rfl, rfl⟩
      go_wp2_with fail
      go_ret
      exact ⟨by rw [Hr.out]; rfl, E1.trans E2⟩
  · have Hr : Hid (hasB l c x y z = false) := Lib.hid (by unfold hasB; rw [decide_eq_false hz]; rfl)
    have hzb : (z == c.z) = false := by simpa using hz
    clear hz
    go_enter Tryd.func129, Tryd.ntmps129
    go_wp2_with fail
    refine (size_c A cap l c hp _ hl1).mono ?_
    rintro e W2 ⟨rfl, E2⟩
    have B1 := B1.ext E2
    have b2 := B1.cell
    clear b1
    go_wp2_with fail
    go_ret
    exact ⟨by rw [Hr.out]; rfl, E1.trans E2⟩
end Go.Proofs.YtaaeapjnjjbglaaDoor

namespace Go.Proofs.YtaaeapjnjjbglaaDoor
open Go.RowKit

theorem byRun_lo {l : List Plate} {c : List Laid} {x y z : Int} {k : Nat} {r : Int} (h : byRun l c x y z k = some r) : -1 ≤ r ∧ r < k ∨ r = -1 := by
  rcases byRun_some h with ⟨e, _⟩ | ⟨i, hi, e, _⟩
  · exact Or.inr e
  · left; omega
set_option maxHeartbeats 1000000 in
theorem by_c (A : Option Addr) (cap : Nat) (l : List Plate) (CA : Option Addr) (ccap : Nat) (c : List Laid) (x y z : Int) (okl : platesB l = true) (hc : ∀ (k : Nat) (a : Laid), c[k]? = some a → a.Ok l) (hlen : c.length ≤ 1000) (w : World) (hl : Plates w A cap l) (hcs : Laids w CA ccap c) :
    Calls Tryd.prog 103 #[.slice A l.length cap, .slice CA c.length ccap, .int .i64 x, .int .i64 y, .int .i64 z] w fun e w' =>
      e = .returned (.int .i64 (byI l c x y z)) ∧ Ext w w' := by
  go_enter Tryd.func103, Tryd.ntmps103
  go_wp2_with fail
  go_loopw [11, 12] (fun b i wr => ∃ (k : Nat) (r : Int), k ≤ c.length ∧ i = .int .i64 k ∧ b = .int .i64 r ∧ byRun l c x y z k = some r ∧ Ext w wr) (fun _ i _ => c.length - (intOf i).toNat)
  case atStart => exact ⟨0, -1, by omega, rfl, rfl, rfl, Ext.refl _⟩
  case round =>
    obtain ⟨k, r, hk, rfl, rfl, hrun, E⟩ := hrel
    have hr := byRun_lo hrun
    have Hrun := Lib.hid hrun
    clear hrun
    by_cases hlt : k < c.length
    · obtain ⟨b, off, a, rfl, ha, hb, a0, a1, a2, a3, a4⟩ := (hcs.ext E).at_ hlt
      have hok := hc k a ha
      have Hstep : Hid (byRun l c x y z (k + 1) = byStep l c x y z k r) := Lib.hid (runs_succ Hrun.out)
      have Ha := Lib.hid (laidAt_eq ha)
      clear ha
      cases hh : hasB l a x y z
      · have Hs : Hid (byRun l c x y z (k + 1) = some r) := Lib.hid (by rw [Hstep.out]; unfold byStep; rw [Ha.out, hh]; rfl)
        go_wp2_with fail
        refine (has_c A cap l a x y z okl hok _ (hl.ext E)).mono ?_
        rintro e W2 ⟨rfl, E2⟩
        rw [hh]
        clear hh
        go_wp2_with fail
        go_roundw
        case rel => exact ⟨k + 1, r, by omega, by go_num, rfl, Hs.out, E.trans E2⟩
        case measure => simp only [intOf]; omega
      · by_cases hr1 : r = -1
        · subst hr1
          have Hs : Hid (byRun l c x y z (k + 1) = some (k : Int)) := Lib.hid (by rw [Hstep.out]; unfold byStep; rw [Ha.out, hh]; rfl)
          go_wp2_with fail
          refine (has_c A cap l a x y z okl hok _ (hl.ext E)).mono ?_
          rintro e W2 ⟨rfl, E2⟩
          rw [hh]
          clear hh
          go_wp2_with fail
          go_roundw
          case rel => exact ⟨k + 1, k, by omega, by go_num, rfl, Hs.out, E.trans E2⟩
          case measure => simp only [intOf]; omega
        · have Hs : Hid (byI l c x y z = -2) := Lib.hid (by
            have h1 : byStep l c x y z k r = none := by unfold byStep; rw [Ha.out, hh, if_pos rfl, if_pos hr1]
            have h2 : byRun l c x y z c.length = none := runs_fail Hrun.out h1 hlt
            unfold byI
            rw [h2]
            rfl)
          have hr2 : (r == -1) = false := by simpa using hr1
          have hr3 : (r != -1) = true := by simpa using hr1
          clear hr1
          go_wp2_with fail
          refine (has_c A cap l a x y z okl hok _ (hl.ext E)).mono ?_
          rintro e W2 ⟨rfl, E2⟩
          rw [hh]
          clear hh
          go_wp2_with fail
          go_ret
          exact ⟨by rw [Hs.out]; rfl, E.trans E2⟩
    · obtain rfl : k = c.length := by omega
      have Hs : Hid (byI l c x y z = r) := Lib.hid (by unfold byI; rw [Hrun.out]; rfl)
      go_wp2_with fail
      go_ret
      exact ⟨by rw [Hs.out]; rfl, E⟩

theorem sameAll_bad {s : Shape} {color z x y : Int} {w d i j : Nat} (hi : i < d) (hj : j < w) (h : s.colorAt (x + j) (y + i) z ≠ color) : sameAll s color z x y w d = false := by
  cases hs : sameAll s color z x y w d
  · rfl
  · exact absurd (sameAll_iff.1 hs i hi j hj) h
theorem colorAt_lo (s : Shape) (hb : ∀ c ∈ s.cells, byteOk c) (x y z : Int) : 0 ≤ s.colorAt x y z ∧ s.colorAt x y z ≤ 255 := by
  unfold Shape.colorAt
  split
  · rw [List.getD_eq_getElem?_getD]
    cases h : s.cells[(s.idx x y z).toNat]? with
    | none => simp
    | some c => exact hb c (List.mem_of_getElem? h)
  · omega

set_option maxRecDepth 100000 in
set_option maxHeartbeats 8000000 in
theorem lies_f (s : Shape) (A : Option Addr) (cap : Nat) (l : List Plate) (PA : Option Addr) (pcap : Nat) (pl cx cy cz : Int) (t : Bool) (ok : s.Ok) (okl : platesB l = true) (w : World) (hs : Bytes w A cap s.cells) (hl : Plates w PA pcap l) :
    Calls Tryd.prog 106 #[.agg #[.int .i64 s.W, .int .i64 s.D, .int .i64 s.H, .slice A s.cells.length cap], .slice PA l.length pcap, .agg #[.int .i64 pl, .int .i64 cx, .int .i64 cy, .int .i64 cz, .bool t]] w fun e w' =>
      e = .returned (.bool (liesB s l ⟨pl, cx, cy, cz, t⟩)) ∧ Ext w w' := by
  obtain ⟨W1, hW1, E1, B1, hz1⟩ := box_ w #[.int .i64 s.W, .int .i64 s.D, .int .i64 s.H, .slice A s.cells.length cap] 24
  obtain ⟨W2, hW2, E2, B2, hz2⟩ := box_ W1 #[.int .i64 pl, .int .i64 cx, .int .i64 cy, .int .i64 cz, .bool t] 64
  have B1 := B1.ext E2
  rw [hz1] at B2
  have b1 := B1.cell
  have b2 := B2.cell
  have E12 := E1.trans E2
  have hl8 := plates_len okl
  obtain ⟨w1, w2⟩ := ok.w
  obtain ⟨d1, d2⟩ := ok.d
  obtain ⟨h1, h2⟩ := ok.h
  cases k0 : inB 0 ((l.length : Int) - 1) pl
  · go_enter Tryd.func106, Tryd.ntmps106
    go_wp2_with fail
    refine (within_is k0 _).mono ?_
    rintro e w0 ⟨rfl, rfl⟩
    go_wp2_with fail
    go_ret
    exact ⟨by simp [liesB, k0], E12⟩
  cases k1 : inB 0 (s.W - 1) cx
  · go_enter Tryd.func106, Tryd.ntmps106
    go_wp2_with fail
    refine (within_is k0 _).mono ?_
    rintro e w0 ⟨rfl, rfl⟩
    go_wp2_with fail
    refine (within_is k1 _).mono ?_
    rintro e w0 ⟨rfl, rfl⟩
    go_wp2_with fail
    go_ret
    exact ⟨by simp [liesB, Shape.inside, k1], E12⟩
  cases k2 : inB 0 (s.D - 1) cy
  · go_enter Tryd.func106, Tryd.ntmps106
    go_wp2_with fail
    refine (within_is k0 _).mono ?_
    rintro e w0 ⟨rfl, rfl⟩
    go_wp2_with fail
    refine (within_is k1 _).mono ?_
    rintro e w0 ⟨rfl, rfl⟩
    go_wp2_with fail
    refine (within_is k2 _).mono ?_
    rintro e w0 ⟨rfl, rfl⟩
    go_wp2_with fail
    go_ret
    exact ⟨by simp [liesB, Shape.inside, k2], E12⟩
  cases k3 : inB 0 (s.H - 1) cz
  · go_enter Tryd.func106, Tryd.ntmps106
    go_wp2_with fail
    refine (within_is k0 _).mono ?_
    rintro e w0 ⟨rfl, rfl⟩
    go_wp2_with fail
    refine (within_is k1 _).mono ?_
    rintro e w0 ⟨rfl, rfl⟩
    go_wp2_with fail
    refine (within_is k2 _).mono ?_
    rintro e w0 ⟨rfl, rfl⟩
    go_wp2_with fail
    refine (within_is k3 _).mono ?_
    rintro e w0 ⟨rfl, rfl⟩
    go_wp2_with fail
    go_ret
    exact ⟨by simp [liesB, Shape.inside, k3], E12⟩
  have hin : s.inside cx cy cz = true := by simp [Shape.inside, k1, k2, k3]
  obtain ⟨q0, q0'⟩ := inB_iff.1 k0
  obtain ⟨q1, q1'⟩ := inB_iff.1 k1
  obtain ⟨q2, q2'⟩ := inB_iff.1 k2
  obtain ⟨q3, q3'⟩ := inB_iff.1 k3
  obtain ⟨n, hn⟩ := Int.eq_ofNat_of_zero_le q0
  subst hn
  have hn : n < l.length := by omega
  obtain ⟨⟨s1, s2⟩, s3, s4⟩ := sizes (c := ⟨(n : Int), cx, cy, cz, t⟩) okl ⟨q0, by show (n : Int) < _; omega⟩
  obtain ⟨b, off, p, rfl, hpl, hb, p0, p1, p2, p3⟩ := (hl.ext E12).at_ hn
  have Hp := Lib.hid (plateAt_eq hpl)
  clear hpl
  obtain ⟨W3, hW3, E3, B3, hz3⟩ := box_ W2 #[.int .i64 p.W, .int .i64 p.D, .int .i64 p.N, .int .u8 p.color] 39
  have hz2' : W2.heap.size = w.heap.size + 2 := by omega
  rw [hz2'] at B3
  have B1' := B1.ext E3
  have B2' := B2.ext E3
  have b1' := B1'.cell
  have b2' := B2'.cell
  have b3 := B3.cell
  have E13 := E12.trans E3
  have hl3 := hl.ext E13
  have hs3 := hs.ext E13
  obtain ⟨sw, hsw⟩ : ∃ sw, sizeW l ⟨(n : Int), cx, cy, cz, t⟩ = sw := ⟨_, rfl⟩
  obtain ⟨sd, hsd⟩ : ∃ sd, sizeD l ⟨(n : Int), cx, cy, cz, t⟩ = sd := ⟨_, rfl⟩
  rw [hsw] at s1 s2
  rw [hsd] at s3 s4
  obtain ⟨wd, rfl⟩ := Int.eq_ofNat_of_zero_le (show 0 ≤ sw by omega)
  obtain ⟨dd, rfl⟩ := Int.eq_ofNat_of_zero_le (show 0 ≤ sd by omega)
  obtain ⟨col, hcol⟩ : ∃ col, s.colorAt cx cy cz = col := ⟨_, rfl⟩
  obtain ⟨col0, col1⟩ := colorAt_lo s hs.2 cx cy cz
  rw [hcol] at col0 col1
  have Hle : Hid (liesB s l ⟨(n : Int), cx, cy, cz, t⟩ = (!(t && decide (p.W = p.D)) && (sameAll s col cz cx cy wd dd && (decide (col ≠ 0) && (decide (p.color = 0) || decide (p.color = col)))))) := Lib.hid (by
    unfold liesB
    simp only [Int.toNat_natCast, hsw, hsd, hcol, k0, hin, Hp.out, Bool.true_and])
  have Hsize : Hid (∀ w, Plates w (some ⟨b, off, none⟩) pcap l → Calls Tryd.prog 107 #[.slice (some ⟨b, off, none⟩) l.length pcap, .agg #[.int .i64 n, .int .i64 cx, .int .i64 cy, .int .i64 cz, .bool t]] w fun e w' =>
      e = .returned (.tuple #[.int .i64 wd, .int .i64 dd]) ∧ Ext w w') := Lib.hid (fun w hl => by
    have := size_c (some ⟨b, off, none⟩) pcap l ⟨(n : Int), cx, cy, cz, t⟩ ⟨q0, by show (n : Int) < _; omega⟩ w hl
    rw [hsw, hsd] at this
    exact this)
  have Hat : Hid (∀ w, Bytes w A cap s.cells → Calls Tryd.prog 24 #[.agg #[.int .i64 s.W, .int .i64 s.D, .int .i64 s.H, .slice A s.cells.length cap], .int .i64 cx, .int .i64 cy, .int .i64 cz] w fun e w' => e = .returned (.int .u8 col) ∧ Ext w w') := Lib.hid (fun w hb => by
    have := rAt_c s A cap cx cy cz ok w hb
    rw [hcol] at this
    exact this)
  clear hcol hsw hsd hin Hp
  cases t
  · go_enter Tryd.func106, Tryd.ntmps106
    go_wp2_with fail
    refine (within_is k0 _).mono ?_
    rintro e w0 ⟨rfl, rfl⟩
    go_wp2_with fail
    refine (within_is k1 _).mono ?_
    rintro e w0 ⟨rfl, rfl⟩
    go_wp2_with fail
    refine (within_is k2 _).mono ?_
    rintro e w0 ⟨rfl, rfl⟩
    go_wp2_with fail
    refine (within_is k3 _).mono ?_
    rintro e w0 ⟨rfl, rfl⟩
    go_wp2_with fail
    refine (Hsize.out _ hl3).mono ?_
    rintro e W4 ⟨rfl, E4⟩
    have B1' := B1'.ext E4
    have B2' := B2'.ext E4
    have B3' := B3.ext E4
    clear b1 b2 b1' b2' b3 k0 k1 k2 k3
    have b1 := B1'.cell
    have b2 := B2'.cell
    have b3 := B3'.cell
    go_wp2_with fail
    refine (Hat.out _ (hs3.ext E4)).mono ?_
    rintro e W5 ⟨rfl, E5⟩
    have B1' := B1'.ext E5
    have B2' := B2'.ext E5
    have B3' := B3'.ext E5
    clear b1 b2 b3 p0 p1 p2 p3
    have b1 := B1'.cell
    have b2 := B2'.cell
    have b3 := B3'.cell
    have E15 := (E13.trans E4).trans E5
    go_wp2_with fail
    go_loopw [11] (fun v wr => ∃ i : Nat, i ≤ dd ∧ v = .int .i64 (cy + (i : Int)) ∧ (∀ a : Nat, a < i → ∀ j : Nat, j < wd → s.colorAt (cx + j) (cy + a) cz = col) ∧ Ext W5 wr) (fun v _ => (cy + (dd : Int) - intOf v).toNat)
    case atStart => exact ⟨0, by omega, by simp, fun a ha => by omega, Ext.refl _⟩
    case round =>
      obtain ⟨i, hi, rfl, hall, E6⟩ := hrel
      have Hall := Lib.hid hall
      clear hall b1 b2 b3
      have C1 := B1'.ext E6
      have C2 := B2'.ext E6
      have C3 := B3'.ext E6
      have b1 := C1.cell
      have b2 := C2.cell
      have b3 := C3.cell
      by_cases hlt : i < dd
      · obtain ⟨wo, rfl⟩ : ∃ wo : World, wo = wr := ⟨_, rfl⟩
        go_wp2_with fail
        go_loopw [12] (fun u wr => ∃ j : Nat, j ≤ wd ∧ u = .int .i64 (cx + (j : Int)) ∧ (∀ a : Nat, a < j → s.colorAt (cx + a) (cy + i) cz = col) ∧ Ext W5 wr) (fun u _ => (cx + (wd : Int) - intOf u).toNat)
        case atStart => exact ⟨0, by omega, by simp, fun a ha => by omega, E6⟩
        case round =>
          obtain ⟨j, hj, rfl, hall2, E7⟩ := hrel
          have Hall2 := Lib.hid hall2
          clear hall2 b1 b2 b3 C1 C2 C3
          have C1 := B1'.ext E7
          have C2 := B2'.ext E7
          have b1 := C1.cell
          have b2 := C2.cell
          by_cases hlt2 : j < wd
          · go_wp2_with fail
            refine (rAt_c s A cap (cx + j) (cy + i) cz ok _ ((hs3.ext (E4.trans E5)).ext E7)).mono ?_
            rintro e W8 ⟨rfl, E8⟩
            by_cases hsame : s.colorAt (cx + j) (cy + i) cz = col
            · rw [hsame]
              have Hs := Lib.hid hsame
              clear hsame
              go_wp2_with fail
              go_roundw
              case rel =>
                refine ⟨j + 1, by omega, by go_num, fun a ha => ?_, E7.trans E8⟩
                rcases Nat.lt_or_ge a j with h | h
                · exact Hall2.out a h
                · obtain rfl : a = j := by omega
                  exact Hs.out
              case measure => simp only [intOf]; omega
            · have hb1 : (s.colorAt (cx + j) (cy + i) cz == col) = false := by simpa using hsame
              have hb2 : (s.colorAt (cx + j) (cy + i) cz != col) = true := by simpa using hsame
              have Hs := Lib.hid hsame
              clear hsame
              go_wp2_with fail
              go_ret
              exact ⟨by rw [Hle.out, sameAll_bad hlt hlt2 Hs.out]; simp, (E15.trans E7).trans E8⟩
          · obtain rfl : j = wd := by omega
            go_wp2_with fail
            go_roundw
            case rel =>
              refine ⟨i + 1, by omega, by go_num, fun a ha => ?_, E7⟩
              rcases Nat.lt_or_ge a i with h | h
              · exact Hall.out a h
              · obtain rfl : a = i := by omega
                exact Hall2.out
            case measure => simp only [intOf]; omega
      · obtain rfl : i = dd := by omega
        have Hs : Hid (sameAll s col cz cx cy wd i = true) := Lib.hid (sameAll_iff.2 Hall.out)
        by_cases c0 : col = 0
        · have hb1 : (col == 0) = true := by simpa using c0
          have hb2 : (col != 0) = false := by simpa using c0
          have Hc := Lib.hid c0
          clear c0
          go_wp2_with fail
          go_ret
          exact ⟨by rw [Hle.out, Hc.out]; simp, E15.trans E6⟩
        · have hb1 : (col == 0) = false := by simpa using c0
          have hb2 : (col != 0) = true := by simpa using c0
          have Hc := Lib.hid c0
          clear c0
          by_cases c1 : p.color = 0
          · have hb3 : (p.color == 0) = true := by simpa using c1
            have Hc1 := Lib.hid c1
            clear c1
            go_wp2_with fail
            go_ret
            exact ⟨by rw [Hle.out, Hs.out, Hc1.out, decide_eq_true Hc.out]; simp[], E15.trans E6⟩
          · have hb3 : (p.color == 0) = false := by simpa using c1
            have Hc1 := Lib.hid c1
            clear c1
            by_cases c2 : p.color = col
            · have hb4 : (p.color == col) = true := by simpa using c2
              have Hc2 := Lib.hid c2
              clear c2
              go_wp2_with fail
              go_ret
              exact ⟨by rw [Hle.out, Hs.out, Hc2.out, decide_eq_true Hc.out]; simp[], E15.trans E6⟩
            · have hb4 : (p.color == col) = false := by simpa using c2
              have Hc2 := Lib.hid c2
              clear c2
              go_wp2_with fail
              go_ret
              exact ⟨by rw [Hle.out, decide_eq_false Hc2.out, decide_eq_false Hc1.out]; simp, E15.trans E6⟩
  · by_cases hwd : p.W = p.D
    · have hb1 : (p.W == p.D) = true := by simpa using hwd
      have Hwd := Lib.hid hwd
      clear hwd
      go_enter Tryd.func106, Tryd.ntmps106
      go_wp2_with fail
      refine (within_is k0 _).mono ?_
      rintro e w0 ⟨rfl, rfl⟩
      go_wp2_with fail
      refine (within_is k1 _).mono ?_
      rintro e w0 ⟨rfl, rfl⟩
      go_wp2_with fail
      refine (within_is k2 _).mono ?_
      rintro e w0 ⟨rfl, rfl⟩
      go_wp2_with fail
      refine (within_is k3 _).mono ?_
      rintro e w0 ⟨rfl, rfl⟩
      go_wp2_with fail
      go_ret
      exact ⟨by rw [Hle.out, decide_eq_true Hwd.out]; simp, E13⟩
    · have hb0 : (p.W == p.D) = false := by simpa using hwd
      have Hwd := Lib.hid hwd
      clear hwd
      go_enter Tryd.func106, Tryd.ntmps106
      go_wp2_with fail
      refine (within_is k0 _).mono ?_
      rintro e w0 ⟨rfl, rfl⟩
      go_wp2_with fail
      refine (within_is k1 _).mono ?_
      rintro e w0 ⟨rfl, rfl⟩
      go_wp2_with fail
      refine (within_is k2 _).mono ?_
      rintro e w0 ⟨rfl, rfl⟩
      go_wp2_with fail
      refine (within_is k3 _).mono ?_
      rintro e w0 ⟨rfl, rfl⟩
      go_wp2_with fail
      refine (Hsize.out _ hl3).mono ?_
      rintro e W4 ⟨rfl, E4⟩
      have B1' := B1'.ext E4
      have B2' := B2'.ext E4
      have B3' := B3.ext E4
      clear b1 b2 b1' b2' b3 k0 k1 k2 k3
      have b1 := B1'.cell
      have b2 := B2'.cell
      have b3 := B3'.cell
      go_wp2_with fail
      refine (Hat.out _ (hs3.ext E4)).mono ?_
      rintro e W5 ⟨rfl, E5⟩
      have B1' := B1'.ext E5
      have B2' := B2'.ext E5
      have B3' := B3'.ext E5
      clear b1 b2 b3 p0 p1 p2 p3
      have b1 := B1'.cell
      have b2 := B2'.cell
      have b3 := B3'.cell
      have E15 := (E13.trans E4).trans E5
      go_wp2_with fail
      go_loopw [11] (fun v wr => ∃ i : Nat, i ≤ dd ∧ v = .int .i64 (cy + (i : Int)) ∧ (∀ a : Nat, a < i → ∀ j : Nat, j < wd → s.colorAt (cx + j) (cy + a) cz = col) ∧ Ext W5 wr) (fun v _ => (cy + (dd : Int) - intOf v).toNat)
      case atStart => exact ⟨0, by omega, by simp, fun a ha => by omega, Ext.refl _⟩
      case round =>
        obtain ⟨i, hi, rfl, hall, E6⟩ := hrel
        have Hall := Lib.hid hall
        clear hall b1 b2 b3
        have C1 := B1'.ext E6
        have C2 := B2'.ext E6
        have C3 := B3'.ext E6
        have b1 := C1.cell
        have b2 := C2.cell
        have b3 := C3.cell
        by_cases hlt : i < dd
        · obtain ⟨wo, rfl⟩ : ∃ wo : World, wo = wr := ⟨_, rfl⟩
          go_wp2_with fail
          go_loopw [12] (fun u wr => ∃ j : Nat, j ≤ wd ∧ u = .int .i64 (cx + (j : Int)) ∧ (∀ a : Nat, a < j → s.colorAt (cx + a) (cy + i) cz = col) ∧ Ext W5 wr) (fun u _ => (cx + (wd : Int) - intOf u).toNat)
          case atStart => exact ⟨0, by omega, by simp, fun a ha => by omega, E6⟩
          case round =>
            obtain ⟨j, hj, rfl, hall2, E7⟩ := hrel
            have Hall2 := Lib.hid hall2
            clear hall2 b1 b2 b3 C1 C2 C3
            have C1 := B1'.ext E7
            have C2 := B2'.ext E7
            have b1 := C1.cell
            have b2 := C2.cell
            by_cases hlt2 : j < wd
            · go_wp2_with fail
              refine (rAt_c s A cap (cx + j) (cy + i) cz ok _ ((hs3.ext (E4.trans E5)).ext E7)).mono ?_
              rintro e W8 ⟨rfl, E8⟩
              by_cases hsame : s.colorAt (cx + j) (cy + i) cz = col
              · rw [hsame]
                have Hs := Lib.hid hsame
                clear hsame
                go_wp2_with fail
                go_roundw
                case rel =>
                  refine ⟨j + 1, by omega, by go_num, fun a ha => ?_, E7.trans E8⟩
                  rcases Nat.lt_or_ge a j with h | h
                  · exact Hall2.out a h
                  · obtain rfl : a = j := by omega
                    exact Hs.out
                case measure => simp only [intOf]; omega
              · have hb1 : (s.colorAt (cx + j) (cy + i) cz == col) = false := by simpa using hsame
                have hb2 : (s.colorAt (cx + j) (cy + i) cz != col) = true := by simpa using hsame
                have Hs := Lib.hid hsame
                clear hsame
                go_wp2_with fail
                go_ret
                exact ⟨by rw [Hle.out, sameAll_bad hlt hlt2 Hs.out]; simp, (E15.trans E7).trans E8⟩
            · obtain rfl : j = wd := by omega
              go_wp2_with fail
              go_roundw
              case rel =>
                refine ⟨i + 1, by omega, by go_num, fun a ha => ?_, E7⟩
                rcases Nat.lt_or_ge a i with h | h
                · exact Hall.out a h
                · obtain rfl : a = i := by omega
                  exact Hall2.out
              case measure => simp only [intOf]; omega
        · obtain rfl : i = dd := by omega
          have Hs : Hid (sameAll s col cz cx cy wd i = true) := Lib.hid (sameAll_iff.2 Hall.out)
          by_cases c0 : col = 0
          · have hb1 : (col == 0) = true := by simpa using c0
            have hb2 : (col != 0) = false := by simpa using c0
            have Hc := Lib.hid c0
            clear c0
            go_wp2_with fail
            go_ret
            exact ⟨by rw [Hle.out, Hc.out]; simp, E15.trans E6⟩
          · have hb1 : (col == 0) = false := by simpa using c0
            have hb2 : (col != 0) = true := by simpa using c0
            have Hc := Lib.hid c0
            clear c0
            by_cases c1 : p.color = 0
            · have hb3 : (p.color == 0) = true := by simpa using c1
              have Hc1 := Lib.hid c1
              clear c1
              go_wp2_with fail
              go_ret
              exact ⟨by rw [Hle.out, Hs.out, Hc1.out, decide_eq_true Hc.out]; simp[Hwd.out], E15.trans E6⟩
            · have hb3 : (p.color == 0) = false := by simpa using c1
              have Hc1 := Lib.hid c1
              clear c1
              by_cases c2 : p.color = col
              · have hb4 : (p.color == col) = true := by simpa using c2
                have Hc2 := Lib.hid c2
                clear c2
                go_wp2_with fail
                go_ret
                exact ⟨by rw [Hle.out, Hs.out, Hc2.out, decide_eq_true Hc.out]; simp[Hwd.out], E15.trans E6⟩
              · have hb4 : (p.color == col) = false := by simpa using c2
                have Hc2 := Lib.hid c2
                clear c2
                go_wp2_with fail
                go_ret
                exact ⟨by rw [Hle.out, decide_eq_false Hc2.out, decide_eq_false Hc1.out]; simp, E15.trans E6⟩
end Go.Proofs.YtaaeapjnjjbglaaDoor
