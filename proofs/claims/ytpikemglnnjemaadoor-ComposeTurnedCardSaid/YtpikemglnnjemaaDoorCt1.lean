/- The given statement ComposeTurnedCardSaid: for every input the law returns true, and each argument reads behind the call as it did; the listed table is tied to the program's text. No other conditions. -/
import Derived.Test.YtpikemglnnjemaaDoorCm14
import Derived.SevenTiedAt

namespace Go.Proofs.YtpikemglnnjemaaDoor
open Go.RowKit

/-! ### counting -/
theorem count_le (f : Nat → Nat) (p q : Nat → Bool) (n m : Nat) (hf : ∀ i, i < n → p i = true → f i < m ∧ q (f i) = true) (hi : ∀ i j, i < n → j < n → p i = true → p j = true → f i = f j → i = j) :
    (List.range n).countP p ≤ (List.range m).countP q := by
  rw [List.countP_eq_length_filter, List.countP_eq_length_filter, ← List.length_map (f := f)]
  apply nodup_le
  · rw [List.Nodup, List.pairwise_map]
    refine List.Pairwise.imp_of_mem ?_ (List.Pairwise.filter _ List.nodup_range)
    intro a b ha hb hne e
    rw [List.mem_filter, List.mem_range] at ha hb
    exact hne (hi a b ha.1 hb.1 ha.2 hb.2 e)
  · intro x hx
    simp only [List.mem_map, List.mem_filter, List.mem_range] at hx ⊢
    obtain ⟨a, ⟨h1, h2⟩, rfl⟩ := hx
    exact hf a h1 h2
theorem sorted_same {α : Type} (f : α → Int) : ∀ xs ys : List α, xs.Pairwise (fun a b => f a < f b) → ys.Pairwise (fun a b => f a < f b) → (∀ a, a ∈ xs ↔ a ∈ ys) → xs = ys
  | [], [], _, _, _ => rfl
  | [], y :: ys, _, _, h => by
    have := (h y).2 (by simp)
    simp at this
  | x :: xs, [], _, _, h => by
    have := (h x).1 (by simp)
    simp at this
  | x :: xs, y :: ys, hx, hy, h => by
    rw [List.pairwise_cons] at hx hy
    have e : x = y := by
      have h1 := (h x).1 (by simp)
      have h2 := (h y).2 (by simp)
      rw [List.mem_cons] at h1 h2
      rcases h1 with h1 | h1
      · exact h1
      · rcases h2 with h2 | h2
        · exact h2.symm
        · have := hy.1 x h1
          have := hx.1 y h2
          omega
    subst e
    rw [sorted_same f xs ys hx.2 hy.2 fun a => ?_]
    have := h a
    rw [List.mem_cons, List.mem_cons] at this
    constructor
    · intro ha
      rcases this.1 (Or.inr ha) with e | e
      · have := hx.1 a ha
        rw [e] at this
        omega
      · exact e
    · intro ha
      rcases this.2 (Or.inr ha) with e | e
      · have := hy.1 a ha
        rw [e] at this
        omega
      · exact e

/-! ### the turned shape -/
def turnC (s : Shape) (i : Nat) : Int := s.colorAt (s.W - 1 - s.px i) (s.D - 1 - s.py i) (s.pz i)
def turnS (s : Shape) : Shape := ⟨s.W, s.D, s.H, (List.range s.cells.length).map (turnC s)⟩
theorem turn_len (s : Shape) : (turnS s).cells.length = s.cells.length := by simp [turnS]
theorem inside_turn (s : Shape) (x y z : Int) : s.inside (s.W - 1 - x) (s.D - 1 - y) z = s.inside x y z := by
  rw [Bool.eq_iff_iff]
  simp only [Shape.inside, Bool.and_eq_true, inB_iff]
  omega
theorem turn_color {s : Shape} (ok : s.Ok) (x y z : Int) : (turnS s).colorAt x y z = s.colorAt (s.W - 1 - x) (s.D - 1 - y) z := by
  by_cases h : s.inside x y z = true
  · have hid := s.idx_in ok h
    obtain ⟨p1, p2, p3⟩ := s.place_of ok h
    have e : (turnS s).colorAt x y z = (turnS s).cells.getD (s.idx x y z).toNat 0 := if_pos h
    rw [e]
    unfold turnS
    rw [List.getD_eq_getElem?_getD, List.getElem?_map, List.getElem?_range (by omega)]
    show turnC s _ = _
    unfold turnC
    rw [p1, p2, p3]
  · have e : (turnS s).colorAt x y z = 0 := if_neg h
    rw [e, Shape.colorAt, if_neg (by rw [inside_turn]; exact h)]
theorem color_cell {s : Shape} (ok : s.Ok) {i : Nat} (hi : i < s.cells.length) : s.colorAt (s.px i) (s.py i) (s.pz i) = s.cells.getD i 0 := by
  obtain ⟨p1, p2⟩ := s.place_in ok hi
  unfold Shape.colorAt
  rw [if_pos p1, p2, Int.toNat_natCast]
theorem turn_cells {s : Shape} (ok : s.Ok) : s.cells = (List.range s.cells.length).map fun i => s.colorAt (s.px i) (s.py i) (s.pz i) := by
  apply List.ext_getElem?
  intro i
  rw [List.getElem?_map]
  rcases Nat.lt_or_ge i s.cells.length with h | h
  · rw [List.getElem?_range h, List.getElem?_eq_getElem h]
    show _ = some (s.colorAt (s.px i) (s.py i) (s.pz i))
    rw [color_cell ok h, List.getD_eq_getElem?_getD, List.getElem?_eq_getElem h]
    rfl
  · rw [List.getElem?_eq_none h, List.getElem?_eq_none (by simpa using h)]
    rfl
/-- The index of the place (x, y, z). -/
def idxN (s : Shape) (x y z : Int) : Nat := (s.idx x y z).toNat
theorem idxN_of {s : Shape} (ok : s.Ok) {x y z : Int} (h : s.inside x y z = true) : idxN s x y z < s.cells.length ∧ s.px (idxN s x y z) = x ∧ s.py (idxN s x y z) = y ∧ s.pz (idxN s x y z) = z := by
  have hid := s.idx_in ok h
  obtain ⟨p1, p2, p3⟩ := s.place_of ok h
  unfold idxN
  exact ⟨by omega, p1, p2, p3⟩
theorem place_inj {s : Shape} (ok : s.Ok) {i j : Nat} (hi : i < s.cells.length) (hj : j < s.cells.length) (hx : s.px i = s.px j) (hy : s.py i = s.py j) (hz : s.pz i = s.pz j) : i = j := by
  have h1 := (s.place_in ok hi).2
  have h2 := (s.place_in ok hj).2
  rw [hx, hy, hz, h2] at h1
  omega
theorem inside_color {s : Shape} {x y z : Int} (h : s.colorAt x y z ≠ 0) : s.inside x y z = true := by
  apply Classical.byContradiction
  intro hn
  exact h (if_neg hn)
theorem turn_full {s : Shape} (ok : s.Ok) : fullN (turnS s).cells = fullN s.cells := by
  have e1 : fullN (turnS s).cells = (List.range s.cells.length).countP fun i => decide (turnC s i ≠ 0) := by
    unfold turnS fullN
    rw [List.countP_map]
    rfl
  have e2 : fullN s.cells = (List.range s.cells.length).countP fun i => decide (s.colorAt (s.px i) (s.py i) (s.pz i) ≠ 0) := by
    rw [turn_cells ok, List.length_map, List.length_range]
    unfold fullN
    rw [List.countP_map]
    rfl
  have hin : ∀ i, i < s.cells.length → s.inside (s.W - 1 - s.px i) (s.D - 1 - s.py i) (s.pz i) = true := fun i hi => by
    rw [inside_turn]
    exact (s.place_in ok hi).1
  have inj : ∀ i j, i < s.cells.length → j < s.cells.length → idxN s (s.W - 1 - s.px i) (s.D - 1 - s.py i) (s.pz i) = idxN s (s.W - 1 - s.px j) (s.D - 1 - s.py j) (s.pz j) → i = j := fun i j hi hj e => by
    obtain ⟨_, a1, a2, a3⟩ := idxN_of ok (hin i hi)
    obtain ⟨_, b1, b2, b3⟩ := idxN_of ok (hin j hj)
    rw [e] at a1 a2 a3
    exact place_inj ok hi hj (by omega) (by omega) (by omega)
  rw [e1, e2]
  refine Nat.le_antisymm (count_le (fun i => idxN s (s.W - 1 - s.px i) (s.D - 1 - s.py i) (s.pz i)) _ _ _ _ (fun i hi hp => ?_) fun i j hi hj _ _ e => inj i j hi hj e) (count_le (fun i => idxN s (s.W - 1 - s.px i) (s.D - 1 - s.py i) (s.pz i)) _ _ _ _ (fun i hi hp => ?_) fun i j hi hj _ _ e => inj i j hi hj e)
  · obtain ⟨a0, a1, a2, a3⟩ := idxN_of ok (hin i hi)
    refine ⟨a0, ?_⟩
    rw [a1, a2, a3]
    exact hp
  · obtain ⟨a0, a1, a2, a3⟩ := idxN_of ok (hin i hi)
    refine ⟨a0, ?_⟩
    unfold turnC
    rw [a1, a2, a3, show s.W - 1 - (s.W - 1 - s.px i) = s.px i by omega, show s.D - 1 - (s.D - 1 - s.py i) = s.py i by omega]
    exact hp
theorem turn_valid {s : Shape} (hv : s.valid = true) : (turnS s).valid = true := by
  have ok := Shape.ok_of hv
  have hf := turn_full ok
  have hl := turn_len s
  have hv' := hv
  simp only [Shape.valid, Bool.and_eq_true, inB_iff, decide_eq_true_eq] at hv ⊢
  obtain ⟨h1, h2, h3, h4, h5, h6⟩ := hv
  refine ⟨h1, h2, h3, by rw [hl]; exact h4, ?_, by rw [hf]; exact h6⟩
  unfold plainB
  rw [List.all_eq_true]
  intro c hc
  unfold turnS at hc
  obtain ⟨i, _, rfl⟩ := List.mem_map.1 hc
  rw [decide_eq_true_eq]
  unfold turnC Shape.colorAt
  split
  · rw [List.getD_eq_getElem?_getD]
    cases hg : s.cells[(s.idx (s.W - 1 - s.px i) (s.D - 1 - s.py i) (s.pz i)).toNat]? with
    | none => show (0 : Int) ≤ 15; omega
    | some c => exact ok.plain c (List.mem_of_getElem? hg)
  · omega
theorem turn_turn {s : Shape} (hv : s.valid = true) : turnS (turnS s) = s := by
  have ok := Shape.ok_of hv
  have e : (turnS (turnS s)).cells = s.cells := by
    rw [turn_cells ok]
    show (List.range (turnS s).cells.length).map (turnC (turnS s)) = _
    rw [turn_len]
    apply List.map_congr_left
    intro i _
    show (turnS s).colorAt (s.W - 1 - s.px i) (s.D - 1 - s.py i) (s.pz i) = _
    rw [turn_color ok, show s.W - 1 - (s.W - 1 - s.px i) = s.px i by omega, show s.D - 1 - (s.D - 1 - s.py i) = s.py i by omega]
  obtain ⟨W, D, H, cells⟩ := s
  show (⟨W, D, H, (turnS (turnS ⟨W, D, H, cells⟩)).cells⟩ : Shape) = ⟨W, D, H, cells⟩
  rw [e]

/-! ### a turned plate -/
def turnL (s : Shape) (l : List Plate) (a : Laid) : Laid := ⟨a.plate, s.W - a.x - sizeW l a, s.D - a.y - sizeD l a, a.z, a.turned⟩
theorem turnL_turnL (s : Shape) (l : List Plate) (a : Laid) : turnL s l (turnL s l a) = a := by
  have e1 : sizeW l (turnL s l a) = sizeW l a := rfl
  have e2 : sizeD l (turnL s l a) = sizeD l a := rfl
  have h : turnL s l (turnL s l a) = ⟨a.plate, s.W - (s.W - a.x - sizeW l a) - sizeW l a, s.D - (s.D - a.y - sizeD l a) - sizeD l a, a.z, a.turned⟩ := rfl
  rw [h, show s.W - (s.W - a.x - sizeW l a) - sizeW l a = a.x by omega, show s.D - (s.D - a.y - sizeD l a) - sizeD l a = a.y by omega]
theorem turn_has (s : Shape) (l : List Plate) (a : Laid) (x y z : Int) : hasB l (turnL s l a) x y z = hasB l a (s.W - 1 - x) (s.D - 1 - y) z := by
  rw [Bool.eq_iff_iff, hasB_iff, hasB_iff]
  show z = a.z ∧ (s.W - a.x - sizeW l a ≤ x ∧ x ≤ s.W - a.x - sizeW l a + sizeW l a - 1) ∧ s.D - a.y - sizeD l a ≤ y ∧ y ≤ s.D - a.y - sizeD l a + sizeD l a - 1 ↔ _
  omega
theorem size_pos {l : List Plate} (okl : platesB l = true) {a : Laid} (h : 0 ≤ a.plate ∧ a.plate < l.length) : 1 ≤ sizeW l a ∧ 1 ≤ sizeD l a := by
  have hget : l[a.plate.toNat]? = some (plateAt l a.plate.toNat) := by
    have hlt : a.plate.toNat < l.length := by omega
    have := List.getElem?_eq_getElem hlt
    rw [this, plateAt_eq this]
  have okp := plate_ok okl hget
  have h1 := okp.w
  have h2 := okp.d
  unfold sizeW sizeD
  constructor <;> split <;> omega
/-- A plate lies well: by its cells alone. -/
def liesP (s : Shape) (l : List Plate) (a : Laid) : Prop := (0 ≤ a.plate ∧ a.plate < l.length) ∧ ¬ (a.turned = true ∧ (plateAt l a.plate.toNat).W = (plateAt l a.plate.toNat).D) ∧
  ∃ color, color ≠ 0 ∧ (∀ x y z, hasB l a x y z = true → s.colorAt x y z = color) ∧ ((plateAt l a.plate.toNat).color = 0 ∨ (plateAt l a.plate.toNat).color = color)
theorem has_self {l : List Plate} (okl : platesB l = true) {a : Laid} (h : 0 ≤ a.plate ∧ a.plate < l.length) : hasB l a a.x a.y a.z = true := by
  have := size_pos okl h
  rw [hasB_iff]
  omega
theorem lies_P {s : Shape} {l : List Plate} (okl : platesB l = true) {a : Laid} : liesB s l a = true ↔ liesP s l a := by
  rw [lies_iff, sameAll_iff]
  constructor
  · rintro ⟨h1, _, h3, h4, h5, h6⟩
    refine ⟨h1, h3, _, h5, fun x y z hh => ?_, h6⟩
    rw [hasB_iff] at hh
    obtain ⟨rfl, hx, hy⟩ := hh
    have := h4 (y - a.y).toNat (by omega) (x - a.x).toNat (by omega)
    rw [show a.x + ((x - a.x).toNat : Int) = x by omega, show a.y + ((y - a.y).toNat : Int) = y by omega] at this
    exact this
  · rintro ⟨h1, h3, color, h5, h4, h6⟩
    have hc := h4 _ _ _ (has_self okl h1)
    refine ⟨h1, inside_color (by rw [hc]; exact h5), h3, fun i hi j hj => ?_, by rw [hc]; exact h5, by rw [hc]; exact h6⟩
    rw [hc]
    apply h4
    rw [hasB_iff]
    omega

/-! ### compositions, by their members alone -/
structure CompP (s : Shape) (l : List Plate) (c : List Laid) : Prop where
  lies : ∀ a ∈ c, liesP s l a
  order : c.Pairwise fun a b => idxL s a < idxL s b
  used : ∀ p : Int, 0 ≤ p → p < l.length → (c.countP (fun x => decide (x.plate = p)) : Int) ≤ (plateAt l p.toNat).N
  cover : ∀ x y z, s.colorAt x y z ≠ 0 → ∃ a ∈ c, hasB l a x y z = true ∧ ∀ b ∈ c, hasB l b x y z = true → b = a
theorem laid_mem {c : List Laid} {i : Nat} (h : i < c.length) : laidAt c i ∈ c ∧ c[i]? = some (laidAt c i) := by
  have e := List.getElem?_eq_getElem h
  rw [laidAt_eq e]
  exact ⟨List.getElem_mem h, e⟩
theorem mem_laid {c : List Laid} {a : Laid} (h : a ∈ c) : ∃ i, i < c.length ∧ laidAt c i = a := by
  obtain ⟨i, hi⟩ := List.getElem?_of_mem h
  exact ⟨i, (List.getElem?_eq_some_iff.1 hi).1, laidAt_eq hi⟩
theorem CompP.lt {s : Shape} {l : List Plate} {c : List Laid} (h : CompP s l c) {i j : Nat} (hij : i < j) (hj : j < c.length) : idxL s (laidAt c i) < idxL s (laidAt c j) := by
  have := List.pairwise_iff_getElem.1 h.order i j (by omega) hj hij
  rw [laidAt_eq (List.getElem?_eq_getElem hj), laidAt_eq (List.getElem?_eq_getElem (show i < c.length by omega))]
  exact this
theorem CompP.inj {s : Shape} {l : List Plate} {c : List Laid} (h : CompP s l c) {i j : Nat} (hi : i < c.length) (hj : j < c.length) (e : laidAt c i = laidAt c j) : i = j := by
  rcases Nat.lt_trichotomy i j with h' | h' | h'
  · have := h.lt h' hj
    rw [e] at this
    omega
  · exact h'
  · have := h.lt h' hi
    rw [e] at this
    omega
theorem comp_P {s : Shape} {l : List Plate} {c : List Laid} (ok : s.Ok) (okl : platesB l = true) : compB s l c = true ↔ CompP s l c := by
  constructor
  · intro h
    have hcb := h
    rw [← set_comp ok] at h
    unfold setB at h
    split at h
    · cases h
    · rename_i st hst
      obtain ⟨out, all⟩ := st
      have hall : all = 2 ^ fullN s.cells - 1 := by simpa using h
      have his := setRun_is hst
      unfold compB at hcb
      rw [Bool.and_eq_true, List.all_eq_true] at hcb
      have step : ∀ j, j + 1 < c.length → idxL s (laidAt c j) < idxL s (laidAt c (j + 1)) := fun j hj => by
        have := hcb.1 (j + 1) (List.mem_range.2 hj)
        unfold compAt at this
        simp only [Bool.and_eq_true, Bool.or_eq_true, decide_eq_true_eq, Nat.add_sub_cancel] at this
        rcases this.2.1 with h | h
        · omega
        · exact h
      have lt : ∀ i j, i < j → j < c.length → idxL s (laidAt c i) < idxL s (laidAt c j) := by
        intro i j
        induction j with
        | zero => intro h; omega
        | succ j ih =>
          intro hij hj
          have h1 := step j hj
          rcases Nat.lt_or_ge i j with h' | h'
          · have := ih h' (by omega)
            omega
          · obtain rfl : i = j := by omega
            exact h1
      refine ⟨fun a ha => ?_, ?_, fun p hp hp2 => ?_, fun x y z hn => ?_⟩
      · obtain ⟨i, hi, rfl⟩ := mem_laid ha
        exact (lies_P okl).1 (his.lies hi)
      · rw [List.pairwise_iff_getElem]
        intro i j hi hj hij
        have := lt i j hij hj
        rw [laidAt_eq (List.getElem?_eq_getElem hj), laidAt_eq (List.getElem?_eq_getElem hi)] at this
        exact this
      · have := usedN_le_N okl his (i := p.toNat) (by omega)
        unfold usedN at this
        rw [List.take_length, Int.toNat_of_nonneg hp] at this
        exact this
      · obtain ⟨i, hi, h1, h2⟩ := his.covers ok hall ((Shape.num_iff x y z).2 hn)
        refine ⟨_, (laid_mem hi).1, h1, fun b hb hh => ?_⟩
        obtain ⟨j, hj, rfl⟩ := mem_laid hb
        rw [h2 j hj hh]
  · intro h
    unfold compB
    rw [Bool.and_eq_true, List.all_eq_true, List.all_eq_true]
    constructor
    · intro i hi
      rw [List.mem_range] at hi
      have hl := h.lies _ (laid_mem hi).1
      unfold compAt
      simp only [Bool.and_eq_true, Bool.or_eq_true, decide_eq_true_eq]
      refine ⟨(lies_P okl).2 hl, ?_, ?_⟩
      · rcases Nat.eq_zero_or_pos i with h0 | h0
        · exact Or.inl h0
        · exact Or.inr (h.lt (by omega) hi)
      · have h1 := h.used _ hl.1.1 hl.1.2
        have h2 : usedN c (i + 1) (laidAt c i).plate ≤ c.countP (fun x => decide (x.plate = (laidAt c i).plate)) := by
          unfold usedN
          exact (List.take_sublist _ _).countP_le
        omega
    · intro i hi
      rw [List.mem_range] at hi
      unfold coveredAt
      simp only [Bool.or_eq_true, decide_eq_true_eq]
      by_cases h0 : s.cells.getD i 0 = 0
      · exact Or.inl h0
      · right
        rw [← color_cell ok hi] at h0
        obtain ⟨a, ha, h1, h2⟩ := h.cover _ _ _ h0
        obtain ⟨k, hk, rfl⟩ := mem_laid ha
        rw [byI_iff]
        exact ⟨k, hk, h1, fun j hj hh => h.inj hj hk (h2 _ (laid_mem hj).1 hh)⟩

/-! ### a turned composition -/
def leL (s : Shape) (a b : Laid) : Bool := decide (idxL s a ≤ idxL s b)
def turnK (s : Shape) (l : List Plate) (c : List Laid) : List Laid := (c.map (turnL s l)).mergeSort (leL s)
theorem turnK_perm (s : Shape) (l : List Plate) (c : List Laid) : (turnK s l c).Perm (c.map (turnL s l)) := List.mergeSort_perm _ _
theorem turnK_len (s : Shape) (l : List Plate) (c : List Laid) : (turnK s l c).length = c.length := by
  rw [(turnK_perm s l c).length_eq, List.length_map]
theorem turnK_mem {s : Shape} {l : List Plate} {c : List Laid} {a : Laid} : a ∈ turnK s l c ↔ turnL s l a ∈ c := by
  rw [(turnK_perm s l c).mem_iff, List.mem_map]
  constructor
  · rintro ⟨b, hb, rfl⟩
    rw [turnL_turnL]
    exact hb
  · intro h
    exact ⟨_, h, turnL_turnL _ _ _⟩
theorem CompP.nodup {s : Shape} {l : List Plate} {c : List Laid} (h : CompP s l c) : c.Nodup := h.order.imp fun {a b} hab e => by
  rw [e] at hab
  omega
theorem turn_lies {s : Shape} {l : List Plate} (ok : s.Ok) {a : Laid} (h : liesP s l a) : liesP (turnS s) l (turnL s l a) := by
  obtain ⟨h1, h2, color, h3, h4, h5⟩ := h
  refine ⟨h1, h2, color, h3, fun x y z hh => ?_, h5⟩
  rw [turn_has] at hh
  rw [turn_color ok]
  exact h4 _ _ _ hh
theorem CompP.turn {s : Shape} {l : List Plate} {c : List Laid} (ok : s.Ok) (okl : platesB l = true) (h : CompP s l c) : CompP (turnS s) l (turnK s l c) := by
  have hl : ∀ a ∈ turnK s l c, liesP (turnS s) l a := fun a ha => by
    have := turn_lies ok (h.lies _ (turnK_mem.1 ha))
    rw [turnL_turnL] at this
    exact this
  have hcov : ∀ x y z, (turnS s).colorAt x y z ≠ 0 → ∃ a ∈ turnK s l c, hasB l a x y z = true ∧ ∀ b ∈ turnK s l c, hasB l b x y z = true → b = a := fun x y z hn => by
    rw [turn_color ok] at hn
    obtain ⟨a, ha, h1, h2⟩ := h.cover _ _ _ hn
    refine ⟨turnL s l a, turnK_mem.2 (by rw [turnL_turnL]; exact ha), by rw [turn_has]; exact h1, fun b hb hh => ?_⟩
    have e := h2 _ (turnK_mem.1 hb) (by
      rw [turn_has, show s.W - 1 - (s.W - 1 - x) = x by omega, show s.D - 1 - (s.D - 1 - y) = y by omega]
      exact hh)
    rw [← e, turnL_turnL]
  have hnd : (turnK s l c).Nodup := by
    rw [(turnK_perm s l c).nodup_iff, List.Nodup, List.pairwise_map]
    refine h.nodup.imp fun {a b} hab e => hab ?_
    have := congrArg (turnL s l) e
    rw [turnL_turnL, turnL_turnL] at this
    exact this
  have hle : (turnK s l c).Pairwise fun a b => leL s a b = true := List.pairwise_mergeSort (fun a b c => by
    unfold leL
    simp only [decide_eq_true_eq]
    omega) (fun a b => by
    unfold leL
    simp only [Bool.or_eq_true, decide_eq_true_eq]
    omega) _
  refine ⟨hl, ?_, fun p hp hp2 => ?_, hcov⟩
  · refine List.Pairwise.imp_of_mem (fun {a b} ha hb hab => ?_) (hle.and hnd)
    obtain ⟨h1, h2⟩ := hab
    unfold leL at h1
    rw [decide_eq_true_eq] at h1
    show idxL s a < idxL s b
    rcases Int.lt_or_eq_of_le h1 with h3 | h3
    · exact h3
    · exfalso
      have la := hl a ha
      have lb := hl b hb
      have sa := has_self okl la.1
      have sb := has_self okl lb.1
      obtain ⟨ca, na, fa, _⟩ := la.2.2
      obtain ⟨cb, nb, fb, _⟩ := lb.2.2
      have ia : s.inside a.x a.y a.z = true := by
        have := inside_color (s := turnS s) (by rw [fa _ _ _ sa]; exact na)
        exact this
      have ib : s.inside b.x b.y b.z = true := by
        have := inside_color (s := turnS s) (by rw [fb _ _ _ sb]; exact nb)
        exact this
      obtain ⟨e1, e2, e3⟩ := s.idx_inj ok ia ib h3
      obtain ⟨q, _, _, hq⟩ := hcov a.x a.y a.z (by rw [fa _ _ _ sa]; exact na)
      rw [← e1, ← e2, ← e3] at sb
      exact h2 ((hq a ha sa).trans (hq b hb sb).symm)
  · rw [(turnK_perm s l c).countP_eq, List.countP_map]
    exact h.used p hp hp2
theorem turnK_inj {s : Shape} {l : List Plate} {c d : List Laid} (hc : CompP s l c) (hd : CompP s l d) (e : turnK s l c = turnK s l d) : c = d := by
  refine sorted_same (idxL s) c d hc.order hd.order fun a => ?_
  have h1 := turnK_mem (s := s) (l := l) (c := c) (a := turnL s l a)
  have h2 := turnK_mem (s := s) (l := l) (c := d) (a := turnL s l a)
  rw [turnL_turnL] at h1 h2
  rw [← h1, ← h2, e]
theorem turned_count {s : Shape} {l : List Plate} (hv : s.valid = true) (okl : platesB l = true) : (allComps s l).length ≤ (allComps (turnS s) l).length := by
  have ok := Shape.ok_of hv
  have ok' := Shape.ok_of (turn_valid hv)
  have e1 : (allComps s l).length = ((allComps s l).map fun p => turnK s l p.1).length := by rw [List.length_map]
  have e2 : (allComps (turnS s) l).length = ((allComps (turnS s) l).map Prod.fst).length := by rw [List.length_map]
  have hc : ∀ p ∈ allComps s l, CompP s l p.1 := fun p hp => (comp_P ok okl).1 ((mem_all_comp ok okl).1 ⟨p.2, hp⟩)
  rw [e1, e2]
  apply nodup_le
  · rw [List.Nodup, List.pairwise_map]
    refine List.Pairwise.imp_of_mem (fun {p q} hp hq hb e => ?_) (all_sorted s l)
    have := turnK_inj (hc p hp) (hc q hq) e
    rw [this, beforeL_irr] at hb
    cases hb
  · intro c hm
    obtain ⟨p, hp, rfl⟩ := List.mem_map.1 hm
    obtain ⟨out, ho⟩ := (mem_all_comp ok' okl).2 ((comp_P ok' okl).2 ((hc p hp).turn ok okl))
    exact List.mem_map.2 ⟨_, ho, rfl⟩

/-! ### hanging together -/
def HangP (s : Shape) (l : List Plate) (c : List Laid) : Prop := ∀ S : Laid → Prop, (∃ a ∈ c, S a) → (∀ a ∈ c, ∀ b ∈ c, S a → touchP s l a b → S b) → ∀ a ∈ c, S a
theorem touch_symm {s : Shape} {l : List Plate} {a b : Laid} (hb : liesP s l b) (h : touchP s l a b) : touchP s l b a := by
  obtain ⟨x, y, z, _, h1, h2⟩ := h
  obtain ⟨color, n, f, _⟩ := hb.2.2
  rcases h2 with h2 | h2
  · exact ⟨x, y, z + 1, inside_color (by rw [f _ _ _ h2]; exact n), h2, Or.inr (by rw [show z + 1 - 1 = z by omega]; exact h1)⟩
  · exact ⟨x, y, z - 1, inside_color (by rw [f _ _ _ h2]; exact n), h2, Or.inl (by rw [show z - 1 + 1 = z by omega]; exact h1)⟩
theorem hang_P {s : Shape} {l : List Plate} {c : List Laid} (h : CompP s l c) : hangB s l c = true ↔ HangP s l c := by
  rw [hangB_iff]
  constructor
  · rintro hC S ⟨a, ha, hSa⟩ hcl b hb
    obtain ⟨i, hi, rfl⟩ := mem_laid ha
    obtain ⟨j, hj, rfl⟩ := mem_laid hb
    by_cases h0 : S (laidAt c 0)
    · exact hC (fun i => S (laidAt c i)) h0 (fun i j hi hj hs ht => hcl _ (laid_mem hi).1 _ (laid_mem hj).1 hs (touchB_iff.1 ht)) j hj
    · exfalso
      exact hC (fun i => ¬ S (laidAt c i)) h0 (fun i j hi hj hs ht hj2 => hs (hcl _ (laid_mem hj).1 _ (laid_mem hi).1 hj2 (touch_symm (h.lies _ (laid_mem hj).1) (touchB_iff.1 ht)))) i hi hSa
  · intro hP S h0 hcl i hi
    obtain ⟨j, hj, e, hS⟩ := hP (fun a => ∃ j, j < c.length ∧ laidAt c j = a ∧ S j) ⟨laidAt c 0, (laid_mem (by omega)).1, 0, by omega, rfl, h0⟩ (by
      rintro a _ b hb ⟨j, hj, rfl, hS⟩ ht
      obtain ⟨k, hk, rfl⟩ := mem_laid hb
      exact ⟨k, hk, rfl, hcl j k hj hk hS (touchB_iff.2 ht)⟩) _ (laid_mem hi).1
    rw [← h.inj hj hi e]
    exact hS
theorem turn_touch {s : Shape} {l : List Plate} {a b : Laid} (h : touchP s l a b) : touchP (turnS s) l (turnL s l a) (turnL s l b) := by
  obtain ⟨x, y, z, h1, h2, h3⟩ := h
  refine ⟨s.W - 1 - x, s.D - 1 - y, z, (inside_turn s x y z).trans h1, ?_, ?_⟩ <;> rw [turn_has, show s.W - 1 - (s.W - 1 - x) = x by omega, show s.D - 1 - (s.D - 1 - y) = y by omega]
  · exact h2
  · rw [turn_has, show s.W - 1 - (s.W - 1 - x) = x by omega, show s.D - 1 - (s.D - 1 - y) = y by omega]
    exact h3
theorem turn_hang {s : Shape} {l : List Plate} {c : List Laid} (h : HangP s l c) : HangP (turnS s) l (turnK s l c) := by
  rintro S ⟨a, ha, hS⟩ hcl b hb
  have := h (fun a => S (turnL s l a)) ⟨_, turnK_mem.1 ha, by rw [turnL_turnL]; exact hS⟩ (fun a ha b hb hs ht => hcl _ (turnK_mem.2 (by rw [turnL_turnL]; exact ha)) _ (turnK_mem.2 (by rw [turnL_turnL]; exact hb)) hs (turn_touch ht)) _ (turnK_mem.1 hb)
  rw [turnL_turnL] at this
  exact this

/-! ### seams -/
def SeamP (s : Shape) (l : List Plate) (c : List Laid) (x y z u v : Int) : Prop := s.colorAt x y z ≠ 0 ∧ s.colorAt u v z ≠ 0 ∧ ∀ a ∈ c, ¬ (hasB l a x y z = true ∧ hasB l a u v z = true)
theorem seam_P {s : Shape} {l : List Plate} {c : List Laid} (h : CompP s l c) (x y z : Int) (inX : Bool) : seamB s l c x y z inX = true ↔ SeamP s l c x y z (if inX then x + 1 else x) (if inX then y else y + 1) := by
  unfold seamB SeamP
  generalize (if inX then x + 1 else x) = u
  generalize (if inX then y else y + 1) = v
  simp only [Bool.and_eq_true, decide_eq_true_eq]
  have key : s.colorAt x y z ≠ 0 → s.colorAt u v z ≠ 0 → (byI l c x y z ≠ byI l c u v z ↔ ∀ a ∈ c, ¬ (hasB l a x y z = true ∧ hasB l a u v z = true)) := fun h1 h2 => by
    obtain ⟨a, ha, a1, a2⟩ := h.cover _ _ _ h1
    obtain ⟨b, hb, b1, b2⟩ := h.cover _ _ _ h2
    obtain ⟨i, hi, rfl⟩ := mem_laid ha
    obtain ⟨j, hj, rfl⟩ := mem_laid hb
    have e1 := byI_eq hi a1 fun k hk hh => h.inj hk hi (a2 _ (laid_mem hk).1 hh)
    have e2 := byI_eq hj b1 fun k hk hh => h.inj hk hj (b2 _ (laid_mem hk).1 hh)
    rw [e1, e2]
    constructor
    · rintro hne d hd ⟨d1, d2⟩
      have q1 := a2 d hd d1
      have q2 := b2 d hd d2
      have := h.inj hi hj (q1.symm.trans q2)
      omega
    · intro hno e
      have e : i = j := by omega
      subst e
      exact hno _ ha ⟨a1, b1⟩
  constructor
  · rintro ⟨h1, h2, h3⟩
    exact ⟨h1, h2, (key h1 h2).1 h3⟩
  · rintro ⟨h1, h2, h3⟩
    exact ⟨h1, h2, (key h1 h2).2 h3⟩
theorem turn_seam {s : Shape} {l : List Plate} {c : List Laid} (ok : s.Ok) {x y z u v : Int} (h : SeamP (turnS s) l (turnK s l c) x y z u v) : SeamP s l c (s.W - 1 - u) (s.D - 1 - v) z (s.W - 1 - x) (s.D - 1 - y) := by
  obtain ⟨h1, h2, h3⟩ := h
  rw [turn_color ok] at h1 h2
  refine ⟨h2, h1, fun a ha hh => h3 (turnL s l a) (turnK_mem.2 (by rw [turnL_turnL]; exact ha)) ?_⟩
  rw [turn_has, turn_has]
  exact ⟨hh.2, hh.1⟩
def weakX (s : Shape) (l : List Plate) (c : List Laid) (inX : Bool) (i : Nat) : Bool := seamB s l c (s.px i) (s.py i) (s.pz i) inX && seamB s l c (s.px i) (s.py i) (s.pz i + 1) inX
theorem weakTo_count (s : Shape) (l : List Plate) (c : List Laid) : ∀ k, weakTo s l c k = (List.range k).countP (weakX s l c true) + (List.range k).countP (weakX s l c false)
  | 0 => rfl
  | k + 1 => by
    unfold weakTo
    rw [weakTo_count s l c k, List.range_succ, List.countP_append, List.countP_append, List.countP_singleton, List.countP_singleton]
    unfold weakAt weakX
    simp only [Bool.and_eq_true]
    omega
theorem turn_weak {s : Shape} {l : List Plate} {c : List Laid} (ok : s.Ok) (okl : platesB l = true) (h : CompP s l c) : weakTo (turnS s) l (turnK s l c) (turnS s).cells.length ≤ weakTo s l c s.cells.length := by
  have h' := h.turn ok okl
  have side : ∀ inX, (List.range (turnS s).cells.length).countP (weakX (turnS s) l (turnK s l c) inX) ≤ (List.range s.cells.length).countP (weakX s l c inX) := fun inX => by
    rw [turn_len]
    have hp : ∀ i, weakX (turnS s) l (turnK s l c) inX i = true → ∀ z, (z = s.pz i ∨ z = s.pz i + 1) → SeamP s l c (s.W - 1 - (if inX then s.px i + 1 else s.px i)) (s.D - 1 - (if inX then s.py i else s.py i + 1)) z (s.W - 1 - s.px i) (s.D - 1 - s.py i) := fun i hw z hz => by
      unfold weakX at hw
      rw [Bool.and_eq_true, seam_P h', seam_P h'] at hw
      rcases hz with rfl | rfl
      · exact turn_seam ok hw.1
      · exact turn_seam ok hw.2
    refine count_le (fun i => idxN s (s.W - 1 - (if inX then s.px i + 1 else s.px i)) (s.D - 1 - (if inX then s.py i else s.py i + 1)) (s.pz i)) _ _ _ _ (fun i hi hw => ?_) fun i j hi hj hwi hwj e => ?_
    · have s1 := hp i hw _ (Or.inl rfl)
      have s2 := hp i hw _ (Or.inr rfl)
      obtain ⟨a0, a1, a2, a3⟩ := idxN_of ok (inside_color s1.1)
      refine ⟨a0, ?_⟩
      unfold weakX
      rw [a1, a2, a3, Bool.and_eq_true, seam_P h, seam_P h]
      cases inX
      · simp only [Bool.false_eq_true, if_false] at s1 s2 ⊢
        rw [show s.D - 1 - (s.py i + 1) + 1 = s.D - 1 - s.py i by omega]
        exact ⟨s1, s2⟩
      · simp only [if_true] at s1 s2 ⊢
        rw [show s.W - 1 - (s.px i + 1) + 1 = s.W - 1 - s.px i by omega]
        exact ⟨s1, s2⟩
    · obtain ⟨_, a1, a2, a3⟩ := idxN_of ok (inside_color (hp i hwi _ (Or.inl rfl)).1)
      obtain ⟨_, b1, b2, b3⟩ := idxN_of ok (inside_color (hp j hwj _ (Or.inl rfl)).1)
      rw [e] at a1 a2 a3
      cases inX
      · simp only [Bool.false_eq_true, if_false] at a1 a2 b1 b2
        exact place_inj ok hi hj (by omega) (by omega) (by omega)
      · simp only [if_true] at a1 a2 b1 b2
        exact place_inj ok hi hj (by omega) (by omega) (by omega)
  rw [weakTo_count, weakTo_count]
  have := side true
  have := side false
  omega

/-! ### the law -/
theorem turned_hang {s : Shape} {l : List Plate} {c : List Laid} (h : hangR s l c = true) : hangR (turnS s) l (turnK s l c) = true ∧ weakR (turnS s) l (turnK s l c) ≤ weakR s l c := by
  have he := hang_comp h
  obtain ⟨hv, okl, hc⟩ := comp_all he
  have ok := Shape.ok_of hv
  have hv' := turn_valid hv
  have ok' := Shape.ok_of hv'
  have hP := (comp_P ok okl).1 hc
  have hP' := hP.turn ok okl
  have he' : compErr (turnS s) l (turnK s l c) = 0 := by
    unfold compErr
    rw [if_pos hv', if_pos okl, if_pos ((comp_P ok' okl).2 hP')]
  unfold hangR at h ⊢
  unfold weakR
  rw [if_pos he] at h
  rw [if_pos he, if_pos he', if_pos he']
  exact ⟨(hang_P hP').2 (turn_hang ((hang_P hP).1 h)), turn_weak ok okl hP⟩
theorem turned_ask {s : Shape} (hv : s.valid = true) (l : List Plate) : askErr (turnS s) l = askErr s l := by
  unfold askErr
  rw [if_pos hv, if_pos (turn_valid hv)]
theorem turned_large {s : Shape} (hv : s.valid = true) : largeB (turnS s) = largeB s := by
  unfold largeB
  rw [turn_len, turn_full (Shape.ok_of hv), hv, turn_valid hv]
theorem turned_countI {s : Shape} (hv : s.valid = true) (hn : largeB s = false) (l : List Plate) : countI (turnS s) l = countI s l := by
  have ha := turned_ask hv l
  by_cases h0 : askErr s l = 0
  · have okl := (ask_ok h0).2
    have h1 := turned_count hv okl
    have h2 := turned_count (turn_valid hv) okl
    rw [turn_turn hv] at h2
    rw [(count_is h0 hn).1, (count_is (ha.trans h0) ((turned_large hv).trans hn)).1]
    omega
  · unfold countI
    rw [ha, if_neg h0, if_neg h0]
theorem compose_empty {s : Shape} {l : List Plate} (h : composeE s l ≠ 0) : composeL s l = [] := by
  unfold composeE at h
  unfold composeL
  split
  · rename_i ha
    rw [if_pos ha] at h
    split
    · rfl
    · rename_i b hb
      rw [hb] at h
      exact absurd rfl h
  · rfl
/-- If one has a composition that hangs together, the other has one, and not a worse one. -/
theorem turned_best {s : Shape} {l : List Plate} (_hv : s.valid = true) (h : composeE s l = 0) : composeE (turnS s) l = 0 ∧ (composeL (turnS s) l).length ≤ (composeL s l).length ∧
    ((composeL (turnS s) l).length = (composeL s l).length → weakR (turnS s) l (composeL (turnS s) l) ≤ weakR s l (composeL s l)) := by
  obtain ⟨h1, h2, _⟩ := compose_best h
  obtain ⟨t1, t2⟩ := turned_hang h2
  have he : composeE (turnS s) l = 0 := by
    apply Classical.byContradiction
    intro hn
    by_cases h6 : composeE (turnS s) l = 6
    · rw [(compose_six h6).2] at t1
      cases t1
    · have := compose_bad hn h6 (turnK s l (composeL s l))
      rw [hang_comp t1] at this
      exact hn this.symm
  obtain ⟨_, _, b3⟩ := compose_best he
  obtain ⟨k1, k2⟩ := b3 _ t1
  rw [turnK_len] at k1 k2
  exact ⟨he, k1, fun e => Nat.le_trans (k2 e).1 t2⟩
theorem turned_law {s : Shape} (hv : s.valid = true) (l : List Plate) : composeE (turnS s) l = composeE s l ∧ (composeL (turnS s) l).length = (composeL s l).length ∧
    (composeE s l = 0 → compErr s l (composeL s l) = 0 ∧ compErr (turnS s) l (composeL (turnS s) l) = 0 ∧ weakR (turnS s) l (composeL (turnS s) l) = weakR s l (composeL s l)) := by
  have hv' := turn_valid hv
  by_cases h0 : composeE s l = 0
  · obtain ⟨a1, a2, a3⟩ := turned_best hv h0
    obtain ⟨b1, b2, b3⟩ := turned_best hv' a1
    rw [turn_turn hv] at b2 b3
    have e : (composeL (turnS s) l).length = (composeL s l).length := by omega
    refine ⟨a1.trans h0.symm, e, fun _ => ⟨(compose_best h0).1, (compose_best a1).1, ?_⟩⟩
    exact Nat.le_antisymm (a3 e) (b3 e.symm)
  · have h0' : composeE (turnS s) l ≠ 0 := fun h => by
      have := (turned_best hv' h).1
      rw [turn_turn hv] at this
      exact h0 this
    refine ⟨?_, by rw [compose_empty h0, compose_empty h0'], fun h => absurd h h0⟩
    have ha := turned_ask hv l
    unfold composeE at h0 h0' ⊢
    rw [ha] at h0' ⊢
    split
    · rename_i h1
      rw [if_pos h1] at h0 h0'
      cases hb : bestB s l with
      | some b =>
        rw [hb] at h0
        exact absurd rfl h0
      | none =>
        cases hb' : bestB (turnS s) l with
        | some b =>
          rw [hb'] at h0'
          exact absurd rfl h0'
        | none => rfl
    · rfl
end Go.Proofs.YtpikemglnnjemaaDoor

namespace Go.Proofs.YtpikemglnnjemaaDoor
open Go.RowKit

theorem infoByte : (Tryd.prog.info? 5).map (fun i => (i.zero, i.size, i.bytes)) = some (some (.int .u8 0), 1, 1) := by kernel_rfl
def turnVs (s : Shape) (k : Nat) : List Value := (List.range k).map fun i => .int .u8 (turnC s i)
theorem turnVs_succ (s : Shape) (k : Nat) : turnVs s (k + 1) = turnVs s k ++ [.int .u8 (s.colorAt (s.W - 1 - (k : Int) % s.W) (s.D - 1 - (k : Int) / s.W % s.D) ((k : Int) / s.W / s.D))] := by
  unfold turnVs
  rw [List.range_succ, List.map_append]
  rfl
set_option maxRecDepth 100000 in
set_option maxHeartbeats 4000000 in
theorem turned_row (s : Shape) (A : Option Addr) (cap : Nat) (ok : s.Ok) (w : World) (hs : Bytes w A cap s.cells) :
    Calls Tryd.prog 27 #[.agg #[.int .i64 s.W, .int .i64 s.D, .int .i64 s.H, .slice A s.cells.length cap]] w fun e w' =>
      ∃ g cap', e = .returned (.agg #[.int .i64 s.W, .int .i64 s.D, .int .i64 s.H, .slice (some ⟨g, 0, none⟩) s.cells.length cap']) ∧ w'.ownsRow w.heap.size 5 1 (.slice (some ⟨g, 0, none⟩) s.cells.length cap') s.cells.length (turnVs s s.cells.length) ∧ Ext w w' := by
  have hl256 := s.len_le ok
  have hlp := ok.len
  obtain ⟨w1, w2⟩ := ok.w
  obtain ⟨d1, d2⟩ := ok.d
  obtain ⟨h1, h2⟩ := ok.h
  have hpos : 0 < s.cells.length := by
    have := ok.full
    have := fullN_le s.cells
    omega
  clear hlp
  obtain ⟨W1, hW1, E1, B1, hz1⟩ := box_ w #[.int .i64 s.W, .int .i64 s.D, .int .i64 s.H, .slice A s.cells.length cap] 24
  obtain ⟨W2, hW2, E2, B2, hz2⟩ := box_ W1 #[.int .i64 0, .int .i64 0, .int .i64 0, .slice none 0 0] 24
  rw [hz1] at B2
  have B1 := B1.ext E2
  have b1 := B1.cell
  go_enter Tryd.func27, Tryd.ntmps27
  go_upto_region 1 with (fail)
  obtain ⟨W3, hW3, E3, B3, hz3⟩ := box_ W2 #[.int .i64 s.W, .int .i64 s.D, .int .i64 s.H, .slice none 0 0] 24
  rw [hz2, hz1] at B3
  have HW3 := Lib.hid hW3
  clear hW3
  go_upto_region 2 with (fail)
  rw [HW3.out]
  clear b1 hW1 hW2 HW3 hz1 hz2 hz3
  have B1 := B1.ext E3
  have B2 := B2.ext E3
  have E13 := (E1.trans E2).trans E3
  obtain ⟨S, hS⟩ : ∃ S, w.heap.size = S := ⟨_, rfl⟩
  rw [hS] at B1 B2 B3 ⊢
  have HS := Lib.hid hS
  clear hS
  have b1 := B1.cell
  go_wp2_with fail
  clear b1
  go_loopw [18] (fun i wr => ∃ (k : Nat) (v : Value), k ≤ s.cells.length ∧ i = .int .i64 k ∧ Ext w wr ∧ Blk wr S 24 #[.int .i64 s.W, .int .i64 s.D, .int .i64 s.H, .slice A s.cells.length cap] ∧
    Blk wr (S + 1) 24 #[.int .i64 0, .int .i64 0, .int .i64 0, .slice none 0 0] ∧ Blk wr (S + 1 + 1) 24 #[.int .i64 s.W, .int .i64 s.D, .int .i64 s.H, v] ∧ wr.ownsRow (S + 3) 5 1 v k (turnVs s k)) (fun i _ => s.cells.length - (intOf i).toNat)
  case atStart => exact ⟨0, _, by omega, rfl, E13, B1, B2, B3, World.ownsRow_nil _ _ _ _⟩
  case round =>
    obtain ⟨k, v, hk, rfl, E, BS, BR, BT, own⟩ := hrel
    clear B1 B2 B3
    have hSr := BT.lt
    by_cases hlt : k < s.cells.length
    · have b3 := Int.emod_nonneg (k : Int) (show s.W ≠ 0 by omega)
      have b4 := Int.emod_lt_of_pos (k : Int) (show 0 < s.W by omega)
      have c0 : 0 ≤ (k : Int) / s.W := Int.ediv_nonneg (by omega) (by omega)
      have b5 := Int.emod_nonneg ((k : Int) / s.W) (show s.D ≠ 0 by omega)
      have b6 := Int.emod_lt_of_pos ((k : Int) / s.W) (show 0 < s.D by omega)
      have c1 : 0 ≤ (k : Int) / s.W / s.D := Int.ediv_nonneg c0 (by omega)
      have c2 : (k : Int) / s.W ≤ k := Int.ediv_le_self _ (by omega)
      have c3 : (k : Int) / s.W / s.D ≤ (k : Int) / s.W := Int.ediv_le_self _ c0
      have e1 : (k : Int).tmod s.W = (k : Int) % s.W := Int.tmod_eq_emod_of_nonneg (by omega)
      have e2 : (k : Int).tdiv s.W = (k : Int) / s.W := Int.tdiv_eq_ediv_of_nonneg (by omega)
      have e3 : ((k : Int) / s.W).tmod s.D = (k : Int) / s.W % s.D := Int.tmod_eq_emod_of_nonneg c0
      have e4 : ((k : Int) / s.W).tdiv s.D = (k : Int) / s.W / s.D := Int.tdiv_eq_ediv_of_nonneg c0
      have f1 : IntKind.i64.wrap ((k : Int) % s.W) = (k : Int) % s.W := IntWalk.i64_in _ (by omega)
      have f2 : IntKind.i64.wrap ((k : Int) / s.W) = (k : Int) / s.W := IntWalk.i64_in _ (by omega)
      have f3 : IntKind.i64.wrap ((k : Int) / s.W % s.D) = (k : Int) / s.W % s.D := IntWalk.i64_in _ (by omega)
      have f4 : IntKind.i64.wrap ((k : Int) / s.W / s.D) = (k : Int) / s.W / s.D := IntWalk.i64_in _ (by omega)
      have f5 : IntKind.i64.wrap (s.W - 1) = s.W - 1 := IntWalk.i64_in _ (by omega)
      have f6 : IntKind.i64.wrap (s.W - 1 - (k : Int) % s.W) = s.W - 1 - (k : Int) % s.W := IntWalk.i64_in _ (by omega)
      have f7 : IntKind.i64.wrap (s.D - 1) = s.D - 1 := IntWalk.i64_in _ (by omega)
      have f8 : IntKind.i64.wrap (s.D - 1 - (k : Int) / s.W % s.D) = s.D - 1 - (k : Int) / s.W % s.D := IntWalk.i64_in _ (by omega)
      have n1 : (s.W == 0) = false := by simp; omega
      have n2 : (s.D == 0) = false := by simp; omega
      have b0 := BS.cell
      go_upto_region 5 with (fail)
      refine wp_region_grow (by kernel_rfl) (by kernel_rfl) ?_
      repeat (go_big_quiet_step (fail))
      refine wpQuiet_nil ?_
      intro W5 hW5
      have E5 : Ext wr W5 := by
        obtain ⟨x, rfl⟩ := hW5
        exact (Ext.refl _).grow x
      clear hW5
      obtain ⟨hcW5, hfW5, hzW5⟩ := ext_facts E5
      clear b0
      replace E := E.trans E5
      replace BS := BS.ext E5
      replace BR := BR.ext E5
      replace BT := BT.ext E5
      replace own := own_ext own E5
      have hSr5 : S + 1 + 1 < W5.heap.size := Nat.lt_of_lt_of_le hSr E5.size
      clear hcW5 hfW5 hzW5 E5
      obtain ⟨col, hcol⟩ : ∃ col, s.colorAt (s.W - 1 - (k : Int) % s.W) (s.D - 1 - (k : Int) / s.W % s.D) ((k : Int) / s.W / s.D) = col := ⟨_, rfl⟩
      have Hcol := Lib.hid hcol
      have HAt : ∀ W, Ext W5 W → Calls Tryd.prog 45 #[.agg #[.int .i64 s.W, .int .i64 s.D, .int .i64 s.H, .slice A s.cells.length cap], .int .i64 (s.W - 1 - (k : Int) % s.W), .int .i64 (s.D - 1 - (k : Int) / s.W % s.D), .int .i64 ((k : Int) / s.W / s.D)] W fun e w' => e = .returned (.int .u8 col) ∧ Ext W w' := fun W EW => by
        have := rAt_c s A cap (s.W - 1 - (k : Int) % s.W) (s.D - 1 - (k : Int) / s.W % s.D) ((k : Int) / s.W / s.D) ok W (hs.ext (E.trans EW))
        rw [hcol] at this
        exact this
      clear hcol
      have BS' := BS.drew
      have BR' := BR.drew
      have BT' := BT.drew
      have own' : W5.drew.ownsRow _ _ _ _ _ _ := own.drew
      have b0 := BS'.cell
      have t3 := BT'.cell 3
      obtain ⟨i0, hi, hz0, hz1, hz2⟩ := info_parts infoByte
      have hml : k + 1 ≤ maxLen := by unfold maxLen; omega
      go_upto_region 6 with (fail)
      go_region_law (first
          | (go_simp; go_at_call 45; refine (HAt _ ((Ext.refl W5).drew)).mono ?_; rintro e w3 ⟨rfl, E3⟩; have t3' := E3.cell t3; have own3 := own_ext own' E3; have hsz3 : S + 3 ≤ w3.heap.size := Nat.le_trans hSr5 E3.size; have hlt3 : S + 1 + 1 < w3.heap.size := hsz3; have BT3 := BT'.ext E3; have BS3 := BS'.ext E3; have BR3 := BR'.ext E3)
          | (refine step_append_one #[.int .u8 col] rfl (.tmp 40) (.tmp 54) 22 rfl (S + 3) 5 5 i0 (.int .u8 0) 1 1 Tryd.underlying22 hi hz0 hz1 hz2 rfl (by decide) v k _ _ rfl own3 rfl rfl (by simp [Value.oneCell']) hml (by omega) hsz3 ?_; intro g4 cap4 w4 own4 hg4; have BT4 := (BT3.alloc _).grown hg4 (own_ne own3 (by omega)); have t4 := BT4.cell 3; have ft4 := BT4.frozen 3; have BR4 := (BR3.alloc (.cells #[.int .u8 col] 5)).grown hg4 (own_ne own3 (by omega)); have BS4 := (BS3.alloc (.cells #[.int .u8 col] 5)).grown hg4 (own_ne own3 (by omega)); have E4 := ((E.drew.trans E3).alloc (.cells #[.int .u8 col] 5)).grown hg4 (fun q hq => by have := (own3.lt q hq).1; have := HS.out; omega)))
      all_goals
        go_wp2
        go_roundw
        case rel =>
          exact ⟨k + 1, .slice (some ⟨g4, 0, none⟩) (k + 1) cap4, by omega, by go_num, E4.setCell (by have := HS.out; show w.heap.size ≤ S + 1 + 1; omega) _, BS4.far (show S ≠ S + 1 + 1 by omega) _, BR4.far (show S + 1 ≠ S + 1 + 1 by omega) _, BT4.set_ 3 _, by
            rw [turnVs_succ, Hcol.out]
            exact own_setCell own4 (Nat.lt_succ_self _) _⟩
        case measure => simp only [intOf]; omega
    · obtain rfl : s.cells.length = k := by omega
      obtain ⟨g, cap', rfl⟩ := own_form own hpos
      have t0 := BT.cell
      have fr := BR.frozen
      have br := BR.cell
      go_wp2_with fail
      have x0 := BR.set_ 0 (.int .i64 s.W)
      have x1 := x0.set_ 1 (.int .i64 s.D)
      have x2 := x1.set_ 2 (.int .i64 s.H)
      have x3 := x2.set_ 3 (.slice (some ⟨g, 0, none⟩) s.cells.length cap')
      have y0 := x0.cell 0
      have y1 := x1.cell 1
      have y2 := x2.cell 2
      have y3 := x3.cell 3
      simp only [Array.setIfInBounds, List.size_toArray, List.length_cons, List.length_nil, Nat.reduceAdd, Nat.reduceLT, ↓reduceDIte, List.getElem?_toArray] at y0 y1 y2 y3
      refine bodyPost_ret (v := .agg #[.int .i64 s.W, .int .i64 s.D, .int .i64 s.H, .slice (some ⟨g, 0, none⟩) s.cells.length cap']) ?_ rfl ?_
      · simp [results, Tryd.results27, go_sem, y0, y1, y2, y3]
      · have q : w.heap.size ≤ S + 1 := by have := HS.out; omega
        exact ⟨g, cap', rfl, own_base (own_setCell (own_setCell (own_setCell (own_setCell own (by show S + 1 < _; omega) _) (by show S + 1 < _; omega) _) (by show S + 1 < _; omega) _) (by show S + 1 < _; omega) _) (by omega),
          (((E.setCell q _).setCell q _).setCell q _).setCell q _⟩
theorem turned_c (s : Shape) (A : Option Addr) (cap : Nat) (hv : s.valid = true) (w : World) (hs : Bytes w A cap s.cells) :
    Calls Tryd.prog 27 #[.agg #[.int .i64 s.W, .int .i64 s.D, .int .i64 s.H, .slice A s.cells.length cap]] w fun e w' =>
      ∃ t B cap', Hid (turnS s = t) ∧ e = .returned (.agg #[.int .i64 t.W, .int .i64 t.D, .int .i64 t.H, .slice B t.cells.length cap']) ∧ Bytes w' B cap' t.cells ∧ Ext w w' := by
  refine (turned_row s A cap (Shape.ok_of hv) w hs).mono ?_
  rintro e w' ⟨g, cap', rfl, own, E⟩
  have ok := Shape.ok_of hv
  have hpos : 0 < s.cells.length := by
    have := ok.full
    have := fullN_le s.cells
    omega
  refine ⟨turnS s, some ⟨g, 0, none⟩, cap', Lib.hid rfl, by rw [turn_len]; rfl, ⟨?_, fun c hc => ?_⟩, E⟩
  · rw [turn_len]
    have e : (turnS s).cells.map (fun c => [Value.int .u8 c]) = (List.range s.cells.length).map fun i => [Value.int .u8 (turnC s i)] := by
      unfold turnS
      rw [List.map_map]
      rfl
    have e2 : turnVs s s.cells.length = ((List.range s.cells.length).map fun i => [Value.int .u8 (turnC s i)]).flatten := by
      unfold turnVs
      induction List.range s.cells.length with
      | nil => rfl
      | cons x xs ih => rw [List.map_cons, List.map_cons, List.flatten_cons, ← ih]; rfl
    rw [e]
    rw [e2] at own
    exact own_slice (by decide) (fun r hr => by obtain ⟨i, _, rfl⟩ := List.mem_map.1 hr; rfl) (by simp) hpos own
  · unfold turnS at hc
    obtain ⟨i, _, rfl⟩ := List.mem_map.1 hc
    unfold turnC Shape.colorAt
    split
    · rw [List.getD_eq_getElem?_getD]
      cases hg : s.cells[(s.idx (s.W - 1 - s.px i) (s.D - 1 - s.py i) (s.pz i)).toNat]? with
      | none => exact ⟨by show (0 : Int) ≤ 0; omega, by show (0 : Int) ≤ 255; omega⟩
      | some c => exact hs.2 c (List.mem_of_getElem? hg)
    · exact ⟨by omega, by omega⟩
end Go.Proofs.YtpikemglnnjemaaDoor

namespace Go.Proofs.YtpikemglnnjemaaDoor
open Go.RowKit

set_option maxRecDepth 100000 in
set_option maxHeartbeats 8000000 in
theorem turned_walk (s : Shape) (A : Option Addr) (cap : Nat) (l : List Plate) (PA : Option Addr) (pcap : Nat) (w : World) (hs : Bytes w A cap s.cells) (hl : Plates w PA pcap l) (hT : TzTab w) :
    Calls Tryd.prog 4 #[.agg #[.int .i64 s.W, .int .i64 s.D, .int .i64 s.H, .slice A s.cells.length cap], .slice PA l.length pcap] w fun e w' => e = .returned (.bool true) ∧ Ext w w' := by
  have hn2 := hl.len
  unfold maxLen at hn2
  obtain ⟨W1, hW1, E1, B1, hz1⟩ := box_ w #[.int .i64 s.W, .int .i64 s.D, .int .i64 s.H, .slice A s.cells.length cap] 24
  go_enter Tryd.func4, Tryd.ntmps4
  go_wp2_with fail
  refine (alive_c _ (hT.ext E1)).mono ?_
  rintro e W2 ⟨rfl, E2⟩
  have E := E1.trans E2
  have B := B1.ext E2
  clear E1 E2 B1 hz1 hW1
  have b1 := B.cell
  go_wp2_with fail
  refine (large_c s A cap _ (hs.ext E)).mono ?_
  rintro e W3 ⟨rfl, E3⟩
  replace E := E.trans E3
  replace B := B.ext E3
  clear b1 E3
  have b1 := B.cell
  obtain ⟨lb, hlb⟩ : ∃ lb, largeB s = lb := ⟨_, rfl⟩
  rw [hlb]
  have Hlb := Lib.hid hlb
  clear hlb
  cases lb
  · go_wp2_with fail
    refine (validShape_c A cap s.W s.D s.H s.cells _ (hs.ext E)).mono ?_
    rintro e W4 ⟨rfl, E4⟩
    replace E := E.trans E4
    replace B := B.ext E4
    clear b1 E4
    have b1 := B.cell
    obtain ⟨vv, hvv⟩ : ∃ vv, s.valid = vv := ⟨_, rfl⟩
    rw [show Shape.valid ⟨s.W, s.D, s.H, s.cells⟩ = vv from hvv]
    have Hv := Lib.hid hvv
    clear hvv
    cases vv
    · go_wp2_with fail
      go_ret
      exact ⟨rfl, E⟩
    · by_cases hll : 20 < l.length
      · go_wp2_with fail
        go_ret
        exact ⟨rfl, E⟩
      · go_wp2_with fail
        refine (turned_c s A cap Hv.out _ (hs.ext E)).mono ?_
        rintro e W5 ⟨t, TB, tcap, Ht, rfl, ht, E5⟩
        have hcount : countI t l = countI s l := by
          rw [← Ht.out]
          exact turned_countI Hv.out Hlb.out l
        have hask : askErr t l = askErr s l := by
          rw [← Ht.out]
          exact turned_ask Hv.out l
        obtain ⟨q1, q2, q3⟩ := turned_law Hv.out l
        rw [Ht.out] at q1 q2 q3
        obtain ⟨W6, hW6, E6, B6, hz6⟩ := box_ W5 #[.int .i64 t.W, .int .i64 t.D, .int .i64 t.H, .slice TB t.cells.length tcap] 24
        replace E := (E.trans E5).trans E6
        replace B := (B.ext E5).ext E6
        replace ht := ht.ext E6
        clear E5 E6 b1
        have b1 := B.cell
        obtain ⟨e1, he1⟩ : ∃ e1, askErr s l = e1 := ⟨_, rfl⟩
        obtain ⟨k1, hk1⟩ : ∃ k1, countI s l = k1 := ⟨_, rfl⟩
        obtain ⟨eE, heE⟩ : ∃ eE, composeE s l = eE := ⟨_, rfl⟩
        obtain ⟨L, hL⟩ : ∃ L, composeL s l = L := ⟨_, rfl⟩
        obtain ⟨L', hL'⟩ : ∃ L', composeL t l = L' := ⟨_, rfl⟩
        rw [hk1] at hcount
        rw [he1] at hask
        rw [heE] at q1 q3
        rw [hL] at q2 q3
        rw [hL'] at q2 q3
        have c1 : ∀ W, Ext w W → Calls Tryd.prog 28 #[.agg #[.int .i64 s.W, .int .i64 s.D, .int .i64 s.H, .slice A s.cells.length cap], .slice PA l.length pcap] W fun e w' => e = .returned (.tuple #[.int .i64 k1, .int .i64 e1]) ∧ Ext W w' := fun W EW => by
          rw [← hk1, ← he1]
          exact count_c s A cap l PA pcap W (hs.ext EW) (hl.ext EW) (hT.ext EW)
        have c2 : ∀ W, Ext w W → Ext W6 W → Calls Tryd.prog 28 #[.agg #[.int .i64 t.W, .int .i64 t.D, .int .i64 t.H, .slice TB t.cells.length tcap], .slice PA l.length pcap] W fun e w' => e = .returned (.tuple #[.int .i64 k1, .int .i64 e1]) ∧ Ext W w' := fun W EW EW6 => by
          rw [← hcount, ← hask]
          exact count_c t TB tcap l PA pcap W (ht.ext EW6) (hl.ext EW) (hT.ext EW)
        have c3 : ∀ W, Ext w W → Calls Tryd.prog 29 #[.agg #[.int .i64 s.W, .int .i64 s.D, .int .i64 s.H, .slice A s.cells.length cap], .slice PA l.length pcap] W fun e w' => ∃ CA cc, e = .returned (.tuple #[.slice CA L.length cc, .int .i64 eE]) ∧ Laids w' CA cc L ∧ L.length ≤ 100 ∧ Ext W w' := fun W EW => by
          rw [← hL, ← heE]
          exact compose_c s A cap l PA pcap W (hs.ext EW) (hl.ext EW) (hT.ext EW)
        have c4 : ∀ W, Ext w W → Ext W6 W → Calls Tryd.prog 29 #[.agg #[.int .i64 t.W, .int .i64 t.D, .int .i64 t.H, .slice TB t.cells.length tcap], .slice PA l.length pcap] W fun e w' => ∃ CA cc, e = .returned (.tuple #[.slice CA L.length cc, .int .i64 eE]) ∧ Laids w' CA cc L' ∧ Ext W w' := fun W EW EW6 => by
          refine (compose_c t TB tcap l PA pcap W (ht.ext EW6) (hl.ext EW) (hT.ext EW)).mono ?_
          rintro e w' ⟨CA, cc, rfl, h1, _, h3⟩
          rw [hL'] at h1 ⊢
          exact ⟨CA, cc, by rw [q1, q2], h1, h3⟩
        have C1 := Lib.hid c1
        have C2 := Lib.hid c2
        have C3 := Lib.hid c3
        have C4 := Lib.hid c4
        have Q2 := Lib.hid q2
        have Q3 := Lib.hid q3
        clear c1 c2 c3 c4 q1 q2 q3 hk1 he1 heE hL hL' hcount hask
        go_wp2_with fail
        have b6 := B6.cell
        clear hW6 hz6
        refine (C1.out _ E).mono ?_
        rintro e W7 ⟨rfl, E7⟩
        have E67 := E7
        replace E := E.trans E7
        replace B := B.ext E7
        replace B6 := B6.ext E7
        clear b1 b6 E7
        have b1 := B.cell
        have b6 := B6.cell
        go_wp2_with fail
        refine (C2.out _ E E67).mono ?_
        rintro e W8 ⟨rfl, E8⟩
        replace E67 := E67.trans E8
        replace E := E.trans E8
        replace B := B.ext E8
        replace B6 := B6.ext E8
        clear b1 b6 E8
        have b1 := B.cell
        have b6 := B6.cell
        go_wp2_with fail
        refine (C3.out _ E).mono ?_
        rintro e W9 ⟨LA, lc, rfl, hLs, hLn, E9⟩
        replace E67 := E67.trans E9
        replace E := E.trans E9
        replace B := B.ext E9
        replace B6 := B6.ext E9
        clear b1 b6 E9
        have b1 := B.cell
        have b6 := B6.cell
        go_wp2_with fail
        refine (C4.out _ E E67).mono ?_
        rintro e W10 ⟨LA', lc', rfl, hLs', E10⟩
        replace E67 := E67.trans E10
        replace E := E.trans E10
        replace B := B.ext E10
        replace B6 := B6.ext E10
        replace hLs := hLs.ext E10
        clear b1 b6 E10
        have b1 := B.cell
        have b6 := B6.cell
        by_cases hz : eE = 0
        · subst hz
          obtain ⟨r1, r2, r3⟩ := Q3.out rfl
          obtain ⟨wL, hwL⟩ : ∃ wL, weakR s l L = wL := ⟨_, rfl⟩
          rw [hwL] at r3
          have c5 : ∀ W, Ext w W → Ext W10 W → Calls Tryd.prog 16 #[.agg #[.int .i64 s.W, .int .i64 s.D, .int .i64 s.H, .slice A s.cells.length cap], .slice PA l.length pcap, .slice LA L.length lc] W fun e w' => e = .returned (.tuple #[.int .i64 wL, .int .i64 0]) ∧ Ext W w' := fun W EW EW10 => by
            rw [← hwL, ← r1]
            exact weakTop_c s A cap l PA pcap L LA lc (by omega) W (hs.ext EW) (hl.ext EW) (hLs.ext EW10) (hT.ext EW)
          have c6 : ∀ W, Ext w W → Ext W6 W → Ext W10 W → Calls Tryd.prog 16 #[.agg #[.int .i64 t.W, .int .i64 t.D, .int .i64 t.H, .slice TB t.cells.length tcap], .slice PA l.length pcap, .slice LA' L.length lc'] W fun e w' => e = .returned (.tuple #[.int .i64 wL, .int .i64 0]) ∧ Ext W w' := fun W EW EW6 EW10 => by
            rw [← r3, ← r2, ← Q2.out]
            exact weakTop_c t TB tcap l PA pcap L' LA' lc' (by have := Q2.out; omega) W (ht.ext EW6) (hl.ext EW) (hLs'.ext EW10) (hT.ext EW)
          have C5 := Lib.hid c5
          have C6 := Lib.hid c6
          clear c5 c6 r1 r2 r3 hwL
          go_wp2_with fail
          refine (C5.out _ E (Ext.refl _)).mono ?_
          rintro e W11 ⟨rfl, E11⟩
          replace E67 := E67.trans E11
          replace E := E.trans E11
          replace B := B.ext E11
          replace B6 := B6.ext E11
          clear b1 b6
          have b1 := B.cell
          have b6 := B6.cell
          go_wp2_with fail
          refine (C6.out _ E E67 E11).mono ?_
          rintro e W12 ⟨rfl, E12⟩
          go_wp2_with fail
          go_ret
          exact ⟨rfl, E.trans E12⟩
        · have hz1 : (eE != 0) = true := by simpa using hz
          have Hz := Lib.hid hz
          clear hz
          go_wp2_with fail
          go_ret
          exact ⟨rfl, E⟩
  · go_wp2_with fail
    go_ret
    exact ⟨rfl, E⟩
end Go.Proofs.YtpikemglnnjemaaDoor

namespace Go.Proofs.YtpikemglnnjemaaDoor
open Go.RowKit Go.ChangeShapes Go.WideShapes Go.ChangeAt Go.Deep Go.Joins

set_option maxRecDepth 100000 in
theorem turned_lifted (os : Os) (started : os.Started) (H : Type) (enc : TypeId × Value → H) :
    ReturnsInHanded {} Tryd.checked os 4 .any (fun w args => (Rows.composeTurnedSpec.pre enc Tryd.prog Tryd.f4 [] false w args ∧ laidMetH Tryd.prog laidTab w) ∧ sizedMet enc Tryd.prog Tryd.f4 (OpenSpec.ofChange Rows.composeTurnedSpec) false w args)
      (Rows.composeTurnedSpec.post enc Tryd.prog Tryd.f4 false true false false) := by
  refine returnsInHanded_of_change_and (C := Tryd.checked) (X := fun w _ => laidMetH Tryd.prog laidTab w) (fun _ _ _ hh h => h.of_heap hh) Tryd.own started (by kernel_rfl) Tryd.func4
    (ChangeSpec.witness_at (enc := enc) (C := Tryd.checked) (os := os) (X := fun w _ => laidMetH Tryd.prog laidTab w) false (laidWorld os) #[.agg #[.int .i64 0, .int .i64 0, .int .i64 0, .slice none 0 0], .slice none 0 0] 8 rfl (by kernel_rfl) (by kernel_rfl) (by kernel_rfl) (by kernel_rfl) (by kernel_rfl) (laidWorld_met os _)) ?_
  intro W base args ds gs before hval0 hW _ _ hL _
  have hval : ∀ (j : Nat) t v, Tryd.f4.params[j]? = some t → args[j]? = some v → Value.okWide Tryd.prog W .any base t v := hval0
  have hW' := hW
  obtain ⟨p, q, hA0, hV, rfl, hfz, hnd⟩ := hW
  have hA : DataW.TrodAll enc Tryd.prog W 0 (fun _ => true) true Tryd.f4.params.toList args.toList ds p := hA0
  rw [Tryd.params4] at hA hval
  have hAll := hA
  obtain ⟨v0, v1, d0, d1, p0, p1, rfl, rfl, rfl, h0, h1⟩ := trodAll_two hA
  obtain ⟨rfl, rfl⟩ := trodVars_none hV
  obtain ⟨c0, c1, c2, c3, y0, y1, y2, y3, m, rfl, rfl, rfl, hy0, hy1, hy2, hy3⟩ := open_agg4 Tryd.underlying24 (by kernel_rfl) cells_shape (hval 0 24 v0 rfl rfl) h0
  obtain ⟨x, e0, e0', -⟩ := DataW.trod_int Tryd.underlying3 hy0
  obtain ⟨y, e1, e1', -⟩ := DataW.trod_int Tryd.underlying3 hy1
  obtain ⟨z, e2, e2', -⟩ := DataW.trod_int Tryd.underlying3 hy2
  simp at e0 e1 e2
  subst e0 e1 e2
  have hc3 : ∃ A n ca, c3 = .slice A n ca := by
    rcases open_slice Tryd.underlying22 hy3 with ⟨h, _⟩ | ⟨a, len, cap', _, _, _, _, h, _⟩
    · exact ⟨none, 0, 0, by simpa using h⟩
    · exact ⟨some a, len, cap', by simpa using h⟩
  obtain ⟨A, n, ca, rfl⟩ := hc3
  obtain ⟨cs, hcl, hcs⟩ := bytes_of_trod hy3
  obtain ⟨B, n1, cb, rfl⟩ := okWide_slice Tryd.underlying25 (hval 1 25 v1 rfl rfl)
  obtain ⟨fu1, hf1⟩ := h1
  obtain ⟨l, rfl, hpl⟩ := plates_of_trod (by simpa [Value.cells] using hf1)
  subst hcl
  clear hA0 hval0
  simp only [List.append_nil] at hW' hAll
  have hlt : ∀ q ∈ (y0.2 ++ (y1.2 ++ (y2.2 ++ y3.2))) ++ p1, q.block < W.heap.size := fun q hq => hW'.lt q hq
  refine (turned_walk ⟨x, y, z, cs⟩ A ca l B cb W hcs hpl (tz_of_laid hL)).mono fun e W' ⟨he, hE⟩ => ?_
  subst he
  refine ⟨_, rfl, ?_⟩
  refine ⟨_, _, _, [], (y0.2 ++ (y1.2 ++ (y2.2 ++ y3.2))) ++ p1, [], hW', ?_, ?_, rfl, hE.frame _, fun h => by cases h⟩
  · exact trodAll_mk1 (shut_bool Tryd.underlying4 true)
  · exact trodAll_ext (ts := [24, 25]) Tryd.laidOut hE (by
      intro t ht
      simp only [List.mem_cons, List.not_mem_nil, or_false] at ht
      rcases ht with rfl | rfl <;> exact ⟨by kernel_rfl, of_decide_eq_true (by kernel_rfl)⟩) hAll hlt

theorem composeTurned_row : Rows.ComposeTurnedSaid :=
  OpenClaim.holds_of_wide 4 Tryd.f4 rfl rfl rfl rfl rfl rfl rfl ⟨rfl, rfl, rfl, rfl, rfl⟩ rfl rfl rfl rfl rfl (by kernel_rfl) Tryd.func4 (by kernel_rfl)
    (of_decide_eq_true (by kernel_rfl)) (by unfold Func.isWrapper; rw [if_neg (of_decide_eq_false (by kernel_rfl))]; exact ⟨rfl, rfl⟩)
    (fun os started H enc _ => turned_lifted os started H enc)
theorem composeTurned_holds : Rows.ComposeTurnedCardSaid :=
  Claim7.holds_tied_plain_at .later [] [.data] true Rows.composeTurnedCard.stood.harness false
    composeTurned_row (fun _ h => by cases h) (by kernel_rfl) (fun _ h => by cases h) composeTurned_row_tie rfl ⟨rfl, rfl⟩ (by kernel_rfl) rfl
    (fun f fn hf hfn => by
      obtain rfl : f = 4 := Option.some.inj ((show Tryd.prog.funcNamed "studwork/studworklaw07.ComposeTurned" = some 4 by kernel_rfl).symm.trans hf) |>.symm
      obtain rfl : fn = Tryd.f4 := (Option.some.inj (Tryd.func4.symm.trans hfn)).symm
      exact ⟨by kernel_rfl, fun j t ht => by
        rw [Tryd.params4] at ht
        have ht := List.mem_of_getElem? (show ([24, 25] : List TypeId)[j]? = some t by simpa using ht)
        simp only [List.mem_cons, List.not_mem_nil, or_false] at ht
        rcases ht with rfl | rfl
        · exact (show Tryd.prog.wantsStandIn 24 = false by kernel_rfl)
        · exact (show Tryd.prog.wantsStandIn 25 = false by kernel_rfl)⟩)
    (by kernel_rfl)
#print axioms composeTurned_holds
end Go.Proofs.YtpikemglnnjemaaDoor
