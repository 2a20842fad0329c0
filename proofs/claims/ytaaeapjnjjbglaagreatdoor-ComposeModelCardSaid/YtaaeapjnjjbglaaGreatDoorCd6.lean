/- The sets that a composition's plates cover exist just if it is a composition by definition. Hanging together, by sets and by definition: plain. -/
import Derived.Test.YtaaeapjnjjbglaaGreatDoorCd5

namespace Go.Proofs.YtaaeapjnjjbglaaGreatDoor
open Go.RowKit

/-! ### by which plate a cell is covered -/
def byStep (l : List Plate) (c : List Laid) (x y z : Int) (k : Nat) (b : Int) : Option Int := if hasB l (laidAt c k) x y z = true then (if b ≠ -1 then none else some (k : Int)) else some b
def byRun (l : List Plate) (c : List Laid) (x y z : Int) (k : Nat) : Option Int := runs (byStep l c x y z) k (-1)
def byI (l : List Plate) (c : List Laid) (x y z : Int) : Int := (byRun l c x y z c.length).getD (-2)
theorem byRun_some {l : List Plate} {c : List Laid} {x y z : Int} : ∀ {k : Nat} {r : Int}, byRun l c x y z k = some r →
    (r = -1 ∧ ∀ i, i < k → hasB l (laidAt c i) x y z = false) ∨ ∃ i : Nat, i < k ∧ r = i ∧ hasB l (laidAt c i) x y z = true ∧ ∀ j, j < k → hasB l (laidAt c j) x y z = true → j = i
  | 0, r, h => by
    have h : some (-1) = some r := h
    cases h
    exact Or.inl ⟨rfl, fun i hi => by omega⟩
  | k + 1, r, h => by
    have h' : (byRun l c x y z k).bind (byStep l c x y z k) = some r := h
    cases hr : byRun l c x y z k with
    | none => rw [hr] at h'; cases h'
    | some q =>
      rw [hr] at h'
      have h' : byStep l c x y z k q = some r := h'
      have ih := byRun_some hr
      unfold byStep at h'
      split at h'
      · rename_i hk
        split at h'
        · cases h'
        · rename_i hq
          cases h'
          rcases ih with ⟨_, h1⟩ | ⟨i, _, e, _⟩
          · right
            refine ⟨k, by omega, rfl, hk, fun j hj hh => ?_⟩
            rcases Nat.lt_or_ge j k with h2 | h2
            · rw [h1 j h2] at hh; cases hh
            · omega
          · omega
      · rename_i hk
        cases h'
        have hk : hasB l (laidAt c k) x y z = false := by simpa using hk
        rcases ih with ⟨e, h1⟩ | ⟨i, hi, e, hh, h1⟩
        · left
          refine ⟨e, fun i hi => ?_⟩
          rcases Nat.lt_or_ge i k with h2 | h2
          · exact h1 i h2
          · obtain rfl : i = k := by omega
            exact hk
        · right
          refine ⟨i, by omega, e, hh, fun j hj hh' => ?_⟩
          rcases Nat.lt_or_ge j k with h2 | h2
          · exact h1 j h2 hh'
          · obtain rfl : j = k := by omega
            rw [hk] at hh'; cases hh'
theorem byRun_none {l : List Plate} {c : List Laid} {x y z : Int} : ∀ {k : Nat}, byRun l c x y z k = none → ∃ i j, i < j ∧ j < k ∧ hasB l (laidAt c i) x y z = true ∧ hasB l (laidAt c j) x y z = true
  | 0, h => by cases h
  | k + 1, h => by
    have h' : (byRun l c x y z k).bind (byStep l c x y z k) = none := h
    cases hr : byRun l c x y z k with
    | none =>
      obtain ⟨i, j, h1, h2, h3⟩ := byRun_none hr
      exact ⟨i, j, h1, by omega, h3⟩
    | some q =>
      rw [hr] at h'
      have h' : byStep l c x y z k q = none := h'
      have ih := byRun_some hr
      unfold byStep at h'
      split at h'
      · rename_i hk
        split at h'
        · rename_i hq
          rcases ih with ⟨e, _⟩ | ⟨i, hi, _, hh, _⟩
          · exact absurd e hq
          · exact ⟨i, k, hi, by omega, hh, hk⟩
        · cases h'
      · cases h'
theorem byI_iff {l : List Plate} {c : List Laid} {x y z : Int} : 0 ≤ byI l c x y z ↔ ∃ i, i < c.length ∧ hasB l (laidAt c i) x y z = true ∧ ∀ j, j < c.length → hasB l (laidAt c j) x y z = true → j = i := by
  unfold byI
  cases hr : byRun l c x y z c.length with
  | none =>
    obtain ⟨i, j, h1, h2, h3, h4⟩ := byRun_none hr
    constructor
    · intro h
      have h : (0 : Int) ≤ -2 := h
      omega
    · rintro ⟨k, hk, _, hu⟩
      have := hu i (by omega) h3
      have := hu j h2 h4
      omega
  | some r =>
    rcases byRun_some hr with ⟨e, h1⟩ | ⟨i, hi, e, hh, hu⟩
    · constructor
      · intro h
        have h : (0 : Int) ≤ r := h
        omega
      · rintro ⟨k, hk, hh, _⟩
        rw [h1 k hk] at hh
        cases hh
    · constructor
      · intro _
        exact ⟨i, hi, hh, hu⟩
      · intro _
        show (0 : Int) ≤ r
        omega
theorem byI_eq {l : List Plate} {c : List Laid} {x y z : Int} {i : Nat} (hi : i < c.length) (hh : hasB l (laidAt c i) x y z = true) (hu : ∀ j, j < c.length → hasB l (laidAt c j) x y z = true → j = i) : byI l c x y z = i := by
  unfold byI
  cases hr : byRun l c x y z c.length with
  | none =>
    obtain ⟨a, b, h1, h2, h3, h4⟩ := byRun_none hr
    have := hu a (by omega) h3
    have := hu b h2 h4
    omega
  | some r =>
    show r = i
    rcases byRun_some hr with ⟨e, h1⟩ | ⟨k, hk, e, hh', hu'⟩
    · rw [h1 i hi] at hh; cases hh
    · have := hu k hk hh'
      omega

/-! ### compositions -/
def usedN (c : List Laid) (k : Nat) (p : Int) : Nat := (c.take k).countP (fun x => decide (x.plate = p))
def numL (s : Shape) (x : Laid) : Int := s.num x.x x.y x.z
def idxL (s : Shape) (x : Laid) : Int := s.idx x.x x.y x.z
def prevNum (s : Shape) (c : List Laid) : Nat → Int
  | 0 => -1
  | k + 1 => numL s (laidAt c k)
def setStep (s : Shape) (l : List Plate) (c : List Laid) (k : Nat) (st : List Nat × Nat) : Option (List Nat × Nat) :=
  if numL s (laidAt c k) ≤ prevNum s c k then none else
  match coverOf s l (laidAt c k) with
  | none => none
  | some m => if m &&& st.2 ≠ 0 ∨ (plateAt l (laidAt c k).plate.toNat).N < usedN c (k + 1) (laidAt c k).plate then none else some (st.1 ++ [m], st.2 ||| m)
def setRun (s : Shape) (l : List Plate) (c : List Laid) (k : Nat) : Option (List Nat × Nat) := runs (setStep s l c) k ([], 0)
/-- What the sets are; whether they are those of a composition. -/
def setB (s : Shape) (l : List Plate) (c : List Laid) : Bool := match setRun s l c c.length with
  | none => false
  | some st => decide (st.2 = 2 ^ fullN s.cells - 1)
def compAt (s : Shape) (l : List Plate) (c : List Laid) (i : Nat) : Bool :=
  liesB s l (laidAt c i) && ((decide (i = 0) || decide (idxL s (laidAt c (i - 1)) < idxL s (laidAt c i))) && decide ((usedN c (i + 1) (laidAt c i).plate : Int) ≤ (plateAt l (laidAt c i).plate.toNat).N))
def coveredAt (s : Shape) (l : List Plate) (c : List Laid) (i : Nat) : Bool := decide (s.cells.getD i 0 = 0) || decide (0 ≤ byI l c (s.px i) (s.py i) (s.pz i))
def compB (s : Shape) (l : List Plate) (c : List Laid) : Bool := (List.range c.length).all (compAt s l c) && (List.range s.cells.length).all (coveredAt s l c)

structure SetIs (s : Shape) (l : List Plate) (c : List Laid) (k : Nat) (out : List Nat) (all : Nat) : Prop where
  len : out.length = k
  num : ∀ i, i < k → prevNum s c i < numL s (laidAt c i)
  cover : ∀ i, i < k → coverOf s l (laidAt c i) = some (out.getD i 0)
  used : ∀ i, i < k → (usedN c (i + 1) (laidAt c i).plate : Int) ≤ (plateAt l (laidAt c i).plate.toNat).N
  apart : ∀ i j, i < j → j < k → ∀ b, (out.getD i 0).testBit b = true → (out.getD j 0).testBit b = true → False
  bits : ∀ b, all.testBit b = true ↔ ∃ i, i < k ∧ (out.getD i 0).testBit b = true

theorem getD_snoc (l : List Nat) (m i : Nat) : (l ++ [m]).getD i 0 = if i = l.length then m else l.getD i 0 := by
  rw [List.getD_eq_getElem?_getD, List.getD_eq_getElem?_getD]
  split
  · subst_vars
    simp
  · rename_i h
    rcases Nat.lt_or_ge i l.length with h' | h'
    · rw [List.getElem?_append_left h']
    · rw [List.getElem?_append_right h', List.getElem?_eq_none h', List.getElem?_eq_none (by simp; omega)]
theorem and_zero {a b : Nat} : a &&& b = 0 ↔ ∀ i, a.testBit i = true → b.testBit i = true → False := by
  constructor
  · intro h i h1 h2
    have : (a &&& b).testBit i = true := by rw [Nat.testBit_and, h1, h2]; rfl
    rw [h] at this
    simp at this
  · intro h
    apply Nat.eq_of_testBit_eq
    intro i
    rw [Nat.testBit_and, Nat.zero_testBit]
    cases h1 : a.testBit i
    · rfl
    · cases h2 : b.testBit i
      · rfl
      · exact absurd h2 (fun h2 => h i h1 h2)
theorem setRun_is {s : Shape} {l : List Plate} {c : List Laid} : ∀ {k : Nat} {out : List Nat} {all : Nat}, setRun s l c k = some (out, all) → SetIs s l c k out all
  | 0, out, all, h => by
    have h : some (([] : List Nat), 0) = some (out, all) := h
    cases h
    exact ⟨rfl, fun i hi => by omega, fun i hi => by omega, fun i hi => by omega, fun i j _ hj => by omega, fun b => ⟨fun h => by simp at h, fun ⟨i, hi, _⟩ => by omega⟩⟩
  | k + 1, out', all', h => by
    have h' : (setRun s l c k).bind (setStep s l c k) = some (out', all') := h
    cases hr : setRun s l c k with
    | none => rw [hr] at h'; cases h'
    | some st =>
      obtain ⟨out, all⟩ := st
      rw [hr] at h'
      have h' : setStep s l c k (out, all) = some (out', all') := h'
      obtain ⟨i1, i2, i3, i4, i5, i6⟩ := setRun_is hr
      unfold setStep at h'
      split at h'
      · cases h'
      · rename_i hn
        split at h'
        · cases h'
        · rename_i m hm
          split at h'
          · cases h'
          · rename_i hg
            rw [not_or] at hg
            obtain ⟨g1, g2⟩ := hg
            have g1 : m &&& all = 0 := Classical.not_not.1 g1
            rw [and_zero] at g1
            simp only [Option.some.injEq, Prod.mk.injEq] at h'
            obtain ⟨rfl, rfl⟩ := h'
            refine ⟨by simp [i1], fun i hi => ?_, fun i hi => ?_, fun i hi => ?_, fun i j hij hj b => ?_, fun b => ?_⟩
            · rcases Nat.lt_or_ge i k with h2 | h2
              · exact i2 i h2
              · obtain rfl : i = k := by omega
                omega
            · rw [getD_snoc, i1]
              split
              · subst_vars
                exact hm
              · exact i3 i (by omega)
            · rcases Nat.lt_or_ge i k with h2 | h2
              · exact i4 i h2
              · obtain rfl : i = k := by omega
                omega
            · rw [getD_snoc, getD_snoc, i1, if_neg (by omega)]
              split
              · subst_vars
                intro h1 h2
                exact g1 b h2 ((i6 b).2 ⟨i, hij, h1⟩)
              · exact i5 i j hij (by omega) b
            · rw [Nat.testBit_or, Bool.or_eq_true, i6 b]
              constructor
              · rintro (⟨i, hi, e⟩ | e)
                · refine ⟨i, by omega, ?_⟩
                  rw [getD_snoc, i1, if_neg (by omega)]
                  exact e
                · refine ⟨k, by omega, ?_⟩
                  rw [getD_snoc, i1, if_pos rfl]
                  exact e
              · rintro ⟨i, hi, e⟩
                rw [getD_snoc, i1] at e
                split at e
                · exact Or.inr e
                · exact Or.inl ⟨i, by omega, e⟩
theorem prevNum_ge (s : Shape) (c : List Laid) (k : Nat) : -1 ≤ prevNum s c k := by
  cases k with
  | zero => exact Int.le_refl _
  | succ k =>
    show -1 ≤ s.num _ _ _
    unfold Shape.num
    split
    · exact numOf_lo _ _
    · omega
theorem numL_lt {s : Shape} (ok : s.Ok) {x y : Laid} (hx : 0 ≤ numL s x) (hy : 0 ≤ numL s y) : numL s x < numL s y ↔ idxL s x < idxL s y := by
  have h1 : s.inside x.x x.y x.z = true := num_in (by unfold numL at hx; omega)
  have h2 : s.inside y.x y.y y.z = true := num_in (by unfold numL at hy; omega)
  have i1 := s.idx_in ok h1
  have i2 := s.idx_in ok h2
  unfold numL at hx hy ⊢
  unfold idxL
  rw [s.num_eq h1] at hx ⊢
  rw [s.num_eq h2] at hy ⊢
  rw [numOf_lt hx hy]
  omega
/-- The full cell with an index is at its place. -/
theorem num_place {s : Shape} (ok : s.Ok) {i : Nat} (hi : i < s.cells.length) : s.num (s.px i) (s.py i) (s.pz i) = numOf s.cells i := by
  obtain ⟨h1, h2⟩ := s.place_in ok hi
  rw [s.num_eq h1, h2]
  rfl
theorem SetIs.lies {s : Shape} {l : List Plate} {c : List Laid} {k : Nat} {out : List Nat} {all : Nat} (h : SetIs s l c k out all) {i : Nat} (hi : i < k) : liesB s l (laidAt c i) = true := by
  rw [lies_cover]
  refine ⟨?_, by rw [h.cover i hi]; rfl⟩
  have h1 := h.num i hi
  have h2 := prevNum_ge s c i
  show 0 ≤ numL s (laidAt c i)
  omega
theorem full_bits {n all : Nat} (h : ∀ b, all.testBit b = true → b < n) : all = 2 ^ n - 1 ↔ ∀ b, b < n → all.testBit b = true := by
  constructor
  · rintro rfl b hb
    rw [Nat.testBit_two_pow_sub_one]
    simpa using hb
  · intro h2
    apply Nat.eq_of_testBit_eq
    intro b
    rw [Nat.testBit_two_pow_sub_one]
    cases hb : all.testBit b
    · have : ¬ b < n := fun h3 => by rw [h2 b h3] at hb; cases hb
      simp [this]
    · simp [h b hb]
theorem SetIs.covers {s : Shape} {l : List Plate} {c : List Laid} {out : List Nat} {all : Nat} (ok : s.Ok) (h : SetIs s l c c.length out all) (hall : all = 2 ^ fullN s.cells - 1) {x y z : Int} (hn : 0 ≤ s.num x y z) :
    ∃ i, i < c.length ∧ hasB l (laidAt c i) x y z = true ∧ ∀ j, j < c.length → hasB l (laidAt c j) x y z = true → j = i := by
  obtain ⟨b, hb⟩ := Int.eq_ofNat_of_zero_le hn
  have hlt := num_lt_full ok x y z
  have hbit : all.testBit b = true := by
    rw [hall, Nat.testBit_two_pow_sub_one]
    simp only [decide_eq_true_eq]
    omega
  obtain ⟨i, hi, e⟩ := (h.bits b).1 hbit
  refine ⟨i, hi, (cover_bits ok (h.cover i hi) hb).1 e, fun j hj hh => ?_⟩
  have e2 := (cover_bits ok (h.cover j hj) hb).2 hh
  rcases Nat.lt_trichotomy i j with h' | h' | h'
  · exact (h.apart i j h' hj b e e2).elim
  · exact h'.symm
  · exact (h.apart j i h' hi b e2 e).elim
theorem SetIs.comp {s : Shape} {l : List Plate} {c : List Laid} {out : List Nat} {all : Nat} (ok : s.Ok) (h : SetIs s l c c.length out all) (hall : all = 2 ^ fullN s.cells - 1) : compB s l c = true := by
  unfold compB
  rw [Bool.and_eq_true, List.all_eq_true, List.all_eq_true]
  constructor
  · intro i hi
    rw [List.mem_range] at hi
    unfold compAt
    simp only [Bool.and_eq_true, Bool.or_eq_true, decide_eq_true_eq]
    refine ⟨h.lies hi, ?_, h.used i hi⟩
    cases i with
    | zero => exact Or.inl rfl
    | succ i =>
      right
      have h1 := h.num (i + 1) hi
      have h2 := h.num i (by omega)
      have h3 := prevNum_ge s c i
      have h1 : numL s (laidAt c i) < numL s (laidAt c (i + 1)) := h1
      show idxL s (laidAt c i) < idxL s (laidAt c (i + 1))
      exact (numL_lt ok (by omega) (by omega)).1 h1
  · intro i hi
    rw [List.mem_range] at hi
    unfold coveredAt
    simp only [Bool.or_eq_true, decide_eq_true_eq]
    by_cases h0 : s.cells.getD i 0 = 0
    · exact Or.inl h0
    · right
      rw [byI_iff]
      refine h.covers ok hall ?_
      rw [num_place ok hi]
      unfold numOf
      rw [if_neg h0]
      omega
theorem comp_run {s : Shape} {l : List Plate} {c : List Laid} (ok : s.Ok) (h : compB s l c = true) : ∀ {k : Nat}, k ≤ c.length → ∃ st, setRun s l c k = some st
  | 0, _ => ⟨_, rfl⟩
  | k + 1, hk => by
    obtain ⟨⟨out, all⟩, hst⟩ := comp_run ok h (show k ≤ c.length by omega)
    have his := setRun_is hst
    unfold compB at h
    rw [Bool.and_eq_true, List.all_eq_true, List.all_eq_true] at h
    obtain ⟨h1, h2⟩ := h
    have hc := h1 k (List.mem_range.2 (by omega))
    unfold compAt at hc
    simp only [Bool.and_eq_true, Bool.or_eq_true, decide_eq_true_eq] at hc
    obtain ⟨hl, ho, hu⟩ := hc
    obtain ⟨hn, hcov⟩ := lies_cover.1 hl
    obtain ⟨m, hm⟩ := Option.isSome_iff_exists.1 hcov
    have hprev : prevNum s c k < numL s (laidAt c k) := by
      cases k with
      | zero =>
        show -1 < s.num _ _ _
        omega
      | succ k =>
        have hp := his.num k (by omega)
        have hq := prevNum_ge s c k
        refine (numL_lt ok (by omega) hn).2 ?_
        rcases ho with ho | ho
        · omega
        · exact ho
    have hand : m &&& all = 0 := by
      rw [and_zero]
      intro b hb1 hb2
      obtain ⟨i, hi, hb3⟩ := (his.bits b).1 hb2
      obtain ⟨hlt, x, y, z, hxyz⟩ := cover_lt ok hm hb1
      have g1 := (cover_bits ok hm hxyz).1 hb1
      have g2 := (cover_bits ok (his.cover i hi) hxyz).1 hb3
      have hin : s.inside x y z = true := num_in (by omega)
      have hid := s.idx_in ok hin
      obtain ⟨p1, p2, p3⟩ := s.place_of ok hin
      have hcv := h2 (s.idx x y z).toNat (List.mem_range.2 (by omega))
      unfold coveredAt at hcv
      simp only [Bool.or_eq_true, decide_eq_true_eq] at hcv
      have hne : s.cells.getD (s.idx x y z).toNat 0 ≠ 0 := by
        rw [s.num_eq hin] at hxyz
        exact (numOf_full (by omega)).1
      rcases hcv with hcv | hcv
      · exact hne hcv
      · rw [p1, p2, p3, byI_iff] at hcv
        obtain ⟨q, _, _, hq⟩ := hcv
        have := hq k (by omega) g1
        have := hq i (by omega) g2
        omega
    refine ⟨(out ++ [m], all ||| m), ?_⟩
    show (setRun s l c k).bind (setStep s l c k) = _
    rw [hst]
    show setStep s l c k (out, all) = _
    unfold setStep
    rw [if_neg (by omega), hm]
    show (if m &&& all ≠ 0 ∨ _ then none else some (out ++ [m], all ||| m)) = _
    rw [if_neg]
    rintro (h3 | h3)
    · exact h3 hand
    · omega
theorem set_comp {s : Shape} {l : List Plate} {c : List Laid} (ok : s.Ok) : setB s l c = compB s l c := by
  rw [Bool.eq_iff_iff]
  constructor
  · intro h
    unfold setB at h
    split at h
    · cases h
    · rename_i st hst
      obtain ⟨out, all⟩ := st
      exact (setRun_is hst).comp ok (by simpa using h)
  · intro h
    obtain ⟨⟨out, all⟩, hst⟩ := comp_run ok h (Nat.le_refl _)
    have his := setRun_is hst
    unfold setB
    rw [hst]
    show decide (all = _) = true
    rw [decide_eq_true_eq, full_bits]
    · intro b hb
      obtain ⟨i, hi, e⟩ := numOf_surj (cs := s.cells) (Nat.le_refl _) (show b < fullN (s.cells.take s.cells.length) by rw [List.take_length]; exact hb)
      unfold compB at h
      rw [Bool.and_eq_true, List.all_eq_true, List.all_eq_true] at h
      have hcv := h.2 i (List.mem_range.2 hi)
      unfold coveredAt at hcv
      simp only [Bool.or_eq_true, decide_eq_true_eq] at hcv
      rcases hcv with hcv | hcv
      · exact absurd hcv (numOf_full (by omega)).1
      · obtain ⟨j, hj, hh, _⟩ := byI_iff.1 hcv
        rw [his.bits]
        exact ⟨j, hj, (cover_bits ok (his.cover j hj) (by rw [num_place ok hi]; exact e)).2 hh⟩
    · intro b hb
      obtain ⟨i, hi, e⟩ := (his.bits b).1 hb
      exact (cover_lt ok (his.cover i hi) e).1
end Go.Proofs.YtaaeapjnjjbglaaGreatDoor

namespace Go.Proofs.YtaaeapjnjjbglaaGreatDoor
open Go.RowKit

/-! ### what is above a set -/
def bitsOf (m : Nat) : List Nat := (List.range 32).filter fun n => m.testBit n
def upStep (ab : List Int) (acc n : Nat) : Nat := if 0 ≤ ab.getD n (-1) then acc ||| 2 ^ (ab.getD n (-1)).toNat else acc
def upL (ab : List Int) (l : List Nat) : Nat := l.foldl (upStep ab) 0
def upN (ab : List Int) (m : Nat) : Nat := upL ab (bitsOf m)
theorem upL_bits (ab : List Int) (l : List Nat) (b : Nat) : (upL ab l).testBit b = true ↔ ∃ n ∈ l, ab.getD n (-1) = b := by
  have h : ∀ (l : List Nat) (acc : Nat), (l.foldl (upStep ab) acc).testBit b = true ↔ acc.testBit b = true ∨ ∃ n ∈ l, ab.getD n (-1) = b := by
    intro l
    induction l with
    | nil => intro acc; simp
    | cons n l ih =>
      intro acc
      rw [List.foldl_cons, ih]
      unfold upStep
      split
      · rw [bit_or]
        constructor
        · rintro ((h | h) | ⟨k, hk, e⟩)
          · exact Or.inl h
          · exact Or.inr ⟨n, by simp, by omega⟩
          · exact Or.inr ⟨k, by simp [hk], e⟩
        · rintro (h | ⟨k, hk, e⟩)
          · exact Or.inl (Or.inl h)
          · rw [List.mem_cons] at hk
            rcases hk with rfl | hk
            · exact Or.inl (Or.inr (by omega))
            · exact Or.inr ⟨k, hk, e⟩
      · constructor
        · rintro (h | ⟨k, hk, e⟩)
          · exact Or.inl h
          · exact Or.inr ⟨k, by simp [hk], e⟩
        · rintro (h | ⟨k, hk, e⟩)
          · exact Or.inl h
          · rw [List.mem_cons] at hk
            rcases hk with rfl | hk
            · omega
            · exact Or.inr ⟨k, hk, e⟩
  unfold upL
  rw [h]
  simp
theorem upN_bits {ab : List Int} {m b : Nat} (hm : m < 2 ^ 32) : (upN ab m).testBit b = true ↔ ∃ n, m.testBit n = true ∧ ab.getD n (-1) = b := by
  unfold upN
  rw [upL_bits]
  unfold bitsOf
  constructor
  · rintro ⟨n, hn, e⟩
    rw [List.mem_filter] at hn
    exact ⟨n, hn.2, e⟩
  · rintro ⟨n, hn, e⟩
    refine ⟨n, List.mem_filter.2 ⟨List.mem_range.2 ?_, hn⟩, e⟩
    rcases Nat.lt_or_ge n 32 with h | h
    · exact h
    · have : m < 2 ^ n := Nat.lt_of_lt_of_le hm (Nat.pow_le_pow_right (by omega) h)
      rw [Nat.testBit_lt_two_pow this] at hn
      cases hn

/-! ### being connected -/
/-- Whoever holds the first and all that touch what it holds, holds all. -/
def Conn (n : Nat) (T : Nat → Nat → Prop) : Prop := ∀ S : Nat → Prop, S 0 → (∀ i j, i < n → j < n → S i → T i j → S j) → ∀ i, i < n → S i
theorem Conn.congr {n : Nat} {T U : Nat → Nat → Prop} (h : ∀ i j, i < n → j < n → (T i j ↔ U i j)) : Conn n T ↔ Conn n U := by
  constructor
  · intro hc S h0 hS
    exact hc S h0 fun i j hi hj hs ht => hS i j hi hj hs ((h i j hi hj).1 ht)
  · intro hc S h0 hS
    exact hc S h0 fun i j hi hj hs ht => hS i j hi hj hs ((h i j hi hj).2 ht)
/-- A set that is closed, and in every closed one, is all just if all is connected. -/
theorem conn_of {n : Nat} {T : Nat → Nat → Prop} {S : Nat → Prop} (h0 : S 0) (hcl : ∀ i j, i < n → j < n → S i → T i j → S j) (hmin : ∀ R : Nat → Prop, R 0 → (∀ i j, i < n → j < n → R i → T i j → R j) → ∀ i, i < n → S i → R i) :
    Conn n T ↔ ∀ i, i < n → S i := by
  constructor
  · intro h
    exact h S h0 hcl
  · intro h R r0 rcl i hi
    exact hmin R r0 rcl i hi (h i hi)

/-! ### touching -/
/-- A cell of one has a cell of the other just above or below it. -/
def touchP (s : Shape) (l : List Plate) (a b : Laid) : Prop := ∃ x y z, s.inside x y z = true ∧ hasB l a x y z = true ∧ (hasB l b x y (z + 1) = true ∨ hasB l b x y (z - 1) = true)
theorem placesS_get {s : Shape} : ∀ {k : Nat} {i : Nat}, k ≤ s.cells.length → i < k → 0 ≤ numOf s.cells i → (placesS s k)[(numOf s.cells i).toNat]? = some i
  | 0, i, _, hi, _ => by omega
  | k + 1, i, hk, hi, h0 => by
    have hlen : (placesS s k).length = fullN (s.cells.take k) := by rw [placesS_len, aboveS_len (by omega)]
    obtain ⟨f1, f2⟩ := numOf_full h0
    unfold placesS
    rcases Nat.lt_or_ge i k with h | h
    · have ih := placesS_get (by omega) h h0
      split
      · exact ih
      · rw [List.getElem?_append_left (List.getElem?_eq_some_iff.1 ih).1]
        exact ih
    · obtain rfl : i = k := by omega
      rw [if_neg (by omega), List.getElem?_append_right (by rw [hlen]; omega), hlen]
      rw [show (numOf s.cells i).toNat - fullN (s.cells.take i) = 0 by omega]
      rfl
theorem aboveS_get {s : Shape} : ∀ {k : Nat} {i : Nat}, k ≤ s.cells.length → i < k → 0 ≤ numOf s.cells i → (aboveS s k)[(numOf s.cells i).toNat]? = some (s.num (s.px i) (s.py i) (s.pz i + 1))
  | 0, i, _, hi, _ => by omega
  | k + 1, i, hk, hi, h0 => by
    have hlen : (aboveS s k).length = fullN (s.cells.take k) := aboveS_len (by omega)
    obtain ⟨f1, f2⟩ := numOf_full h0
    unfold aboveS
    rcases Nat.lt_or_ge i k with h | h
    · have ih := aboveS_get (by omega) h h0
      split
      · exact ih
      · rw [List.getElem?_append_left (List.getElem?_eq_some_iff.1 ih).1]
        exact ih
    · obtain rfl : i = k := by omega
      rw [if_neg (by omega), List.getElem?_append_right (by rw [hlen]; omega), hlen]
      rw [show (numOf s.cells i).toNat - fullN (s.cells.take i) = 0 by omega]
      rfl
/-- The numbers above. -/
def abv (s : Shape) : List Int := aboveS s s.cells.length
theorem abv_of {s : Shape} (ok : s.Ok) {x y z : Int} {n : Nat} (h : s.num x y z = n) : (abv s).getD n (-1) = s.num x y (z + 1) := by
  have hin : s.inside x y z = true := num_in (by omega)
  have hid := s.idx_in ok hin
  obtain ⟨p1, p2, p3⟩ := s.place_of ok hin
  have hne : s.num x y z = numOf s.cells (s.idx x y z).toNat := s.num_eq hin
  have hg := aboveS_get (s := s) (Nat.le_refl _) (show (s.idx x y z).toNat < s.cells.length by omega) (by omega)
  rw [p1, p2, p3, ← hne, h] at hg
  unfold abv
  rw [List.getD_eq_getElem?_getD]
  have hg : (aboveS s s.cells.length)[n]? = some (s.num x y (z + 1)) := by simpa using hg
  rw [hg]
  rfl
theorem abv_len {s : Shape} : (abv s).length = fullN s.cells := by
  unfold abv
  rw [aboveS_len (Nat.le_refl _), List.take_length]
theorem abv_lo {s : Shape} {n : Nat} : ∀ {a : Int}, (abv s)[n]? = some a → -1 ≤ a ∧ a < fullN s.cells ∨ ¬ s.Ok := by
  intro a h
  by_cases ok : s.Ok
  · left
    have hn : n < fullN s.cells := by rw [← abv_len]; exact (List.getElem?_eq_some_iff.1 h).1
    obtain ⟨i, hi, e⟩ := numOf_surj (cs := s.cells) (k := s.cells.length) (b := n) (Nat.le_refl _) (by rw [List.take_length]; exact hn)
    have hg := aboveS_get (s := s) (Nat.le_refl _) hi (by omega)
    rw [e] at hg
    have h' : (aboveS s s.cells.length)[((n : Nat) : Int).toNat]? = some a := h
    rw [hg] at h'
    cases h'
    refine ⟨?_, num_lt_full ok _ _ _⟩
    unfold Shape.num
    split
    · exact numOf_lo _ _
    · omega
  · exact Or.inr ok
/-- A plate is above another one. -/
theorem up_iff {s : Shape} {l : List Plate} {a b : Laid} {m k : Nat} (ok : s.Ok) (hm : coverOf s l a = some m) (hk : coverOf s l b = some k) (hlt : m < 2 ^ 32) :
    k &&& upN (abv s) m ≠ 0 ↔ ∃ x y z, 0 ≤ s.num x y z ∧ hasB l a x y z = true ∧ 0 ≤ s.num x y (z + 1) ∧ hasB l b x y (z + 1) = true := by
  rw [Ne, and_zero, Classical.not_forall]
  constructor
  · rintro ⟨n, hn⟩
    rw [Classical.not_imp] at hn
    obtain ⟨h1, h2⟩ := hn
    have h2 := Classical.not_not.1 h2
    rw [upN_bits hlt] at h2
    obtain ⟨j, hj, e⟩ := h2
    obtain ⟨_, x, y, z, hxyz⟩ := cover_lt ok hm hj
    rw [abv_of ok hxyz] at e
    exact ⟨x, y, z, by omega, (cover_bits ok hm hxyz).1 hj, by omega, (cover_bits ok hk e).1 h1⟩
  · rintro ⟨x, y, z, h1, h2, h3, h4⟩
    obtain ⟨j, hj⟩ := Int.eq_ofNat_of_zero_le h1
    obtain ⟨n, hn⟩ := Int.eq_ofNat_of_zero_le h3
    refine ⟨n, ?_⟩
    rw [Classical.not_imp]
    refine ⟨(cover_bits ok hk hn).2 h4, Classical.not_not.2 ?_⟩
    rw [upN_bits hlt]
    exact ⟨j, (cover_bits ok hm hj).2 h2, by rw [abv_of ok hj]; exact hn⟩
/-- All places of a valid plate are full. -/
theorem lies_num {s : Shape} {l : List Plate} {c : Laid} (h : liesB s l c = true) {x y z : Int} (hh : hasB l c x y z = true) : 0 ≤ s.num x y z := by
  rw [lies_iff] at h
  obtain ⟨_, _, _, hs, hc, _⟩ := h
  rw [hasB_iff] at hh
  obtain ⟨e, hx, hy⟩ := hh
  subst e
  have := sameAll_iff.1 hs (y - c.y).toNat (by omega) (x - c.x).toNat (by omega)
  rw [show c.x + ((x - c.x).toNat : Int) = x by omega, show c.y + ((y - c.y).toNat : Int) = y by omega] at this
  rw [Shape.num_iff, this]
  exact hc
theorem touch_iff {s : Shape} {l : List Plate} {a b : Laid} {m k : Nat} (ok : s.Ok) (hm : coverOf s l a = some m) (hk : coverOf s l b = some k) (ha : liesB s l a = true) (hb : liesB s l b = true) (hlt : m < 2 ^ 32) (hlt2 : k < 2 ^ 32) :
    (k &&& upN (abv s) m ≠ 0 ∨ m &&& upN (abv s) k ≠ 0) ↔ touchP s l a b := by
  rw [up_iff ok hm hk hlt, up_iff ok hk hm hlt2]
  constructor
  · rintro (⟨x, y, z, h1, h2, h3, h4⟩ | ⟨x, y, z, h1, h2, h3, h4⟩)
    · exact ⟨x, y, z, num_in (by omega), h2, Or.inl h4⟩
    · exact ⟨x, y, z + 1, num_in (by omega), h4, Or.inr (by rw [show z + 1 - 1 = z by omega]; exact h2)⟩
  · rintro ⟨x, y, z, h1, h2, h3 | h3⟩
    · exact Or.inl ⟨x, y, z, lies_num ha h2, h2, lies_num hb h3, h3⟩
    · refine Or.inr ⟨x, y, z - 1, lies_num hb h3, h3, ?_, ?_⟩
      · rw [show z - 1 + 1 = z by omega]
        exact lies_num ha h2
      · rw [show z - 1 + 1 = z by omega]
        exact h2
end Go.Proofs.YtaaeapjnjjbglaaGreatDoor
