/- Hanging together, by sets and by definition: plain. -/
import Derived.Test.YtpikemglnnjemaaComp
namespace Go.Proofs.Ytpikemglnnjemaa
open Go.RowKit

/-! ### what is above a set -/
def bitsOf (m : Nat) : List Nat := (List.range 32).filter fun n => m.testBit n
def upStep (ab : List Int) (acc n : Nat) : Nat := if 0 ≤ ab.getD n (-1) then acc ||| 2 ^ (ab.getD n (-1)).toNat else acc
def upL (ab : List Int) (l : List Nat) : Nat := l.foldl (upStep ab) 0
def upN (ab : List Int) (m : Nat) : Nat := upL ab (bitsOf m)
theorem upL_bits (ab : List Int) (l : List Nat) (b : Nat) : (upL ab l).testBit b = true ↔ ∃ n ∈ l, ab.getD n (-1) = b := by
  have h : ∀ (l : List Nat) (acc : Nat), (l.foldl (upStep ab) acc).testBit b = true ↔ acc.testBit b = true ∨ ∃ n ∈ l, ab.getD n (-1) = b := by
    intro l
    induction l with
    | nil => intro acc; simp
    | cons n l ih =>
      intro acc
      rw [List.foldl_cons, ih]
      unfold upStep
      split
      · rw [bit_or]
        constructor
        · rintro ((h | h) | ⟨k, hk, e⟩)
          · exact Or.inl h
          · exact Or.inr ⟨n, by simp, by omega⟩
          · exact Or.inr ⟨k, by simp [hk], e⟩
        · rintro (h | ⟨k, hk, e⟩)
          · exact Or.inl (Or.inl h)
          · rw [List.mem_cons] at hk
            rcases hk with rfl | hk
            · exact Or.inl (Or.inr (by omega))
            · exact Or.inr ⟨k, hk, e⟩
      · constructor
        · rintro (h | ⟨k, hk, e⟩)
          · exact Or.inl h
          · exact Or.inr ⟨k, by simp [hk], e⟩
        · rintro (h | ⟨k, hk, e⟩)
          · exact Or.inl h
          · rw [List.mem_cons] at hk
            rcases hk with rfl | hk
            · omega
            · exact Or.inr ⟨k, hk, e⟩
  unfold upL
  rw [h]
  simp
theorem upN_bits {ab : List Int} {m b : Nat} (hm : m < 2 ^ 32) : (upN ab m).testBit b = true ↔ ∃ n, m.testBit n = true ∧ ab.getD n (-1) = b := by
  unfold upN
  rw [upL_bits]
  unfold bitsOf
  constructor
  · rintro ⟨n, hn, e⟩
    rw [List.mem_filter] at hn
    exact ⟨n, hn.2, e⟩
  · rintro ⟨n, hn, e⟩
    refine ⟨n, List.mem_filter.2 ⟨List.mem_range.2 ?_, hn⟩, e⟩
    rcases Nat.lt_or_ge n 32 with h | h
    · exact h
    · have : m < 2 ^ n := Nat.lt_of_lt_of_le hm (Nat.pow_le_pow_right (by omega) h)
      rw [Nat.testBit_lt_two_pow this] at hn
      cases hn

/-! ### being connected -/
/-- Whoever holds the first and all that touch what it holds, holds all. -/
def Conn (n : Nat) (T : Nat → Nat → Prop) : Prop := ∀ S : Nat → Prop, S 0 → (∀ i j, i < n → j < n → S i → T i j → S j) → ∀ i, i < n → S i
theorem Conn.congr {n : Nat} {T U : Nat → Nat → Prop} (h : ∀ i j, i < n → j < n → (T i j ↔ U i j)) : Conn n T ↔ Conn n U := by
  constructor
  · intro hc S h0 hS
    exact hc S h0 fun i j hi hj hs ht => hS i j hi hj hs ((h i j hi hj).1 ht)
  · intro hc S h0 hS
    exact hc S h0 fun i j hi hj hs ht => hS i j hi hj hs ((h i j hi hj).2 ht)
/-- A set that is closed, and in every closed one, is all just if all is connected. -/
theorem conn_of {n : Nat} {T : Nat → Nat → Prop} {S : Nat → Prop} (h0 : S 0) (hcl : ∀ i j, i < n → j < n → S i → T i j → S j) (hmin : ∀ R : Nat → Prop, R 0 → (∀ i j, i < n → j < n → R i → T i j → R j) → ∀ i, i < n → S i → R i) :
    Conn n T ↔ ∀ i, i < n → S i := by
  constructor
  · intro h
    exact h S h0 hcl
  · intro h R r0 rcl i hi
    exact hmin R r0 rcl i hi (h i hi)

/-! ### touching -/
/-- A cell of one has a cell of the other just above or below it. -/
def touchP (s : Shape) (l : List Plate) (a b : Laid) : Prop := ∃ x y z, s.inside x y z = true ∧ hasB l a x y z = true ∧ (hasB l b x y (z + 1) = true ∨ hasB l b x y (z - 1) = true)
theorem placesS_get {s : Shape} : ∀ {k : Nat} {i : Nat}, k ≤ s.cells.length → i < k → 0 ≤ numOf s.cells i → (placesS s k)[(numOf s.cells i).toNat]? = some i
  | 0, i, _, hi, _ => by omega
  | k + 1, i, hk, hi, h0 => by
    have hlen : (placesS s k).length = fullN (s.cells.take k) := by rw [placesS_len, aboveS_len (by omega)]
    obtain ⟨f1, f2⟩ := numOf_full h0
    unfold placesS
    rcases Nat.lt_or_ge i k with h | h
    · have ih := placesS_get (by omega) h h0
      split
      · exact ih
      · rw [List.getElem?_append_left (List.getElem?_eq_some_iff.1 ih).1]
        exact ih
    · obtain rfl : i = k := by omega
      rw [if_neg (by omega), List.getElem?_append_right (by rw [hlen]; omega), hlen]
      rw [show (numOf s.cells i).toNat - fullN (s.cells.take i) = 0 by omega]
      rfl
theorem aboveS_get {s : Shape} : ∀ {k : Nat} {i : Nat}, k ≤ s.cells.length → i < k → 0 ≤ numOf s.cells i → (aboveS s k)[(numOf s.cells i).toNat]? = some (s.num (s.px i) (s.py i) (s.pz i + 1))
  | 0, i, _, hi, _ => by omega
  | k + 1, i, hk, hi, h0 => by
    have hlen : (aboveS s k).length = fullN (s.cells.take k) := aboveS_len (by omega)
    obtain ⟨f1, f2⟩ := numOf_full h0
    unfold aboveS
    rcases Nat.lt_or_ge i k with h | h
    · have ih := aboveS_get (by omega) h h0
      split
      · exact ih
      · rw [List.getElem?_append_left (List.getElem?_eq_some_iff.1 ih).1]
        exact ih
    · obtain rfl : i = k := by omega
      rw [if_neg (by omega), List.getElem?_append_right (by rw [hlen]; omega), hlen]
      rw [show (numOf s.cells i).toNat - fullN (s.cells.take i) = 0 by omega]
      rfl
/-- The numbers above. -/
def abv (s : Shape) : List Int := aboveS s s.cells.length
theorem abv_of {s : Shape} (ok : s.Ok) {x y z : Int} {n : Nat} (h : s.num x y z = n) : (abv s).getD n (-1) = s.num x y (z + 1) := by
  have hin : s.inside x y z = true := num_in (by omega)
  have hid := s.idx_in ok hin
  obtain ⟨p1, p2, p3⟩ := s.place_of ok hin
  have hne : s.num x y z = numOf s.cells (s.idx x y z).toNat := s.num_eq hin
  have hg := aboveS_get (s := s) (Nat.le_refl _) (show (s.idx x y z).toNat < s.cells.length by omega) (by omega)
  rw [p1, p2, p3, ← hne, h] at hg
  unfold abv
  rw [List.getD_eq_getElem?_getD]
  have hg : (aboveS s s.cells.length)[n]? = some (s.num x y (z + 1)) := by simpa using hg
  rw [hg]
  rfl
theorem abv_len {s : Shape} : (abv s).length = fullN s.cells := by
  unfold abv
  rw [aboveS_len (Nat.le_refl _), List.take_length]
theorem abv_lo {s : Shape} {n : Nat} : ∀ {a : Int}, (abv s)[n]? = some a → -1 ≤ a ∧ a < fullN s.cells ∨ ¬ s.Ok := by
  intro a h
  by_cases ok : s.Ok
  · left
    have hn : n < fullN s.cells := by rw [← abv_len]; exact (List.getElem?_eq_some_iff.1 h).1
    obtain ⟨i, hi, e⟩ := numOf_surj (cs := s.cells) (k := s.cells.length) (b := n) (Nat.le_refl _) (by rw [List.take_length]; exact hn)
    have hg := aboveS_get (s := s) (Nat.le_refl _) hi (by omega)
    rw [e] at hg
    have h' : (aboveS s s.cells.length)[((n : Nat) : Int).toNat]? = some a := h
    rw [hg] at h'
    cases h'
    refine ⟨?_, num_lt_full ok _ _ _⟩
    unfold Shape.num
    split
    · exact numOf_lo _ _
    · omega
  · exact Or.inr ok
/-- A plate is above another one. -/
theorem up_iff {s : Shape} {l : List Plate} {a b : Laid} {m k : Nat} (ok : s.Ok) (hm : coverOf s l a = some m) (hk : coverOf s l b = some k) (hlt : m < 2 ^ 32) :
    k &&& upN (abv s) m ≠ 0 ↔ ∃ x y z, 0 ≤ s.num x y z ∧ hasB l a x y z = true ∧ 0 ≤ s.num x y (z + 1) ∧ hasB l b x y (z + 1) = true := by
  rw [Ne, and_zero, Classical.not_forall]
  constructor
  · rintro ⟨n, hn⟩
    rw [Classical.not_imp] at hn
    obtain ⟨h1, h2⟩ := hn
    have h2 := Classical.not_not.1 h2
    rw [upN_bits hlt] at h2
    obtain ⟨j, hj, e⟩ := h2
    obtain ⟨_, x, y, z, hxyz⟩ := cover_lt ok hm hj
    rw [abv_of ok hxyz] at e
    exact ⟨x, y, z, by omega, (cover_bits ok hm hxyz).1 hj, by omega, (cover_bits ok hk e).1 h1⟩
  · rintro ⟨x, y, z, h1, h2, h3, h4⟩
    obtain ⟨j, hj⟩ := Int.eq_ofNat_of_zero_le h1
    obtain ⟨n, hn⟩ := Int.eq_ofNat_of_zero_le h3
    refine ⟨n, ?_⟩
    rw [Classical.not_imp]
    refine ⟨(cover_bits ok hk hn).2 h4, Classical.not_not.2 ?_⟩
    rw [upN_bits hlt]
    exact ⟨j, (cover_bits ok hm hj).2 h2, by rw [abv_of ok hj]; exact hn⟩
/-- All places of a valid plate are full. -/
theorem lies_num {s : Shape} {l : List Plate} {c : Laid} (h : liesB s l c = true) {x y z : Int} (hh : hasB l c x y z = true) : 0 ≤ s.num x y z := by
  rw [lies_iff] at h
  obtain ⟨_, _, _, hs, hc, _⟩ := h
  rw [hasB_iff] at hh
  obtain ⟨e, hx, hy⟩ := hh
  subst e
  have := sameAll_iff.1 hs (y - c.y).toNat (by omega) (x - c.x).toNat (by omega)
  rw [show c.x + ((x - c.x).toNat : Int) = x by omega, show c.y + ((y - c.y).toNat : Int) = y by omega] at this
  rw [Shape.num_iff, this]
  exact hc
theorem touch_iff {s : Shape} {l : List Plate} {a b : Laid} {m k : Nat} (ok : s.Ok) (hm : coverOf s l a = some m) (hk : coverOf s l b = some k) (ha : liesB s l a = true) (hb : liesB s l b = true) (hlt : m < 2 ^ 32) (hlt2 : k < 2 ^ 32) :
    (k &&& upN (abv s) m ≠ 0 ∨ m &&& upN (abv s) k ≠ 0) ↔ touchP s l a b := by
  rw [up_iff ok hm hk hlt, up_iff ok hk hm hlt2]
  constructor
  · rintro (⟨x, y, z, h1, h2, h3, h4⟩ | ⟨x, y, z, h1, h2, h3, h4⟩)
    · exact ⟨x, y, z, num_in (by omega), h2, Or.inl h4⟩
    · exact ⟨x, y, z + 1, num_in (by omega), h4, Or.inr (by rw [show z + 1 - 1 = z by omega]; exact h2)⟩
  · rintro ⟨x, y, z, h1, h2, h3 | h3⟩
    · exact Or.inl ⟨x, y, z, lies_num ha h2, h2, lies_num hb h3, h3⟩
    · refine Or.inr ⟨x, y, z - 1, lies_num hb h3, h3, ?_, ?_⟩
      · rw [show z - 1 + 1 = z by omega]
        exact lies_num ha h2
      · rw [show z - 1 + 1 = z by omega]
        exact h2
end Go.Proofs.Ytpikemglnnjemaa
