/- math/bits.TrailingZeros32, where its table reads as the text lays it. The set that hangs grows, of sets: what it is when nothing more is added. The search for compositions: plain. -/
import Derived.Test.YtaaeapjnjjbglaaGreatDoorCd11
import Derived.Test.YtaaeapjnjjbglaaGreatDoorCd21
import Derived.Test.YtaaeapjnjjbglaaGreatDoorCd32
import Derived.Test.YtaaeapjnjjbglaaGreatDoorCd46
import Derived.Shelf.Spec.TrailingZeros

namespace Go.Proofs.YtaaeapjnjjbglaaGreatDoor
open Go.RowKit

def TzTab (w : World) : Prop := TabAt 0 Lib.deBruijn32tab w
set_option maxHeartbeats 1000000 in
theorem tz_core (x k idx : Nat) (w : World) (hx0 : ((x : Int) == 0) = false)
    (key : bits BinOp.and IntKind.u32 (x : Int) (-(x : Int) % 4294967296) * 125613361 % 4294967296 / 134217728 = (idx : Int))
    (hi : idx < 32) (hk : k < 32) (hcell : w.cell? ⟨0, idx, none⟩ = some (.int .u8 k)) :
    Calls Tryz.prog 65 #[.int .u32 x] w fun e w' => e = .returned (.int .i64 k) ∧ w' = w := by
  go_enter Tryz.func65, Tryz.ntmps65
  go_wp2_with (simp only [key])
  go_ret
  exact ⟨rfl, rfl⟩
theorem tz_c (x : Nat) (h0 : x ≠ 0) (hx : x < 4294967296) (w : World) (hT : TzTab w) :
    Calls Tryz.prog 65 #[.int .u32 x] w fun e w' => e = .returned (.int .i64 (Lib.ctz 32 x)) ∧ w' = w := by
  obtain ⟨hlow, hk⟩ := Lib.lowest_bit 32 x h0 hx
  obtain ⟨hi, htab⟩ := Lib.deBruijn32_at _ hk
  have hcell := hT _ hi
  rw [htab] at hcell
  exact tz_core x _ _ w (by simp; omega) (tz32_key x _ hx h0 hlow) hi hk hcell
theorem TzTab.ext {w w' : World} (h : TzTab w) (e : Ext w w') : TzTab w' := fun j hj => e.cell (h j hj)
end Go.Proofs.YtaaeapjnjjbglaaGreatDoor

namespace Go.Proofs.YtaaeapjnjjbglaaGreatDoor
open Go.RowKit

def outAt (out : List Nat) (i : Nat) : Nat := out.getD i 0
/-- A plate that is not in touches one that is. -/
def condU (ab : List Int) (k m : Nat) : Bool := decide (k &&& m = 0) && (decide (k &&& upN ab m ≠ 0) || decide (upN ab k &&& m ≠ 0))
/-- Plates laid apart, that cover all. -/
structure Apart (s : Shape) (l : List Plate) (c : List Laid) (out : List Nat) : Prop where
  ok : s.Ok
  len : out.length = c.length
  pos : 0 < c.length
  cover : ∀ i, i < c.length → coverOf s l (laidAt c i) = some (outAt out i)
  lies : ∀ i, i < c.length → liesB s l (laidAt c i) = true
  some : ∀ i, i < c.length → ∃ b, (outAt out i).testBit b = true
  apart : ∀ i j b, i < c.length → j < c.length → (outAt out i).testBit b = true → (outAt out j).testBit b = true → i = j
  all : ∀ b, b < fullN s.cells → ∃ i, i < c.length ∧ (outAt out i).testBit b = true
  lt : ∀ i b, i < c.length → (outAt out i).testBit b = true → b < fullN s.cells

/-- The plates of S are in m; S is in every closed set of plates that has the first one. -/
structure InS (s : Shape) (l : List Plate) (c : List Laid) (out : List Nat) (m : Nat) (S : Nat → Prop) : Prop where
  zero : S 0
  bits : ∀ b, m.testBit b = true ↔ ∃ i, i < c.length ∧ S i ∧ (outAt out i).testBit b = true
  min : ∀ R : Nat → Prop, R 0 → (∀ i j, i < c.length → j < c.length → R i → Tl s l c i j → R j) → ∀ i, i < c.length → S i → R i
def InU (s : Shape) (l : List Plate) (c : List Laid) (out : List Nat) (m : Nat) : Prop := ∃ S, InS s l c out m S

variable {s : Shape} {l : List Plate} {c : List Laid} {out : List Nat} {m : Nat}
theorem InU.start (ha : Apart s l c out) : InU s l c out (outAt out 0) := by
  refine ⟨fun i => i = 0, rfl, fun b => ⟨fun h => ⟨0, ha.pos, rfl, h⟩, ?_⟩, fun R h0 _ i _ hi => by rw [hi]; exact h0⟩
  rintro ⟨i, _, rfl, h⟩
  exact h
theorem InU.lt (ha : Apart s l c out) (h : InU s l c out m) {b : Nat} (hb : m.testBit b = true) : b < fullN s.cells := by
  obtain ⟨S, hS⟩ := h
  obtain ⟨i, hi, _, hb'⟩ := (hS.bits b).1 hb
  exact ha.lt i b hi hb'
theorem InU.small (ha : Apart s l c out) (h : InU s l c out m) : m < 65536 := by
  have : m < 2 ^ 16 := by
    apply Nat.lt_pow_two_of_testBit
    intro i hi
    cases hb : m.testBit i
    · rfl
    · have := InU.lt ha h hb
      have := ha.ok.full
      omega
  omega
theorem Apart.small (ha : Apart s l c out) {i : Nat} (hi : i < c.length) : outAt out i < 65536 := cover_small ha.ok (ha.cover i hi)
theorem bit_lt {m b : Nat} (hm : m < 65536) (hb : m.testBit b = true) : b < 32 := by
  rcases Nat.lt_or_ge b 32 with h | h
  · exact h
  · have : m < 2 ^ b := Nat.lt_of_lt_of_le (by omega : m < 2 ^ 32) (Nat.pow_le_pow_right (by omega) h)
    rw [Nat.testBit_lt_two_pow this] at hb
    cases hb
/-- A plate is in, or has nothing in it. -/
theorem InS.zero_iff (ha : Apart s l c out) {S : Nat → Prop} (h : InS s l c out m S) {k : Nat} (hk : k < c.length) : outAt out k &&& m = 0 ↔ ¬ S k := by
  rw [and_zero]
  constructor
  · intro h1 hS
    obtain ⟨b, hb⟩ := ha.some k hk
    exact h1 b hb ((h.bits b).2 ⟨k, hk, hS, hb⟩)
  · intro hS b hb hm
    obtain ⟨i, hi, hSi, hbi⟩ := (h.bits b).1 hm
    rw [ha.apart i k b hi hk hbi hb] at hSi
    exact hS hSi
theorem cond_touch (ha : Apart s l c out) {S : Nat → Prop} (h : InS s l c out m S) {k : Nat} (hk : k < c.length) : (outAt out k &&& upN (abv s) m ≠ 0 ∨ upN (abv s) (outAt out k) &&& m ≠ 0) ↔ ∃ i, i < c.length ∧ S i ∧ Tl s l c i k := by
  have hm32 : m < 2 ^ 32 := by have := InU.small ha ⟨S, h⟩; omega
  have hk32 : outAt out k < 2 ^ 32 := by have := ha.small hk; omega
  have nz : ∀ {a b : Nat}, a &&& b ≠ 0 ↔ ∃ t, a.testBit t = true ∧ b.testBit t = true := fun {a b} => by
    rw [Ne, and_zero, Classical.not_forall]
    constructor
    · rintro ⟨t, ht⟩
      rw [Classical.not_imp] at ht
      exact ⟨t, ht.1, Classical.not_not.1 ht.2⟩
    · rintro ⟨t, h1, h2⟩
      exact ⟨t, fun f => f h1 h2⟩
  have tl : ∀ i, i < c.length → (Tl s l c i k ↔ outAt out k &&& upN (abv s) (outAt out i) ≠ 0 ∨ outAt out i &&& upN (abv s) (outAt out k) ≠ 0) := fun i hi => by
    have hi32 : outAt out i < 2 ^ 32 := by have := ha.small hi; omega
    rw [touch_iff ha.ok (ha.cover i hi) (ha.cover k hk) (ha.lies i hi) (ha.lies k hk) hi32 hk32]
    exact touchB_iff
  constructor
  · rintro (h1 | h1)
    · obtain ⟨t, h2, h3⟩ := nz.1 h1
      rw [upN_bits hm32] at h3
      obtain ⟨n, hn, e⟩ := h3
      obtain ⟨i, hi, hSi, hbi⟩ := (h.bits n).1 hn
      have hi32 : outAt out i < 2 ^ 32 := by have := ha.small hi; omega
      exact ⟨i, hi, hSi, (tl i hi).2 (Or.inl (nz.2 ⟨t, h2, (upN_bits hi32).2 ⟨n, hbi, e⟩⟩))⟩
    · obtain ⟨t, h2, h3⟩ := nz.1 h1
      obtain ⟨i, hi, hSi, hbi⟩ := (h.bits t).1 h3
      exact ⟨i, hi, hSi, (tl i hi).2 (Or.inr (nz.2 ⟨t, hbi, h2⟩))⟩
  · rintro ⟨i, hi, hSi, ht⟩
    have hi32 : outAt out i < 2 ^ 32 := by have := ha.small hi; omega
    rcases (tl i hi).1 ht with h1 | h1
    · obtain ⟨t, h2, h3⟩ := nz.1 h1
      rw [upN_bits hi32] at h3
      obtain ⟨n, hn, e⟩ := h3
      exact Or.inl (nz.2 ⟨t, h2, (upN_bits hm32).2 ⟨n, (h.bits n).2 ⟨i, hi, hSi, hn⟩, e⟩⟩)
    · obtain ⟨t, h2, h3⟩ := nz.1 h1
      exact Or.inr (nz.2 ⟨t, h3, (h.bits t).2 ⟨i, hi, hSi, h2⟩⟩)
theorem condU_iff {ab : List Int} {k m : Nat} : condU ab k m = true ↔ k &&& m = 0 ∧ (k &&& upN ab m ≠ 0 ∨ upN ab k &&& m ≠ 0) := by simp [condU]
theorem InU.step (ha : Apart s l c out) (h : InU s l c out m) {k : Nat} (hk : k < c.length) (hc : condU (abv s) (outAt out k) m = true) : InU s l c out (m ||| outAt out k) ∧ m < m ||| outAt out k := by
  obtain ⟨S, hS⟩ := h
  obtain ⟨h1, h2⟩ := condU_iff.1 hc
  obtain ⟨i, hi, hSi, ht⟩ := (cond_touch ha hS hk).1 h2
  refine ⟨⟨fun j => S j ∨ j = k, Or.inl hS.zero, fun b => ?_, fun R h0 hR j hj hSj => ?_⟩, ?_⟩
  · rw [Nat.testBit_or, Bool.or_eq_true, hS.bits]
    constructor
    · rintro (⟨j, hj, hSj, hb⟩ | hb)
      · exact ⟨j, hj, Or.inl hSj, hb⟩
      · exact ⟨k, hk, Or.inr rfl, hb⟩
    · rintro ⟨j, hj, hSj | rfl, hb⟩
      · exact Or.inl ⟨j, hj, hSj, hb⟩
      · exact Or.inr hb
  · rcases hSj with hSj | rfl
    · exact hS.min R h0 hR j hj hSj
    · exact hR i j hi hj (hS.min R h0 hR i hi hSi) ht
  · have hle : m ≤ m ||| outAt out k := Nat.left_le_or
    rcases Nat.lt_or_ge m (m ||| outAt out k) with h | h
    · exact h
    · exfalso
      have e : m ||| outAt out k = m := by omega
      obtain ⟨b, hb⟩ := ha.some k hk
      have : (m ||| outAt out k).testBit b = true := by rw [Nat.testBit_or, hb, Bool.or_true]
      rw [e] at this
      rw [and_zero] at h1
      exact h1 b hb this
theorem InU.done (ha : Apart s l c out) (h : InU s l c out m) (hno : ∀ k, k < c.length → condU (abv s) (outAt out k) m = false) : hangB s l c = decide (pop m = fullN s.cells) := by
  have hlt := fun b => InU.lt ha h (b := b)
  obtain ⟨S, hS⟩ := h
  have hcl : ∀ i j, i < c.length → j < c.length → S i → Tl s l c i j → S j := fun i j hi hj hSi ht => by
    apply Classical.byContradiction
    intro hn
    have := hno j hj
    rw [condU_iff.2 ⟨(hS.zero_iff ha hj).2 hn, (cond_touch ha hS hj).2 ⟨i, hi, hSi, ht⟩⟩] at this
    cases this
  have hconn := conn_of (n := c.length) (T := Tl s l c) (S := S) hS.zero hcl hS.min
  have hpop := pop_full (m := m) (n := fullN s.cells) (by have := ha.ok.full; omega) hlt
  unfold hangB
  rw [decide_eq_decide]
  rw [hconn, hpop]
  constructor
  · intro hall b hb
    obtain ⟨i, hi, hbi⟩ := ha.all b hb
    exact (hS.bits b).2 ⟨i, hi, hall i hi, hbi⟩
  · intro hall i hi
    obtain ⟨b, hb⟩ := ha.some i hi
    obtain ⟨j, hj, hSj, hbj⟩ := (hS.bits b).1 (hall b (ha.lt i b hi hb))
    rwa [ha.apart i j b hi hj hb hbj]
theorem apart_of {all : Nat} (ok : s.Ok) (okl : platesB l = true) (hpos : 0 < c.length) (h : SetIs s l c c.length out all) (hall : all = 2 ^ fullN s.cells - 1) : Apart s l c out := by
  refine ⟨ok, h.len, hpos, h.cover, fun i hi => h.lies hi, fun i hi => ?_, fun i j b hi hj hbi hbj => ?_, fun b hb => ?_, fun i b hi hb => (cover_lt ok (h.cover i hi) hb).1⟩
  · have hl := h.lies hi
    obtain ⟨hn, _⟩ := lies_cover.1 hl
    obtain ⟨b, hb⟩ := Int.eq_ofNat_of_zero_le hn
    refine ⟨b, (cover_bits ok (h.cover i hi) hb).2 ?_⟩
    obtain ⟨hp, _⟩ := lies_iff.1 hl
    have hget : l[(laidAt c i).plate.toNat]? = some (plateAt l (laidAt c i).plate.toNat) := by
      have hlt : (laidAt c i).plate.toNat < l.length := by omega
      have := List.getElem?_eq_getElem hlt
      rw [this, plateAt_eq this]
    have okp := plate_ok okl hget
    have h1 := okp.w
    have h2 := okp.d
    rw [hasB_iff]
    unfold sizeW sizeD
    refine ⟨rfl, ?_, ?_⟩ <;> split <;> omega
  · rcases Nat.lt_trichotomy i j with h' | h' | h'
    · exact (h.apart i j h' hj b hbi hbj).elim
    · exact h'
    · exact (h.apart j i h' hi b hbj hbi).elim
  · have hbit : all.testBit b = true := by
      rw [hall, Nat.testBit_two_pow_sub_one]
      simpa using hb
    exact (h.bits b).1 hbit

/-! ### one pass -/
structure PassU (s : Shape) (l : List Plate) (c : List Laid) (out : List Nat) (m0 m : Nat) (b : Bool) (k : Nat) : Prop where
  inu : InU s l c out m
  le : m0 ≤ m
  yes : b = true → m0 < m
  no : b = false → ∀ j, j < k → condU (abv s) (outAt out j) m = false
theorem PassU.start (h : InU s l c out m) : PassU s l c out m m false 0 := ⟨h, Nat.le_refl _, (fun h => by cases h), fun _ j hj => by omega⟩
theorem PassU.same {m0 k : Nat} {b : Bool} (h : PassU s l c out m0 m b k) (hc : condU (abv s) (outAt out k) m = false) : PassU s l c out m0 m b (k + 1) :=
  ⟨h.inu, h.le, h.yes, fun hb j hj => by
    rcases Nat.lt_or_ge j k with h' | h'
    · exact h.no hb j h'
    · obtain rfl : j = k := by omega
      exact hc⟩
theorem PassU.more {m0 k : Nat} {b : Bool} (ha : Apart s l c out) (h : PassU s l c out m0 m b k) (hk : k < c.length) (hc : condU (abv s) (outAt out k) m = true) : PassU s l c out m0 (m ||| outAt out k) true (k + 1) := by
  obtain ⟨h1, h2⟩ := h.inu.step ha hk hc
  have := h.le
  exact ⟨h1, by omega, fun _ => by omega, fun h => by cases h⟩
end Go.Proofs.YtaaeapjnjjbglaaGreatDoor

namespace Go.Proofs.YtaaeapjnjjbglaaGreatDoor
open Go.RowKit

/-! ### the lowest cell that is not covered -/
def lowZ (cov : Nat) : Nat := Lib.ctz 32 (4294967295 - cov)
theorem lowZ_spec {cov : Nat} (h : cov < 65536) : cov.testBit (lowZ cov) = false ∧ lowZ cov < 32 ∧ ∀ j, j < lowZ cov → cov.testBit j = true := by
  obtain ⟨h1, h2, h3, _⟩ := low_bits (x := 4294967295 - cov) (by omega) (by omega)
  have e : ∀ j, (4294967295 - cov).testBit j = (decide (j < 32) && !cov.testBit j) := fun j => by
    have := Nat.testBit_two_pow_sub_succ (n := 32) (x := cov) (by omega) j
    rw [show 2 ^ 32 - (cov + 1) = 4294967295 - cov by omega] at this
    exact this
  refine ⟨?_, h2, fun j hj => ?_⟩
  · have := h1
    rw [e] at this
    simp only [Bool.and_eq_true, Bool.not_eq_true', decide_eq_true_eq] at this
    exact this.2
  · have := h3 j hj
    rw [e] at this
    have hj32 : decide (j < 32) = true := by
      have : j < 32 := Nat.lt_trans hj h2
      simpa using this
    rw [hj32, Bool.true_and] at this
    simpa using this
theorem lowZ_eq {cov n : Nat} (h : cov < 65536) (h1 : cov.testBit n = false) (h2 : ∀ j, j < n → cov.testBit j = true) : lowZ cov = n := by
  obtain ⟨a, _, b⟩ := lowZ_spec h
  rcases Nat.lt_trichotomy (lowZ cov) n with h' | h' | h'
  · rw [h2 _ h'] at a
    cases a
  · exact h'
  · rw [b _ h'] at h1
    cases h1

/-! ### plates at a place -/
def placeN (s : Shape) (n : Nat) : Nat := (placesS s s.cells.length).getD n 0
def laidN (s : Shape) (n i : Nat) (t : Bool) : Laid := ⟨i, s.px (placeN s n), s.py (placeN s n), s.pz (placeN s n), t⟩
theorem place_num {s : Shape} (ok : s.Ok) {n : Nat} (hn : n < fullN s.cells) : placeN s n < s.cells.length ∧ numOf s.cells (placeN s n) = n ∧ s.num (s.px (placeN s n)) (s.py (placeN s n)) (s.pz (placeN s n)) = n ∧ (placesS s s.cells.length)[n]? = some (placeN s n) := by
  obtain ⟨i, hi, e⟩ := numOf_surj (cs := s.cells) (k := s.cells.length) (b := n) (Nat.le_refl _) (by rw [List.take_length]; exact hn)
  have hg := placesS_get (s := s) (Nat.le_refl _) hi (by omega)
  rw [e, Int.toNat_natCast] at hg
  have hp : placeN s n = i := by
    unfold placeN
    rw [List.getD_eq_getElem?_getD, hg]
    rfl
  rw [hp]
  exact ⟨hi, e, by rw [num_place ok hi]; exact e, hg⟩
theorem cover_laidN {s : Shape} {l : List Plate} (ok : s.Ok) {n : Nat} (hn : n < fullN s.cells) (i : Nat) (t : Bool) : layAt s l (placeN s n) ((i : Int), t) = coverOf s l (laidN s n i t) := by
  obtain ⟨h1, h2, h3, _⟩ := place_num ok hn
  obtain ⟨p1, p2⟩ := s.place_in ok h1
  unfold layAt coverOf laidN Shape.colorAt
  simp only
  rw [if_pos p1, p2, Int.toNat_natCast]
/-- Whoever is at the place n is one of these. -/
theorem laidN_of {s : Shape} (ok : s.Ok) {x : Laid} {n : Nat} (hx : numL s x = n) (hp : 0 ≤ x.plate) : x = laidN s n x.plate.toNat x.turned := by
  have hn : n < fullN s.cells := by
    have := num_lt_full ok x.x x.y x.z
    unfold numL at hx
    omega
  obtain ⟨_, _, h3, _⟩ := place_num ok hn
  have hx' : s.num x.x x.y x.z = n := hx
  obtain ⟨e1, e2, e3⟩ := s.num_inj ok (by omega) (hx'.trans h3.symm)
  unfold laidN
  obtain ⟨p, a, b, c, t⟩ := x
  simp only at e1 e2 e3 hp ⊢
  rw [← e1, ← e2, ← e3, Int.toNat_of_nonneg hp]
theorem idx_le {s : Shape} (ok : s.Ok) {x y x' y' z : Int} (hx : x ≤ x') (hy : y ≤ y') : s.idx x y z ≤ s.idx x' y' z := by
  have w1 := ok.w
  unfold Shape.idx
  have : (z * s.D + y) * s.W ≤ (z * s.D + y') * s.W := Int.mul_le_mul_of_nonneg_right (by omega) (by omega)
  omega
/-- All cells of a plate have numbers from that of its place on. -/
theorem cover_ge {s : Shape} {l : List Plate} {x : Laid} {m b : Nat} (ok : s.Ok) (hm : coverOf s l x = some m) (h0 : 0 ≤ numL s x) (hb : m.testBit b = true) : numL s x ≤ b := by
  obtain ⟨_, u, v, z, hn⟩ := cover_lt ok hm hb
  have hh := (cover_bits ok hm hn).1 hb
  rw [hasB_iff] at hh
  obtain ⟨rfl, hx, hy⟩ := hh
  have i1 : s.inside x.x x.y x.z = true := num_in (by unfold numL at h0; omega)
  have i2 : s.inside u v x.z = true := num_in (by omega)
  have d1 := s.idx_in ok i1
  have d2 := s.idx_in ok i2
  have hle := idx_le ok (z := x.z) hx.1 hy.1
  unfold numL at h0 ⊢
  rw [← hn]
  rw [s.num_eq i1] at h0 ⊢
  rw [s.num_eq i2] at hn ⊢
  rcases Nat.lt_or_ge (s.idx x.x x.y x.z).toNat (s.idx u v x.z).toNat with h | h
  · have := (numOf_lt h0 (by omega)).2 h
    omega
  · have : (s.idx x.x x.y x.z).toNat = (s.idx u v x.z).toNat := by omega
    rw [this]
    exact Int.le_refl _
theorem cover_plate {s : Shape} {l : List Plate} {x : Laid} {m : Nat} (hm : coverOf s l x = some m) : 0 ≤ x.plate ∧ x.plate < l.length := by
  unfold coverOf layF at hm
  split at hm
  · assumption
  · cases hm
/-- A plate covers its own place. -/
theorem cover_self {s : Shape} {l : List Plate} {x : Laid} {m b : Nat} (ok : s.Ok) (okl : platesB l = true) (hm : coverOf s l x = some m) (hb : numL s x = b) : m.testBit b = true := by
  refine (cover_bits ok hm hb).2 ?_
  have hp := cover_plate hm
  have hget : l[x.plate.toNat]? = some (plateAt l x.plate.toNat) := by
    have hlt : x.plate.toNat < l.length := by omega
    have := List.getElem?_eq_getElem hlt
    rw [this, plateAt_eq this]
  have okp := plate_ok okl hget
  have h1 := okp.w
  have h2 := okp.d
  rw [hasB_iff]
  unfold sizeW sizeD
  refine ⟨rfl, ?_, ?_⟩ <;> split <;> omega

/-! ### what a beginning of a composition is -/
theorem laidAt_append {c d : List Laid} {k : Nat} (h : k < c.length) : laidAt (c ++ d) k = laidAt c k := by
  unfold laidAt
  rw [List.getD_eq_getElem?_getD, List.getD_eq_getElem?_getD, List.getElem?_append_left h]
theorem laidAt_mid (c : List Laid) (x : Laid) (d : List Laid) : laidAt (c ++ x :: d) c.length = x := by
  unfold laidAt
  rw [List.getD_eq_getElem?_getD, List.getElem?_append_right (Nat.le_refl _), Nat.sub_self]
  rfl
theorem usedN_append {c d : List Laid} {k : Nat} (h : k ≤ c.length) (p : Int) : usedN (c ++ d) k p = usedN c k p := by
  unfold usedN
  rw [List.take_append_of_le_length h]
theorem prevNum_append {s : Shape} {c d : List Laid} {k : Nat} (h : k ≤ c.length) : prevNum s (c ++ d) k = prevNum s c k := by
  cases k with
  | zero => rfl
  | succ k => show numL s _ = numL s _; rw [laidAt_append h]
theorem setRun_append {s : Shape} {l : List Plate} {c d : List Laid} : ∀ {k : Nat}, k ≤ c.length → setRun s l (c ++ d) k = setRun s l c k
  | 0, _ => rfl
  | k + 1, h => by
    show (setRun s l (c ++ d) k).bind (setStep s l (c ++ d) k) = (setRun s l c k).bind (setStep s l c k)
    rw [setRun_append (by omega)]
    congr 1
    funext st
    unfold setStep
    rw [laidAt_append h, prevNum_append (by omega), usedN_append h]
def nextOk (s : Shape) (l : List Plate) (c : List Laid) (cov : Nat) (x : Laid) (m : Nat) : Prop :=
  prevNum s c c.length < numL s x ∧ coverOf s l x = some m ∧ m &&& cov = 0 ∧ ((usedN c c.length x.plate : Int) + 1 ≤ (plateAt l x.plate.toNat).N)
theorem usedN_snoc (c : List Laid) (x : Laid) (d : List Laid) : usedN (c ++ x :: d) (c.length + 1) x.plate = usedN c c.length x.plate + 1 := by
  have h : (c ++ x :: d)[c.length]? = some x := by
    rw [List.getElem?_append_right (Nat.le_refl _), Nat.sub_self]
    rfl
  have := usedN_succ h x.plate
  rw [this, if_pos rfl, usedN_append (Nat.le_refl _)]
theorem setRun_step {s : Shape} {l : List Plate} {c d : List Laid} {all : List Nat} {cov : Nat} {x : Laid} (h : setRun s l c c.length = some (all, cov)) :
    (∀ m, nextOk s l c cov x m → setRun s l (c ++ x :: d) (c.length + 1) = some (all ++ [m], cov ||| m)) ∧
    (∀ st, setRun s l (c ++ x :: d) (c.length + 1) = some st → ∃ m, nextOk s l c cov x m ∧ st = (all ++ [m], cov ||| m)) := by
  have e : setRun s l (c ++ x :: d) (c.length + 1) = setStep s l (c ++ x :: d) c.length (all, cov) := by
    have h' : setRun s l (c ++ x :: d) c.length = some (all, cov) := by rw [setRun_append (Nat.le_refl _)]; exact h
    exact runs_succ h'
  rw [e]
  unfold setStep nextOk
  rw [laidAt_mid, prevNum_append (Nat.le_refl _), usedN_snoc]
  constructor
  · rintro m ⟨h1, h2, h3, h4⟩
    rw [if_neg (by omega), h2]
    show (if m &&& cov ≠ 0 ∨ _ then _ else _) = _
    rw [if_neg]
    rintro (h | h)
    · exact h h3
    · push_cast at h
      omega
  · intro st hst
    split at hst
    · cases hst
    · rename_i h1
      split at hst
      · cases hst
      · rename_i m hm
        split at hst
        · cases hst
        · rename_i hg
          rw [not_or] at hg
          cases hst
          refine ⟨m, ⟨by omega, hm, Classical.not_not.1 hg.1, ?_⟩, rfl⟩
          have := hg.2
          push_cast at this
          omega

/-- A beginning of a composition: all below its lowest free cell is covered, by plates that lie there. -/
structure Part (s : Shape) (l : List Plate) (c : List Laid) (all : List Nat) (cov : Nat) : Prop where
  run : setRun s l c c.length = some (all, cov)
  last : prevNum s c c.length < lowZ cov
theorem Part.is {s : Shape} {l : List Plate} {c : List Laid} {all : List Nat} {cov : Nat} (h : Part s l c all cov) : SetIs s l c c.length all cov := setRun_is h.run
theorem SetIs.small {s : Shape} {l : List Plate} {c : List Laid} {k : Nat} {all : List Nat} {cov : Nat} (ok : s.Ok) (h : SetIs s l c k all cov) : cov < 65536 := by
  have : cov < 2 ^ 16 := by
    apply Nat.lt_pow_two_of_testBit
    intro i hi
    cases hb : cov.testBit i
    · rfl
    · obtain ⟨j, hj, e⟩ := (h.bits i).1 hb
      have := (cover_lt ok (h.cover j hj) e).1
      have := ok.full
      omega
  omega
theorem SetIs.bit_lt {s : Shape} {l : List Plate} {c : List Laid} {k : Nat} {all : List Nat} {cov b : Nat} (ok : s.Ok) (h : SetIs s l c k all cov) (hb : cov.testBit b = true) : b < fullN s.cells := by
  obtain ⟨j, hj, e⟩ := (h.bits b).1 hb
  exact (cover_lt ok (h.cover j hj) e).1
theorem Part.nil (s : Shape) (l : List Plate) : Part s l [] [] 0 := ⟨rfl, by
  show (-1 : Int) < lowZ 0
  omega⟩
theorem lowZ_le {s : Shape} {l : List Plate} {c : List Laid} {k : Nat} {all : List Nat} {cov : Nat} (ok : s.Ok) (h : SetIs s l c k all cov) : lowZ cov ≤ fullN s.cells := by
  obtain ⟨_, _, h3⟩ := lowZ_spec (h.small ok)
  rcases Nat.lt_or_ge (fullN s.cells) (lowZ cov) with h' | h'
  · have := h.bit_lt ok (h3 _ h')
    omega
  · exact h'
theorem Part.add {s : Shape} {l : List Plate} {c : List Laid} {all : List Nat} {cov : Nat} (ok : s.Ok) (okl : platesB l = true) (h : Part s l c all cov) (hn : lowZ cov < fullN s.cells) {i : Nat} {t : Bool} {m : Nat} (hm : coverOf s l (laidN s (lowZ cov) i t) = some m) (hand : m &&& cov = 0)
    (hu : (usedN c c.length (i : Int) : Int) + 1 ≤ (plateAt l i).N) : Part s l (c ++ [laidN s (lowZ cov) i t]) (all ++ [m]) (cov ||| m) ∧ lowZ cov < lowZ (cov ||| m) := by
  have hnum : numL s (laidN s (lowZ cov) i t) = lowZ cov := (place_num ok hn).2.2.1
  have hno : nextOk s l c cov (laidN s (lowZ cov) i t) m := ⟨by rw [hnum]; exact h.last, hm, hand, hu⟩
  have hrun := (setRun_step (d := []) h.run).1 m hno
  have hself := cover_self ok okl hm hnum
  have hsm : cov ||| m < 65536 := by
    have h1 := h.is.small ok
    have h2 := cover_small ok hm
    have := Nat.or_lt_two_pow (x := cov) (y := m) (n := 16) (by omega) (by omega)
    omega
  have hlt : lowZ cov < lowZ (cov ||| m) := by
    obtain ⟨_, _, h3⟩ := lowZ_spec (h.is.small ok)
    obtain ⟨h4, _, _⟩ := lowZ_spec hsm
    rw [Nat.testBit_or, Bool.or_eq_false_iff] at h4
    rcases Nat.lt_trichotomy (lowZ (cov ||| m)) (lowZ cov) with h' | h' | h'
    · rw [h3 _ h'] at h4
      cases h4.1
    · rw [h', hself] at h4
      cases h4.2
    · exact h'
  refine ⟨⟨by rw [List.length_append]; exact hrun, ?_⟩, hlt⟩
  have : prevNum s (c ++ [laidN s (lowZ cov) i t]) (c ++ [laidN s (lowZ cov) i t]).length = lowZ cov := by
    rw [List.length_append]
    show numL s (laidAt (c ++ [laidN s (lowZ cov) i t]) c.length) = _
    rw [laidAt_mid, hnum]
  rw [this]
  omega
/-- The next plate of a composition lies on the lowest free cell. -/
theorem Part.next {s : Shape} {l : List Plate} {c d : List Laid} {all : List Nat} {cov : Nat} {x : Laid} {out : List Nat} (ok : s.Ok) (okl : platesB l = true) (h : Part s l c all cov)
    (hf : setRun s l (c ++ x :: d) (c ++ x :: d).length = some (out, 2 ^ fullN s.cells - 1)) :
    lowZ cov < fullN s.cells ∧ ∃ m, 0 ≤ x.plate ∧ x.plate.toNat < l.length ∧ x = laidN s (lowZ cov) x.plate.toNat x.turned ∧ coverOf s l x = some m ∧ m &&& cov = 0 ∧ (usedN c c.length x.plate : Int) + 1 ≤ (plateAt l x.plate.toNat).N := by
  have his := setRun_is hf
  have hlen : (c ++ x :: d).length = c.length + 1 + d.length := by simp; omega
  obtain ⟨st, hst⟩ := runs_prefix (f := setStep s l (c ++ x :: d)) (a := ([], 0)) hf (show c.length + 1 ≤ (c ++ x :: d).length by omega)
  obtain ⟨m, ⟨h1, h2, h3, h4⟩, _⟩ := (setRun_step h.run).2 st hst
  have hp := cover_plate h2
  have hsm := h.is.small ok
  obtain ⟨z1, z2, z3⟩ := lowZ_spec hsm
  have hx0 : 0 ≤ numL s x := by
    have := prevNum_ge s c c.length
    omega
  obtain ⟨b, hb⟩ := Int.eq_ofNat_of_zero_le hx0
  have hself := cover_self ok okl h2 hb
  have hbF : b < fullN s.cells := (cover_lt ok h2 hself).1
  have hge : lowZ cov ≤ b := by
    rcases Nat.lt_or_ge b (lowZ cov) with h' | h'
    · exact ((and_zero.1 h3) b hself (z3 b h')).elim
    · exact h'
  have hn : lowZ cov < fullN s.cells := by omega
  have hle : b ≤ lowZ cov := by
    have hbit : (2 ^ fullN s.cells - 1).testBit (lowZ cov) = true := by
      rw [Nat.testBit_two_pow_sub_one]
      simpa using hn
    obtain ⟨j, hj, e⟩ := (his.bits _).1 hbit
    have hcj := his.cover j hj
    have hnj := his.num j hj
    have hj0 : 0 ≤ numL s (laidAt (c ++ x :: d) j) := by
      have := prevNum_ge s (c ++ x :: d) j
      omega
    have hgj := cover_ge ok hcj hj0 e
    rcases Nat.lt_or_ge j c.length with h' | h'
    · exfalso
      rw [laidAt_append h'] at hcj
      have hc2 := h.is.cover j h'
      rw [hcj] at hc2
      have e2 := Option.some.inj hc2
      have : cov.testBit (lowZ cov) = true := (h.is.bits _).2 ⟨j, h', by rw [← e2]; exact e⟩
      rw [z1] at this
      cases this
    · have mono : ∀ k, c.length ≤ k → k < (c ++ x :: d).length → (b : Int) ≤ numL s (laidAt (c ++ x :: d) k) := by
        intro k
        induction k with
        | zero =>
          intro h0 hk
          have e0 : c.length = 0 := by omega
          have := laidAt_mid c x d
          rw [e0] at this
          rw [this, hb]
          exact Int.le_refl _
        | succ k ih =>
          intro hc hk
          rcases Nat.lt_or_ge k c.length with h'' | h''
          · have e0 : c.length = k + 1 := by omega
            have := laidAt_mid c x d
            rw [e0] at this
            rw [this, hb]
            exact Int.le_refl _
          · have i1 := ih h'' (by omega)
            have i2 := his.num (k + 1) hk
            have i2 : numL s (laidAt (c ++ x :: d) k) < numL s (laidAt (c ++ x :: d) (k + 1)) := i2
            omega
      have := mono j h' hj
      omega
  have hbn : b = lowZ cov := by omega
  subst hbn
  exact ⟨hn, m, hp.1, by omega, laidN_of ok hb hp.1, h2, h3, h4⟩

/-! ### all compositions, in order -/
def kidOk (s : Shape) (l : List Plate) (c : List Laid) (cov i : Nat) (t : Bool) : Option Nat :=
  match coverOf s l (laidN s (lowZ cov) i t) with
  | none => none
  | some m => if (plateAt l i).N - (usedN c c.length (i : Int) : Int) = 0 ∨ m &&& cov ≠ 0 then none else some m
/-- The sorts, in order. -/
def sorts (l : List Plate) : List (Nat × Bool) := (List.range l.length).flatMap fun i => [(i, false), (i, true)]
def comps (s : Shape) (l : List Plate) : Nat → List Laid → List Nat → Nat → List (List Laid × List Nat)
  | 0, _, _, _ => []
  | f + 1, c, all, cov => if fullN s.cells ≤ lowZ cov then [(c, all)] else
      (sorts l).flatMap fun q => match kidOk s l c cov q.1 q.2 with
        | none => []
        | some m => comps s l f (c ++ [laidN s (lowZ cov) q.1 q.2]) (all ++ [m]) (cov ||| m)
theorem mem_sorts {l : List Plate} {i : Nat} {t : Bool} : (i, t) ∈ sorts l ↔ i < l.length := by
  unfold sorts
  rw [List.mem_flatMap]
  constructor
  · rintro ⟨j, hj, h⟩
    rw [List.mem_range] at hj
    simp only [List.mem_cons, List.not_mem_nil, or_false, Prod.mk.injEq] at h
    omega
  · intro h
    refine ⟨i, List.mem_range.2 h, ?_⟩
    cases t <;> simp
theorem usedN_le_N {s : Shape} {l : List Plate} {c : List Laid} {k : Nat} {out : List Nat} {all : Nat} (okl : platesB l = true) (h : SetIs s l c k out all) {i : Nat} (hi : i < l.length) : (usedN c k (i : Int) : Int) ≤ (plateAt l i).N := by
  have hget : l[i]? = some (plateAt l i) := by
    have := List.getElem?_eq_getElem hi
    rw [this, plateAt_eq this]
  have okp := (plate_ok okl hget).n
  -- the last one of that sort
  have key : ∀ j, j ≤ k → (usedN c j (i : Int) : Int) ≤ (plateAt l i).N := by
    intro j
    induction j with
    | zero =>
      intro _
      unfold usedN
      simp
      exact okp.1
    | succ j ih =>
      intro hj
      by_cases hp : (laidAt c j).plate = i
      · have := h.used j (by omega)
        rw [hp, Int.toNat_natCast] at this
        exact this
      · have ih := ih (by omega)
        unfold usedN at ih ⊢
        rw [List.take_add_one]
        cases hc : c[j]? with
        | none => simpa using ih
        | some x =>
          have hx : laidAt c j = x := laidAt_eq hc
          rw [hx] at hp
          rw [List.countP_append]
          simp only [Option.toList_some, List.countP_singleton, decide_eq_true_eq, hp, if_false, Nat.add_zero]
          exact ih
  exact key k (Nat.le_refl _)
theorem kidOk_some {s : Shape} {l : List Plate} {c : List Laid} {all : List Nat} {cov i : Nat} {t : Bool} {m : Nat} (okl : platesB l = true) (h : Part s l c all cov) (hi : i < l.length) :
    kidOk s l c cov i t = some m ↔ coverOf s l (laidN s (lowZ cov) i t) = some m ∧ m &&& cov = 0 ∧ (usedN c c.length (i : Int) : Int) + 1 ≤ (plateAt l i).N := by
  have hu := usedN_le_N okl h.is hi
  unfold kidOk
  constructor
  · intro hk
    split at hk
    · cases hk
    · rename_i m' hm
      split at hk
      · cases hk
      · rename_i hg
        rw [not_or] at hg
        cases hk
        exact ⟨hm, Classical.not_not.1 hg.2, by have := hg.1; omega⟩
  · rintro ⟨h1, h2, h3⟩
    rw [h1]
    show (if _ then _ else _) = _
    rw [if_neg]
    rintro (h | h)
    · omega
    · exact h h2
theorem full_of_low {s : Shape} {l : List Plate} {c : List Laid} {k : Nat} {all : List Nat} {cov : Nat} (ok : s.Ok) (h : SetIs s l c k all cov) (hf : fullN s.cells ≤ lowZ cov) : cov = 2 ^ fullN s.cells - 1 := by
  obtain ⟨_, _, h3⟩ := lowZ_spec (h.small ok)
  exact (full_bits (fun b hb => h.bit_lt ok hb)).2 fun b hb => h3 b (by omega)
theorem low_of_full {s : Shape} (ok : s.Ok) : lowZ (2 ^ fullN s.cells - 1) = fullN s.cells := by
  have h2 : 2 ^ fullN s.cells ≤ 2 ^ 16 := Nat.pow_le_pow_right (by omega) ok.full.2
  refine lowZ_eq (by omega) ?_ fun j hj => ?_
  · rw [Nat.testBit_two_pow_sub_one]
    simp
  · rw [Nat.testBit_two_pow_sub_one]
    simpa using hj
/-- What the search finds are just the compositions that begin so. -/
theorem mem_comps {s : Shape} {l : List Plate} (ok : s.Ok) (okl : platesB l = true) : ∀ {f : Nat} {c : List Laid} {all : List Nat} {cov : Nat} {c' : List Laid} {out : List Nat}, Part s l c all cov → fullN s.cells + 1 ≤ f + lowZ cov →
    ((c', out) ∈ comps s l f c all cov ↔ c <+: c' ∧ setRun s l c' c'.length = some (out, 2 ^ fullN s.cells - 1))
  | 0, c, all, cov, c', out, h, hf => by
    have := lowZ_le ok h.is
    omega
  | f + 1, c, all, cov, c', out, h, hf => by
    unfold comps
    by_cases hfull : fullN s.cells ≤ lowZ cov
    · rw [if_pos hfull, List.mem_singleton]
      have hcov := full_of_low ok h.is hfull
      constructor
      · intro e
        cases e
        exact ⟨List.prefix_refl _, by rw [h.run, hcov]⟩
      · rintro ⟨⟨d, rfl⟩, hrun⟩
        cases d with
        | nil =>
          rw [List.append_nil, h.run] at hrun
          rw [List.append_nil]
          simp only [Option.some.injEq, Prod.mk.injEq] at hrun
          rw [hrun.1]
        | cons x d =>
          have := (h.next ok okl hrun).1
          omega
    · rw [if_neg hfull, List.mem_flatMap]
      constructor
      · rintro ⟨⟨i, t⟩, hq, hm⟩
        have hi := mem_sorts.1 hq
        split at hm
        · simp at hm
        · rename_i m hk
          have hk := (kidOk_some okl h hi).1 hk
          obtain ⟨hp, hlt⟩ := h.add ok okl (by omega) hk.1 hk.2.1 hk.2.2
          obtain ⟨h1, h2⟩ := (mem_comps ok okl hp (by omega)).1 hm
          exact ⟨(List.prefix_append _ _).trans h1, h2⟩
      · rintro ⟨⟨d, rfl⟩, hrun⟩
        cases d with
        | nil =>
          rw [List.append_nil, h.run] at hrun
          simp only [Option.some.injEq, Prod.mk.injEq] at hrun
          have := low_of_full ok
          rw [← hrun.2] at this
          omega
        | cons x d =>
          obtain ⟨hn, m, p1, p2, hx, h1, h2, h3⟩ := h.next ok okl hrun
          refine ⟨(x.plate.toNat, x.turned), mem_sorts.2 p2, ?_⟩
          have hpl : ((x.plate.toNat : Nat) : Int) = x.plate := by omega
          have hk : kidOk s l c cov x.plate.toNat x.turned = some m := (kidOk_some okl h p2).2 ⟨by rw [← hx]; exact h1, h2, by rw [hpl]; exact h3⟩
          rw [hk]
          obtain ⟨hp, hlt⟩ := h.add ok okl hn (i := x.plate.toNat) (t := x.turned) (by rw [← hx]; exact h1) h2 (by rw [hpl]; exact h3)
          refine (mem_comps ok okl hp (by omega)).2 ?_
          rw [← hx]
          refine ⟨⟨d, by simp⟩, ?_⟩
          exact hrun
end Go.Proofs.YtaaeapjnjjbglaaGreatDoor
