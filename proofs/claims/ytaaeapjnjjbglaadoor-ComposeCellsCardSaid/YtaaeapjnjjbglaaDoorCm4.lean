/- Hanging together, by sets and by definition: plain. touch of the reference. Blocks of numbers that the call makes. Hanging together, by definition; the set that the reference grows. ValidShape and CheckShape of the reference. CheckPlates of the program. Plates of the reference. Plates of the reference, walked. Composition and Check of the reference. -/
import Derived.Test.YtaaeapjnjjbglaaDoorCm3
import Derived.Laws.MakeOwn

namespace Go.Proofs.YtaaeapjnjjbglaaDoor
open Go.RowKit

/-! ### what is above a set -/
def bitsOf (m : Nat) : List Nat := (List.range 32).filter fun n => m.testBit n
def upStep (ab : List Int) (acc n : Nat) : Nat := if 0 ≤ ab.getD n (-1) then acc ||| 2 ^ (ab.getD n (-1)).toNat else acc
def upL (ab : List Int) (l : List Nat) : Nat := l.foldl (upStep ab) 0
def upN (ab : List Int) (m : Nat) : Nat := upL ab (bitsOf m)
theorem upL_bits (ab : List Int) (l : List Nat) (b : Nat) : (upL ab l).testBit b = true ↔ ∃ n ∈ l, ab.getD n (-1) = b := by
  have h : ∀ (l : List Nat) (acc : Nat), (l.foldl (upStep ab) acc).testBit b = true ↔ acc.testBit b = true ∨ ∃ n ∈ l, ab.getD n (-1) = b := by
    intro l
    induction l with
    | nil => intro acc; simp
    | cons n l ih =>
      intro acc
      rw [List.foldl_cons, ih]
      unfold upStep
      split
      · rw [bit_or]
        constructor
        · rintro ((h | h) | ⟨k, hk, e⟩)
          · exact Or.inl h
          · exact Or.inr ⟨n, by simp, by omega⟩
          · exact Or.inr ⟨k, by simp [hk], e⟩
        · rintro (h | ⟨k, hk, e⟩)
          · exact Or.inl (Or.inl h)
          · rw [List.mem_cons] at hk
            rcases hk with rfl | hk
            · exact Or.inl (Or.inr (by omega))
            · exact Or.inr ⟨k, hk, e⟩
      · constructor
        · rintro (h | ⟨k, hk, e⟩)
          · exact Or.inl h
          · exact Or.inr ⟨k, by simp [hk], e⟩
        · rintro (h | ⟨k, hk, e⟩)
          · exact Or.inl h
          · rw [List.mem_cons] at hk
            rcases hk with rfl | hk
            · omega
            · exact Or.inr ⟨k, hk, e⟩
  unfold upL
  rw [h]
  simp
theorem upN_bits {ab : List Int} {m b : Nat} (hm : m < 2 ^ 32) : (upN ab m).testBit b = true ↔ ∃ n, m.testBit n = true ∧ ab.getD n (-1) = b := by
  unfold upN
  rw [upL_bits]
  unfold bitsOf
  constructor
  · rintro ⟨n, hn, e⟩
    rw [List.mem_filter] at hn
    exact ⟨n, hn.2, e⟩
  · rintro ⟨n, hn, e⟩
    refine ⟨n, List.mem_filter.2 ⟨List.mem_range.2 ?_, hn⟩, e⟩
    rcases Nat.lt_or_ge n 32 with h | h
    · exact h
    · have : m < 2 ^ n := Nat.lt_of_lt_of_le hm (Nat.pow_le_pow_right (by omega) h)
      rw [Nat.testBit_lt_two_pow this] at hn
      cases hn

/-! ### being connected -/
/-- Whoever holds the first and all that touch what it holds, holds all. -/
def Conn (n : Nat) (T : Nat → Nat → Prop) : Prop := ∀ S : Nat → Prop, S 0 → (∀ i j, i < n → j < n → S i → T i j → S j) → ∀ i, i < n → S i
theorem Conn.congr {n : Nat} {T U : Nat → Nat → Prop} (h : ∀ i j, i < n → j < n → (T i j ↔ U i j)) : Conn n T ↔ Conn n U := by
  constructor
  · intro hc S h0 hS
    exact hc S h0 fun i j hi hj hs ht => hS i j hi hj hs ((h i j hi hj).1 ht)
  · intro hc S h0 hS
    exact hc S h0 fun i j hi hj hs ht => hS i j hi hj hs ((h i j hi hj).2 ht)
/-- A set that is closed, and in every closed one, is all just if all is connected. -/
theorem conn_of {n : Nat} {T : Nat → Nat → Prop} {S : Nat → Prop} (h0 : S 0) (hcl : ∀ i j, i < n → j < n → S i → T i j → S j) (hmin : ∀ R : Nat → Prop, R 0 → (∀ i j, i < n → j < n → R i → T i j → R j) → ∀ i, i < n → S i → R i) :
    Conn n T ↔ ∀ i, i < n → S i := by
  constructor
  · intro h
    exact h S h0 hcl
  · intro h R r0 rcl i hi
    exact hmin R r0 rcl i hi (h i hi)

/-! ### touching -/
/-- A cell of one has a cell of the other just above or below it. -/
def touchP (s : Shape) (l : List Plate) (a b : Laid) : Prop := ∃ x y z, s.inside x y z = true ∧ hasB l a x y z = true ∧ (hasB l b x y (z + 1) = true ∨ hasB l b x y (z - 1) = true)
theorem placesS_get {s : Shape} : ∀ {k : Nat} {i : Nat}, k ≤ s.cells.length → i < k → 0 ≤ numOf s.cells i → (placesS s k)[(numOf s.cells i).toNat]? = some i
  | 0, i, _, hi, _ => by omega
  | k + 1, i, hk, hi, h0 => by
    have hlen : (placesS s k).length = fullN (s.cells.take k) := by rw [placesS_len, aboveS_len (by omega)]
    obtain ⟨f1, f2⟩ := numOf_full h0
    unfold placesS
    rcases Nat.lt_or_ge i k with h | h
    · have ih := placesS_get (by omega) h h0
      split
      · exact ih
      · rw [List.getElem?_append_left (List.getElem?_eq_some_iff.1 ih).1]
        exact ih
    · obtain rfl : i = k := by omega
      rw [if_neg (by omega), List.getElem?_append_right (by rw [hlen]; omega), hlen]
      rw [show (numOf s.cells i).toNat - fullN (s.cells.take i) = 0 by omega]
      rfl
theorem aboveS_get {s : Shape} : ∀ {k : Nat} {i : Nat}, k ≤ s.cells.length → i < k → 0 ≤ numOf s.cells i → (aboveS s k)[(numOf s.cells i).toNat]? = some (s.num (s.px i) (s.py i) (s.pz i + 1))
  | 0, i, _, hi, _ => by omega
  | k + 1, i, hk, hi, h0 => by
    have hlen : (aboveS s k).length = fullN (s.cells.take k) := aboveS_len (by omega)
    obtain ⟨f1, f2⟩ := numOf_full h0
    unfold aboveS
    rcases Nat.lt_or_ge i k with h | h
    · have ih := aboveS_get (by omega) h h0
      split
      · exact ih
      · rw [List.getElem?_append_left (List.getElem?_eq_some_iff.1 ih).1]
        exact ih
    · obtain rfl : i = k := by omega
      rw [if_neg (by omega), List.getElem?_append_right (by rw [hlen]; omega), hlen]
      rw [show (numOf s.cells i).toNat - fullN (s.cells.take i) = 0 by omega]
      rfl
/-- The numbers above. -/
def abv (s : Shape) : List Int := aboveS s s.cells.length
theorem abv_of {s : Shape} (ok : s.Ok) {x y z : Int} {n : Nat} (h : s.num x y z = n) : (abv s).getD n (-1) = s.num x y (z + 1) := by
  have hin : s.inside x y z = true := num_in (by omega)
  have hid := s.idx_in ok hin
  obtain ⟨p1, p2, p3⟩ := s.place_of ok hin
  have hne : s.num x y z = numOf s.cells (s.idx x y z).toNat := s.num_eq hin
  have hg := aboveS_get (s := s) (Nat.le_refl _) (show (s.idx x y z).toNat < s.cells.length by omega) (by omega)
  rw [p1, p2, p3, ← hne, h] at hg
  unfold abv
  rw [List.getD_eq_getElem?_getD]
  have hg : (aboveS s s.cells.length)[n]? = some (s.num x y (z + 1)) := by simpa using hg
  rw [hg]
  rfl
theorem abv_len {s : Shape} : (abv s).length = fullN s.cells := by
  unfold abv
  rw [aboveS_len (Nat.le_refl _), List.take_length]
theorem abv_lo {s : Shape} {n : Nat} : ∀ {a : Int}, (abv s)[n]? = some a → -1 ≤ a ∧ a < fullN s.cells ∨ ¬ s.Ok := by
  intro a h
  by_cases ok : s.Ok
  · left
    have hn : n < fullN s.cells := by rw [← abv_len]; exact (List.getElem?_eq_some_iff.1 h).1
    obtain ⟨i, hi, e⟩ := numOf_surj (cs := s.cells) (k := s.cells.length) (b := n) (Nat.le_refl _) (by rw [List.take_length]; exact hn)
    have hg := aboveS_get (s := s) (Nat.le_refl _) hi (by omega)
    rw [e] at hg
    have h' : (aboveS s s.cells.length)[((n : Nat) : Int).toNat]? = some a := h
    rw [hg] at h'
    cases h'
    refine ⟨?_, num_lt_full ok _ _ _⟩
    unfold Shape.num
    split
    · exact numOf_lo _ _
    · omega
  · exact Or.inr ok
/-- A plate is above another one. -/
theorem up_iff {s : Shape} {l : List Plate} {a b : Laid} {m k : Nat} (ok : s.Ok) (hm : coverOf s l a = some m) (hk : coverOf s l b = some k) (hlt : m < 2 ^ 32) :
    k &&& upN (abv s) m ≠ 0 ↔ ∃ x y z, 0 ≤ s.num x y z ∧ hasB l a x y z = true ∧ 0 ≤ s.num x y (z + 1) ∧ hasB l b x y (z + 1) = true := by
  rw [Ne, and_zero, Classical.not_forall]
  constructor
  · rintro ⟨n, hn⟩
    rw [Classical.not_imp] at hn
    obtain ⟨h1, h2⟩ := hn
    have h2 := Classical.not_not.1 h2
    rw [upN_bits hlt] at h2
    obtain ⟨j, hj, e⟩ := h2
    obtain ⟨_, x, y, z, hxyz⟩ := cover_lt ok hm hj
    rw [abv_of ok hxyz] at e
    exact ⟨x, y, z, by omega, (cover_bits ok hm hxyz).1 hj, by omega, (cover_bits ok hk e).1 h1⟩
  · rintro ⟨x, y, z, h1, h2, h3, h4⟩
    obtain ⟨j, hj⟩ := Int.eq_ofNat_of_zero_le h1
    obtain ⟨n, hn⟩ := Int.eq_ofNat_of_zero_le h3
    refine ⟨n, ?_⟩
    rw [Classical.not_imp]
    refine ⟨(cover_bits ok hk hn).2 h4, Classical.not_not.2 ?_⟩
    rw [upN_bits hlt]
    exact ⟨j, (cover_bits ok hm hj).2 h2, by rw [abv_of ok hj]; exact hn⟩
/-- All places of a valid plate are full. -/
theorem lies_num {s : Shape} {l : List Plate} {c : Laid} (h : liesB s l c = true) {x y z : Int} (hh : hasB l c x y z = true) : 0 ≤ s.num x y z := by
  rw [lies_iff] at h
  obtain ⟨_, _, _, hs, hc, _⟩ := h
  rw [hasB_iff] at hh
  obtain ⟨e, hx, hy⟩ := hh
  subst e
  have := sameAll_iff.1 hs (y - c.y).toNat (by omega) (x - c.x).toNat (by omega)
  rw [show c.x + ((x - c.x).toNat : Int) = x by omega, show c.y + ((y - c.y).toNat : Int) = y by omega] at this
  rw [Shape.num_iff, this]
  exact hc
theorem touch_iff {s : Shape} {l : List Plate} {a b : Laid} {m k : Nat} (ok : s.Ok) (hm : coverOf s l a = some m) (hk : coverOf s l b = some k) (ha : liesB s l a = true) (hb : liesB s l b = true) (hlt : m < 2 ^ 32) (hlt2 : k < 2 ^ 32) :
    (k &&& upN (abv s) m ≠ 0 ∨ m &&& upN (abv s) k ≠ 0) ↔ touchP s l a b := by
  rw [up_iff ok hm hk hlt, up_iff ok hk hm hlt2]
  constructor
  · rintro (⟨x, y, z, h1, h2, h3, h4⟩ | ⟨x, y, z, h1, h2, h3, h4⟩)
    · exact ⟨x, y, z, num_in (by omega), h2, Or.inl h4⟩
    · exact ⟨x, y, z + 1, num_in (by omega), h4, Or.inr (by rw [show z + 1 - 1 = z by omega]; exact h2)⟩
  · rintro ⟨x, y, z, h1, h2, h3 | h3⟩
    · exact Or.inl ⟨x, y, z, lies_num ha h2, h2, lies_num hb h3, h3⟩
    · refine Or.inr ⟨x, y, z - 1, lies_num hb h3, h3, ?_, ?_⟩
      · rw [show z - 1 + 1 = z by omega]
        exact lies_num ha h2
      · rw [show z - 1 + 1 = z by omega]
        exact h2
end Go.Proofs.YtaaeapjnjjbglaaDoor

namespace Go.Proofs.YtaaeapjnjjbglaaDoor
open Go.RowKit

def touchAt (l : List Plate) (a b : Laid) (x y z : Int) : Bool := hasB l a x y z && (hasB l b x y (z + 1) || hasB l b x y (z - 1))
open Classical in
noncomputable def touchB (s : Shape) (l : List Plate) (a b : Laid) : Bool := decide (touchP s l a b)
theorem touchB_iff {s : Shape} {l : List Plate} {a b : Laid} : touchB s l a b = true ↔ touchP s l a b := by simp [touchB]
theorem touchB_yes {s : Shape} {l : List Plate} {a b : Laid} {x y z : Int} (h : s.inside x y z = true) (ht : touchAt l a b x y z = true) : touchB s l a b = true := by
  rw [touchB_iff]
  unfold touchAt at ht
  rw [Bool.and_eq_true, Bool.or_eq_true] at ht
  exact ⟨x, y, z, h, ht.1, ht.2⟩
theorem touchB_no {s : Shape} {l : List Plate} {a b : Laid} (h : ∀ x y z, s.inside x y z = true → touchAt l a b x y z = false) : touchB s l a b = false := by
  cases ht : touchB s l a b
  · rfl
  · rw [touchB_iff] at ht
    obtain ⟨x, y, z, h1, h2, h3⟩ := ht
    have := h x y z h1
    unfold touchAt at this
    rw [h2, Bool.true_and, Bool.or_eq_false_iff] at this
    rw [this.1, this.2] at h3
    simp at h3
theorem has_is {A : Option Addr} {cap : Nat} {l : List Plate} {c : Laid} {x y z : Int} {r : Bool} (h : hasB l c x y z = r) (okl : platesB l = true) (hc : c.Ok l) (w : World) (hl : Plates w A cap l) :
    Calls Tryd.prog 129 #[.slice A l.length cap, .agg #[.int .i64 c.plate, .int .i64 c.x, .int .i64 c.y, .int .i64 c.z, .bool c.turned], .int .i64 x, .int .i64 y, .int .i64 z] w fun e w' => e = .returned (.bool r) ∧ Ext w w' := by
  rw [← h]
  exact has_c A cap l c x y z okl hc w hl

set_option maxRecDepth 100000 in
set_option maxHeartbeats 4000000 in
theorem touch_c (s : Shape) (A : Option Addr) (cap : Nat) (l : List Plate) (PA : Option Addr) (pcap : Nat) (a b : Laid) (ok : s.Ok) (okl : platesB l = true) (ha : a.Ok l) (hb : b.Ok l) (w : World) (hl : Plates w PA pcap l) :
    Calls Tryd.prog 104 #[.agg #[.int .i64 s.W, .int .i64 s.D, .int .i64 s.H, .slice A s.cells.length cap], .slice PA l.length pcap, .agg #[.int .i64 a.plate, .int .i64 a.x, .int .i64 a.y, .int .i64 a.z, .bool a.turned],
      .agg #[.int .i64 b.plate, .int .i64 b.x, .int .i64 b.y, .int .i64 b.z, .bool b.turned]] w fun e w' => e = .returned (.bool (touchB s l a b)) ∧ Ext w w' := by
  obtain ⟨W1, hW1, E1, B1, hz1⟩ := box_ w #[.int .i64 s.W, .int .i64 s.D, .int .i64 s.H, .slice A s.cells.length cap] 24
  obtain ⟨W2, hW2, E2, B2, hz2⟩ := box_ W1 #[.int .i64 a.plate, .int .i64 a.x, .int .i64 a.y, .int .i64 a.z, .bool a.turned] 64
  obtain ⟨W3, hW3, E3, B3, hz3⟩ := box_ W2 #[.int .i64 b.plate, .int .i64 b.x, .int .i64 b.y, .int .i64 b.z, .bool b.turned] 64
  have hz2' : W2.heap.size = w.heap.size + 2 := by omega
  rw [hz1] at B2
  rw [hz2'] at B3
  have B1 := (B1.ext E2).ext E3
  have B2 := B2.ext E3
  have b1 := B1.cell
  have E13 := (E1.trans E2).trans E3
  obtain ⟨w1, w2⟩ := ok.w
  obtain ⟨d1, d2⟩ := ok.d
  obtain ⟨h1, h2⟩ := ok.h
  go_enter Tryd.func104, Tryd.ntmps104
  go_wp2_with fail
  clear hz1 hz2 hz3 hz2' hW1 hW2 hW3 b1
  go_loopw [9] (fun v wr => ∃ j : Int, 0 ≤ j ∧ j ≤ s.D ∧ v = .int .i64 j ∧ Ext W3 wr ∧ ∀ x y z, s.inside x y z = true → y < j → touchAt l a b x y z = false) (fun v _ => (s.D - intOf v).toNat)
  case atStart => exact ⟨0, by omega, by omega, rfl, Ext.refl _, fun x y z hin hy => by have := (Shape.inside_iff s x y z).1 hin; omega⟩
  case round =>
    obtain ⟨j, hj0, hj, rfl, E4, hall⟩ := hrel
    have Hall := Lib.hid hall
    clear hall
    have C1 := B1.ext E4
    have b1 := C1.cell
    by_cases hlt : j < s.D
    · obtain ⟨wo, rfl⟩ : ∃ wo : World, wo = wr := ⟨_, rfl⟩
      go_wp2_with fail
      go_loopw [10] (fun v wr => ∃ i : Int, 0 ≤ i ∧ i ≤ s.W ∧ v = .int .i64 i ∧ Ext W3 wr ∧ ∀ x y z, s.inside x y z = true → y = j → x < i → touchAt l a b x y z = false) (fun v _ => (s.W - intOf v).toNat)
      case atStart => exact ⟨0, by omega, by omega, rfl, E4, fun x y z hin _ hx => by have := (Shape.inside_iff s x y z).1 hin; omega⟩
      case round =>
        obtain ⟨i, hi0, hi, rfl, E5, hall2⟩ := hrel
        have Hall2 := Lib.hid hall2
        clear hall2 b1 C1
        have C1 := B1.ext E5
        have b1 := C1.cell
        by_cases hlt2 : i < s.W
        · obtain ⟨wo, rfl⟩ : ∃ wo : World, wo = wr := ⟨_, rfl⟩
          go_wp2_with fail
          go_loopw [11] (fun v wr => ∃ k : Int, 0 ≤ k ∧ k ≤ s.H ∧ v = .int .i64 k ∧ Ext W3 wr ∧ ∀ x y z, s.inside x y z = true → y = j → x = i → z < k → touchAt l a b x y z = false) (fun v _ => (s.H - intOf v).toNat)
          case atStart => exact ⟨0, by omega, by omega, rfl, E5, fun x y z hin _ _ hz => by have := (Shape.inside_iff s x y z).1 hin; omega⟩
          case round =>
            obtain ⟨k, hk0, hk, rfl, E6, hall3⟩ := hrel
            have Hall3 := Lib.hid hall3
            clear hall3 b1 C1
            have C1 := B1.ext E6
            have C2 := B2.ext E6
            have C3 := B3.ext E6
            have b1 := C1.cell
            have b2 := C2.cell
            have b3 := C3.cell
            have hlr := hl.ext (E13.trans E6)
            by_cases hlt3 : k < s.H
            · have Hin : Hid (s.inside i j k = true) := Lib.hid ((Shape.inside_iff s i j k).2 (by omega))
              cases t1 : hasB l a i j k
              · have Hno : Hid (touchAt l a b i j k = false) := Lib.hid (by unfold touchAt; rw [t1]; rfl)
                have T1 := Lib.hid t1
                clear t1
                go_wp2_with fail
                refine (has_is T1.out okl ha _ hlr).mono ?_
                rintro e W7 ⟨rfl, E7⟩
                go_wp2_with fail
                go_roundw
                case rel =>
                  refine ⟨k + 1, by omega, by omega, by go_num, (E6.trans E7), fun x y z hin hy hx hz => ?_⟩
                  rcases Int.lt_or_le z k with h | h
                  · exact Hall3.out x y z hin hy hx h
                  · obtain rfl : z = k := by omega
                    subst hx hy
                    exact Hno.out
                case measure => simp only [intOf]; omega
              · have T1 := Lib.hid t1
                cases t2 : hasB l b i j (k + 1)
                · have T2 := Lib.hid t2
                  cases t3 : hasB l b i j (k - 1)
                  · have Hno : Hid (touchAt l a b i j k = false) := Lib.hid (by unfold touchAt; rw [t1, t2, t3]; rfl)
                    have T3 := Lib.hid t3
                    clear t1 t2 t3
                    go_wp2_with fail
                    refine (has_is T1.out okl ha _ hlr).mono ?_
                    rintro e W7 ⟨rfl, E7⟩
                    clear b1 b2
                    have b3 := (C3.ext E7).cell
                    go_wp2_with fail
                    refine (has_is T2.out okl hb _ (hlr.ext E7)).mono ?_
                    rintro e W8 ⟨rfl, E8⟩
                    clear b3
                    have b3 := ((C3.ext E7).ext E8).cell
                    go_wp2_with fail
                    refine (has_is T3.out okl hb _ ((hlr.ext E7).ext E8)).mono ?_
                    rintro e W9 ⟨rfl, E9⟩
                    go_wp2_with fail
                    go_roundw
                    case rel =>
                      refine ⟨k + 1, by omega, by omega, by go_num, (((E6.trans E7).trans E8).trans E9), fun x y z hin hy hx hz => ?_⟩
                      rcases Int.lt_or_le z k with h | h
                      · exact Hall3.out x y z hin hy hx h
                      · obtain rfl : z = k := by omega
                        subst hx hy
                        exact Hno.out
                    case measure => simp only [intOf]; omega
                  · have Hr : Hid (touchB s l a b = true) := Lib.hid (touchB_yes Hin.out (by unfold touchAt; rw [t1, t2, t3]; rfl))
                    have T3 := Lib.hid t3
                    clear t1 t2 t3
                    go_wp2_with fail
                    refine (has_is T1.out okl ha _ hlr).mono ?_
                    rintro e W7 ⟨rfl, E7⟩
                    clear b1 b2
                    have b3 := (C3.ext E7).cell
                    go_wp2_with fail
                    refine (has_is T2.out okl hb _ (hlr.ext E7)).mono ?_
                    rintro e W8 ⟨rfl, E8⟩
                    clear b3
                    have b3 := ((C3.ext E7).ext E8).cell
                    go_wp2_with fail
                    refine (has_is T3.out okl hb _ ((hlr.ext E7).ext E8)).mono ?_
                    rintro e W9 ⟨rfl, E9⟩
                    go_wp2_with fail
                    go_ret
                    exact ⟨by rw [Hr.out] <;> rfl, (((E13.trans E6).trans E7).trans E8).trans E9⟩
                · have T2 := Lib.hid t2
                  have Hr : Hid (touchB s l a b = true) := Lib.hid (touchB_yes Hin.out (by unfold touchAt; rw [t1, t2]; rfl))
                  clear t1 t2
                  go_wp2_with fail
                  refine (has_is T1.out okl ha _ hlr).mono ?_
                  rintro e W7 ⟨rfl, E7⟩
                  clear b1 b2
                  have b3 := (C3.ext E7).cell
                  go_wp2_with fail
                  refine (has_is T2.out okl hb _ (hlr.ext E7)).mono ?_
                  rintro e W8 ⟨rfl, E8⟩
                  go_wp2_with fail
                  go_ret
                  exact ⟨by rw [Hr.out] <;> rfl, ((E13.trans E6).trans E7).trans E8⟩
            · obtain rfl : k = s.H := by omega
              go_wp2_with fail
              go_roundw
              case rel =>
                refine ⟨i + 1, by omega, by omega, by go_num, E6, fun x y z hin hy hx => ?_⟩
                have hi := (Shape.inside_iff s x y z).1 hin
                rcases Int.lt_or_le x i with h | h
                · exact Hall2.out x y z hin hy h
                · exact Hall3.out x y z hin hy (by omega) (by omega)
              case measure => simp only [intOf]; omega
        · obtain rfl : i = s.W := by omega
          go_wp2_with fail
          go_roundw
          case rel =>
            refine ⟨j + 1, by omega, by omega, by go_num, E5, fun x y z hin hy => ?_⟩
            have hi := (Shape.inside_iff s x y z).1 hin
            rcases Int.lt_or_le y j with h | h
            · exact Hall.out x y z hin h
            · exact Hall2.out x y z hin (by omega) (by omega)
          case measure => simp only [intOf]; omega
    · obtain rfl : j = s.D := by omega
      have Hr : Hid (touchB s l a b = false) := Lib.hid (touchB_no fun x y z hin => Hall.out x y z hin (by have := (Shape.inside_iff s x y z).1 hin; omega))
      go_wp2_with fail
      go_ret
      exact ⟨by rw [Hr.out] <;> rfl, E13.trans E4⟩
end Go.Proofs.YtaaeapjnjjbglaaDoor

namespace Go.Proofs.YtaaeapjnjjbglaaDoor
open Go.RowKit

def iv (n : Int) : Value := .int .i64 n
theorem Bytes.grow_ {w : World} {A : Option Addr} {cap : Nat} {cs : List Int} (h : Bytes w A cap cs) (x : Growth) : Bytes (grow w x) A cap cs := h.ext ((Ext.refl w).grow x)
theorem Plates.grow_ {w : World} {A : Option Addr} {cap : Nat} {l : List Plate} (h : Plates w A cap l) (x : Growth) : Plates (grow w x) A cap l := h.ext ((Ext.refl w).grow x)
theorem Laids.grow_ {w : World} {A : Option Addr} {cap : Nat} {c : List Laid} (h : Laids w A cap c) (x : Growth) : Laids (grow w x) A cap c := h.ext ((Ext.refl w).grow x)
theorem Shape.len_le (s : Shape) (ok : s.Ok) : s.cells.length ≤ 256 := by
  have h1 := ok.w
  have h2 := ok.d
  have h3 := ok.h
  have e := mul_bd (A := 8) (B := 8) h1.1 h1.2 h2.1 h2.2
  have e2 := mul_bd (A := 64) (B := 4) e.1 e.2 h3.1 h3.2
  have := ok.len
  omega
theorem Shape.len_pos (s : Shape) (ok : s.Ok) : 0 < s.cells.length := by
  have := ok.full
  have := fullN_le s.cells
  omega
/-- The cells of a block of numbers. -/
def intsA (xs : List Int) : Array Value := (xs.map iv).toArray
theorem intsA_get (xs : List Int) (i : Nat) : (intsA xs)[i]? = xs[i]?.map iv := by simp [intsA]
theorem intsA_set (xs : List Int) (i : Nat) (v : Int) : (intsA xs).setIfInBounds i (.int .i64 v) = intsA (xs.set i v) := by
  unfold intsA
  rw [List.setIfInBounds_toArray, List.map_set]
  rfl
theorem infoInt : (Tryd.prog.info? 3).map (fun i => (i.zero, i.size, i.bytes)) = some (some (.int .i64 0), 1, 8) := by kernel_rfl
theorem make_ints (n : Nat) (hn : n ≤ 100000) (w : World) : (Instr.makeSlice 97 (.int .i64 (n : Int)) (.int .i64 (n : Int))).run Tryd.prog w = .ok (.slice (some ⟨w.heap.size, 0, none⟩) n n) (w.alloc (.cells (intsA (List.replicate n 0)) 3)) := by
  obtain ⟨i0, hi, hz0, hz1, hz2⟩ := info_parts infoInt
  have h := run_make (P := Tryd.prog) w 97 3 i0 (.int .i64 0) Tryd.underlying97 hi hz0 .i64 .i64 (n : Int) (n : Int) (by omega) (Int.le_refl _) (by rw [hz2]; omega) (by omega)
  rw [h]
  have e : madeCells (Value.cells (.int .i64 0)) ((n : Int).toNat * i0.size) = intsA (List.replicate n 0) := by
    rw [hz1, Int.toNat_natCast, Nat.mul_one]
    apply Array.ext
    · simp [size_madeCells, intsA]
    · intro i h1 h2
      simp [madeCells, intsA, Value.cells, iv, Nat.mod_one]
  rw [e]
  simp

theorem Blk.store1 {w : World} {g : Nat} {t : TypeId} {cs : Array Value} (h : Blk w g t cs) (i : Nat) (u : Value) : ∃ w2, w.setCell ⟨g, i, none⟩ u = w2 ∧ Blk w2 g t (cs.setIfInBounds i u) ∧
    (∀ k t' cs', k ≠ g → Blk w k t' cs' → Blk w2 k t' cs') ∧ (∀ w0, Ext w0 w → w0.heap.size ≤ g → Ext w0 w2) ∧ w2.heap.size = w.heap.size :=
  ⟨_, rfl, h.set_ i u, fun _ _ _ hk hb => hb.far hk _, fun _ hE hg => hE.setCell hg _, by simp [World.setCell]⟩

theorem Ext.four {w W : World} (E : Ext w W) {a b c d : Addr} {p q r s : Value} (h0 : w.cell? a = some p) (h1 : w.cell? b = some q) (h2 : w.cell? c = some r) (h3 : w.cell? d = some s) :
    W.cell? a = some p ∧ W.cell? b = some q ∧ W.cell? c = some r ∧ W.cell? d = some s := ⟨E.cell h0, E.cell h1, E.cell h2, E.cell h3⟩
theorem Ext.five {w W : World} (E : Ext w W) {a b c d f : Addr} {p q r s t : Value} (h0 : w.cell? a = some p) (h1 : w.cell? b = some q) (h2 : w.cell? c = some r) (h3 : w.cell? d = some s) (h4 : w.cell? f = some t) :
    W.cell? a = some p ∧ W.cell? b = some q ∧ W.cell? c = some r ∧ W.cell? d = some s ∧ W.cell? f = some t := ⟨E.cell h0, E.cell h1, E.cell h2, E.cell h3, E.cell h4⟩

/-! ### how many of each plate -/
def usedL (l : List Plate) (c : List Laid) (k : Nat) : List Int := (List.range l.length).map fun p : Nat => (usedN c k (p : Int) : Int)
theorem usedL_len (l : List Plate) (c : List Laid) (k : Nat) : (usedL l c k).length = l.length := by simp [usedL]
theorem usedL_zero (l : List Plate) (c : List Laid) : usedL l c 0 = List.replicate l.length 0 := by
  apply List.ext_getElem?
  intro i
  simp only [usedL, List.getElem?_map, List.getElem?_replicate]
  rcases Nat.lt_or_ge i l.length with h | h
  · rw [List.getElem?_range h, if_pos h]
    simp [usedN]
  · rw [List.getElem?_eq_none (by simpa using h), if_neg (by omega)]
    rfl
theorem usedL_get {l : List Plate} {c : List Laid} {k p : Nat} (h : p < l.length) : (usedL l c k)[p]? = some (usedN c k (p : Int) : Int) := by
  simp only [usedL, List.getElem?_map, List.getElem?_range h]
  rfl
theorem usedN_succ {c : List Laid} {k : Nat} {a : Laid} (h : c[k]? = some a) (p : Int) : usedN c (k + 1) p = usedN c k p + if a.plate = p then 1 else 0 := by
  unfold usedN
  rw [List.take_add_one, h, Option.toList_some, List.countP_append]
  by_cases hp : a.plate = p <;> simp [hp]
theorem usedL_succ {l : List Plate} {c : List Laid} {k p : Nat} {a : Laid} (h : c[k]? = some a) (hp : a.plate = p) : (usedL l c k).set p (usedN c k (p : Int) + 1) = usedL l c (k + 1) := by
  apply List.ext_getElem?
  intro i
  rw [List.getElem?_set]
  rcases Nat.lt_or_ge i l.length with hi | hi
  · rw [usedL_get hi, usedL_get hi, usedN_succ h, hp]
    split
    · subst_vars
      rw [if_pos (by rw [usedL_len]; exact hi), if_pos rfl]
      rfl
    · rw [if_neg (by omega)]
      rfl
  · rw [List.getElem?_eq_none (by rw [usedL_len]; exact hi), List.getElem?_eq_none (by rw [usedL_len]; exact hi)]
    split
    · rw [if_neg (by rw [usedL_len]; omega)]
    · rfl
theorem usedN_le (c : List Laid) (k : Nat) (p : Int) : usedN c k p ≤ k := by
  unfold usedN
  have := List.countP_le_length (p := fun x : Laid => decide (x.plate = p)) (l := c.take k)
  have := List.length_take_le k c
  omega
end Go.Proofs.YtaaeapjnjjbglaaDoor

namespace Go.Proofs.YtaaeapjnjjbglaaDoor
open Go.RowKit

def Tl (s : Shape) (l : List Plate) (c : List Laid) (i j : Nat) : Prop := touchB s l (laidAt c i) (laidAt c j) = true
open Classical in
noncomputable def hangB (s : Shape) (l : List Plate) (c : List Laid) : Bool := decide (Conn c.length (Tl s l c))
theorem hangB_iff {s : Shape} {l : List Plate} {c : List Laid} : hangB s l c = true ↔ Conn c.length (Tl s l c) := by simp [hangB]

/-- The laid plates that are in, and how many. -/
structure InT (s : Shape) (l : List Plate) (c : List Laid) (ins : List Bool) (n : Nat) : Prop where
  len : ins.length = c.length
  zero : ins[0]? = some true
  cnt : ins.countP id = n
  min : ∀ R : Nat → Prop, R 0 → (∀ i j, i < c.length → j < c.length → R i → Tl s l c i j → R j) → ∀ i, ins[i]? = some true → R i
variable {s : Shape} {l : List Plate} {c : List Laid} {ins : List Bool} {n : Nat}

theorem InT.start (h : 0 < c.length) : InT s l c ((List.replicate c.length false).set 0 true) 1 := by
  obtain ⟨m, hm⟩ : ∃ m, c.length = m + 1 := ⟨c.length - 1, by omega⟩
  have e : (List.replicate c.length false).set 0 true = true :: List.replicate m false := by rw [hm, List.replicate_succ, List.set_cons_zero]
  rw [e]
  refine ⟨by simp [hm], rfl, ?_, fun R h0 _ i hi => ?_⟩
  · rw [List.countP_cons, List.countP_replicate]
    simp
  · match i with
    | 0 => exact h0
    | i + 1 =>
      rw [List.getElem?_cons_succ, List.getElem?_replicate] at hi
      split at hi <;> simp at hi
theorem InT.step (h : InT s l c ins n) {i k : Nat} (hi : ins[i]? = some true) (hk : ins[k]? = some false) (ht : Tl s l c i k) : InT s l c (ins.set k true) (n + 1) := by
  obtain ⟨hil, _⟩ := List.getElem?_eq_some_iff.1 hi
  obtain ⟨hkl, hkv⟩ := List.getElem?_eq_some_iff.1 hk
  refine ⟨by rw [List.length_set]; exact h.len, ?_, ?_, fun R h0 hR j hj => ?_⟩
  · rw [List.getElem?_set]
    split
    · rename_i e
      subst e
      simp
    · exact h.zero
  · rw [List.countP_set hkl, hkv, h.cnt]
    simp
  · rw [List.getElem?_set] at hj
    split at hj
    · rename_i e
      subst e
      exact hR i k (by rw [← h.len]; exact hil) (by rw [← h.len]; exact hkl) (h.min R h0 hR i hi) ht
    · exact h.min R h0 hR j hj
theorem InT.le (h : InT s l c ins n) : n ≤ c.length := by
  have := List.countP_le_length (p := id) (l := ins)
  rw [h.cnt, h.len] at this
  exact this
theorem InT.get (h : InT s l c ins n) {j : Nat} (hj : j < c.length) : ∃ b, ins[j]? = some b := ⟨_, List.getElem?_eq_getElem (by rw [h.len]; exact hj)⟩
theorem InT.done (h : InT s l c ins n) (hcl : ∀ i j, i < c.length → j < c.length → ins[i]? = some true → ins[j]? = some false → ¬ Tl s l c i j) : hangB s l c = decide (n = c.length) := by
  have hc := conn_of (n := c.length) (T := Tl s l c) (S := fun i => ins[i]? = some true) h.zero
    (fun i j hi hj hs ht => by
      obtain ⟨b, hb⟩ := h.get hj
      cases b
      · exact absurd ht (hcl i j hi hj hs hb)
      · exact hb)
    (fun R h0 hR i _ hi => h.min R h0 hR i hi)
  have e : (∀ i, i < c.length → ins[i]? = some true) ↔ n = c.length := by
    rw [← h.cnt, ← h.len, List.countP_eq_length]
    constructor
    · intro ha a hm
      obtain ⟨i, hi⟩ := List.getElem?_of_mem hm
      have := ha i (List.getElem?_eq_some_iff.1 hi).1
      rw [hi] at this
      simpa using this
    · intro ha i hi
      have h1 : ins[i]? = some ins[i] := List.getElem?_eq_getElem hi
      have := ha _ (List.mem_of_getElem? h1)
      rw [h1]
      simpa using this
  unfold hangB
  rw [decide_eq_decide]
  exact hc.trans e

/-! ### a block of bools -/
def bv (b : Bool) : Value := .bool b
def boolsA (xs : List Bool) : Array Value := (xs.map bv).toArray
theorem boolsA_get (xs : List Bool) (i : Nat) : (boolsA xs)[i]? = xs[i]?.map bv := by simp [boolsA]
theorem boolsA_set (xs : List Bool) (i : Nat) (v : Bool) : (boolsA xs).setIfInBounds i (.bool v) = boolsA (xs.set i v) := by
  unfold boolsA
  rw [List.setIfInBounds_toArray, List.map_set]
  rfl
theorem infoBool : (Tryd.prog.info? 4).map (fun i => (i.zero, i.size, i.bytes)) = some (some (.bool false), 1, 1) := by kernel_rfl
theorem make_bools (n : Nat) (hn : n ≤ 100000) (w : World) : (Instr.makeSlice 133 (.int .i64 (n : Int)) (.int .i64 (n : Int))).run Tryd.prog w = .ok (.slice (some ⟨w.heap.size, 0, none⟩) n n) (w.alloc (.cells (boolsA (List.replicate n false)) 4)) := by
  obtain ⟨i0, hi, hz0, hz1, hz2⟩ := info_parts infoBool
  have h := run_make (P := Tryd.prog) w 133 4 i0 (.bool false) Tryd.underlying133 hi hz0 .i64 .i64 (n : Int) (n : Int) (by omega) (Int.le_refl _) (by rw [hz2]; omega) (by omega)
  rw [h]
  have e : madeCells (Value.cells (.bool false)) ((n : Int).toNat * i0.size) = boolsA (List.replicate n false) := by
    rw [hz1, Int.toNat_natCast, Nat.mul_one]
    apply Array.ext
    · simp [size_madeCells, boolsA]
    · intro i h1 h2
      simp [madeCells, boolsA, Value.cells, bv, Nat.mod_one]
  rw [e]
  simp
end Go.Proofs.YtaaeapjnjjbglaaDoor

namespace Go.Proofs.YtaaeapjnjjbglaaDoor
open Go.RowKit

set_option maxHeartbeats 1600000 in
theorem validShape_c (A : Option Addr) (cap : Nat) (wd d h : Int) (cs : List Int) (w : World) (hs : Bytes w A cap cs) :
    Calls Tryd.prog 30 #[.agg #[.int .i64 wd, .int .i64 d, .int .i64 h, .slice A cs.length cap]] w fun e w' => e = .returned (.bool (Shape.valid ⟨wd, d, h, cs⟩)) ∧ Ext w w' := by
  have hl := hs.len
  unfold maxLen at hl
  obtain ⟨W, hW, E, B, hz⟩ := box_ w #[.int .i64 wd, .int .i64 d, .int .i64 h, .slice A cs.length cap] 24
  have bc := B.cell
  have hb := B.lt
  have hs2 := hs.ext E
  cases h1 : inB 1 8 wd
  · go_enter Tryd.func30, Tryd.ntmps30
    go_wp2_with fail
    refine (within_is h1 _).mono ?_
    rintro e w0 ⟨rfl, rfl⟩
    go_wp2_with fail
    go_ret
    exact ⟨by simp [Shape.valid, h1], E⟩
  cases h2 : inB 1 8 d
  · go_enter Tryd.func30, Tryd.ntmps30
    go_wp2_with fail
    refine (within_is h1 _).mono ?_
    rintro e w0 ⟨rfl, rfl⟩
    go_wp2_with fail
    refine (within_is h2 _).mono ?_
    rintro e w1 ⟨rfl, rfl⟩
    go_wp2_with fail
    go_ret
    exact ⟨by simp [Shape.valid, h2], E⟩
  cases h3 : inB 1 4 h
  · go_enter Tryd.func30, Tryd.ntmps30
    go_wp2_with fail
    refine (within_is h1 _).mono ?_
    rintro e w0 ⟨rfl, rfl⟩
    go_wp2_with fail
    refine (within_is h2 _).mono ?_
    rintro e w1 ⟨rfl, rfl⟩
    go_wp2_with fail
    refine (within_is h3 _).mono ?_
    rintro e w2 ⟨rfl, rfl⟩
    go_wp2_with fail
    go_ret
    exact ⟨by simp [Shape.valid, h3], E⟩
  obtain ⟨hv, hv2⟩ := vol_wrap h1 h2 h3
  rw [hv2] at hv
  by_cases h4 : (cs.length : Int) = wd * d * h
  · have Hv : Hid ((Shape.mk wd d h cs).valid = (plainB cs && inB 1 16 (fullN cs))) := Lib.hid (by simp [Shape.valid, h1, h2, h3, h4])
    go_enter Tryd.func30, Tryd.ntmps30
    go_wp2_with fail
    refine (within_is h1 _).mono ?_
    rintro e w0 ⟨rfl, rfl⟩
    go_wp2_with fail
    refine (within_is h2 _).mono ?_
    rintro e w1 ⟨rfl, rfl⟩
    go_wp2_with fail
    refine (within_is h3 _).mono ?_
    rintro e w2 ⟨rfl, rfl⟩
    go_wp2_with fail
    clear hv hv2
    clear h1 h2 h3
    go_loop [3] (fun i => ∃ k : Nat, k ≤ cs.length ∧ i = .int .i64 k ∧ ∀ j c, j < k → cs[j]? = some c → c ≤ 15) (fun i => cs.length - (intOf i).toNat)
    case atStart => exact ⟨0, by omega, rfl, fun j c hj => by omega⟩
    case round =>
      obtain ⟨k, hk, rfl, hj⟩ := hrel
      have Hj := Lib.hid hj
      clear hj
      by_cases hlt : k < cs.length
      · obtain ⟨b, off, c, rfl, hc, hok, hbl, hcell⟩ := hs2.at_ hlt
        have Hc := Lib.hid hc
        clear hc
        by_cases h0 : 15 < c
        · go_wp2_with fail
          go_ret
          refine ⟨?_, E⟩
          have : plainB cs = false := by
            rw [plainB, List.all_eq_false]
            exact ⟨c, List.mem_of_getElem? Hc.out, by simp; omega⟩
          rw [Hv.out, this]
          rfl
        · go_wp2_with fail
          go_round
          case rel =>
            refine ⟨k + 1, by omega, by go_num, fun j c' hj hc' => ?_⟩
            rcases Nat.lt_or_ge j k with h | h
            · exact Hj.out j c' h hc'
            · obtain rfl : j = k := by omega
              rw [Hc.out] at hc'
              cases hc'
              omega
          case measure => simp only [intOf]; omega
      · obtain rfl : k = cs.length := by omega
        have hp : plainB cs = true := by
          rw [plainB, List.all_eq_true]
          intro c hc
          obtain ⟨j, hj⟩ := List.getElem?_of_mem hc
          have : j < cs.length := by
            rcases Nat.lt_or_ge j cs.length with h | h
            · exact h
            · rw [List.getElem?_eq_none h] at hj; cases hj
          simpa using Hj.out j c this hj
        have Hp := Lib.hid hp
        clear hp
        go_wp2_with fail
        refine (rFull_c A cap wd d h cs _ hs2).mono ?_
        rintro e w4 ⟨rfl, E1⟩
        go_wp2_with fail
        refine (within_c _ _ _ _).mono ?_
        rintro e w5 ⟨rfl, rfl⟩
        go_wp2_with fail
        go_ret
        exact ⟨by rw [Hv.out, Hp.out, Bool.true_and]; rfl, E.trans E1⟩
  · go_enter Tryd.func30, Tryd.ntmps30
    go_wp2_with fail
    refine (within_is h1 _).mono ?_
    rintro e w0 ⟨rfl, rfl⟩
    go_wp2_with fail
    refine (within_is h2 _).mono ?_
    rintro e w1 ⟨rfl, rfl⟩
    go_wp2_with fail
    refine (within_is h3 _).mono ?_
    rintro e w2 ⟨rfl, rfl⟩
    go_wp2_with fail
    go_ret
    exact ⟨by simp [Shape.valid, h4], E⟩
end Go.Proofs.YtaaeapjnjjbglaaDoor

namespace Go.Proofs.YtaaeapjnjjbglaaDoor
open Go.RowKit

def sideI (q p : Plate) : Int := orI (cmpI q.W p.W) (cmpI q.D p.D)
theorem side_cases (q p : Plate) : (sideI q p = -1 ∧ pairB q p = true) ∨ (sideI q p = 1 ∧ pairB q p = false) ∨ (sideI q p = 0 ∧ pairB q p = (decide (q.color ≠ 0) && decide (q.color < p.color))) := by
  unfold sideI orI cmpI pairB
  rcases Int.lt_trichotomy q.W p.W with h | h | h
  · left
    simp [h]
  · rcases Int.lt_trichotomy q.D p.D with h' | h' | h'
    · left
      simp [h, h']
    · right
      right
      simp [h, h']
    · right
      left
      simp [h, h', show ¬ q.D < p.D by omega, show ¬ q.D = p.D by omega]
  · right
    left
    simp [h, show ¬ q.W < p.W by omega, show ¬ q.W = p.W by omega]

theorem okAt_one {l : List Plate} {k : Nat} {p : Plate} (hp : l[k]? = some p) (h : p.one = false) : okAt l k = false := by simp [okAt, plateAt_eq hp, h]
theorem okAt_two {l : List Plate} {k : Nat} {p q : Plate} (hp : l[k]? = some p) (hk : k ≠ 0) (hq : l[k - 1]? = some q) : okAt l k = (p.one && pairB q p) := by simp [okAt, plateAt_eq hp, plateAt_eq hq, hk]

set_option maxRecDepth 100000 in
set_option maxHeartbeats 4000000 in
theorem checkPlates_c (A : Option Addr) (cap : Nat) (l : List Plate) (w : World) (hs : Plates w A cap l) :
    Calls Tryd.prog 52 #[.slice A l.length cap] w fun e w' => e = .returned (.int .i64 (platesErr l)) ∧ Ext w w' := by
  have hl := hs.len
  unfold maxLen at hl
  cases h1 : inB 1 8 l.length
  · go_enter Tryd.func52, Tryd.ntmps52
    go_wp2_with fail
    refine (from_is h1 _).mono ?_
    rintro e w1 ⟨rfl, rfl⟩
    go_wp2_with fail
    go_ret
    exact ⟨by simp [platesErr, platesB, h1], Ext.refl _⟩
  have hl8 : l.length ≤ 8 := by have := inB_iff.1 h1; omega
  go_enter Tryd.func52, Tryd.ntmps52
  go_wp2_with fail
  refine (from_is h1 _).mono ?_
  rintro e w1 ⟨rfl, rfl⟩
  go_wp2_with fail
  have H1 := Lib.hid h1
  clear h1
  go_loopw [13] (fun i wr => ∃ k : Nat, k ≤ l.length ∧ i = .int .i64 k ∧ Ext w wr ∧ ∀ j, j < k → okAt l j = true) (fun i _ => l.length - (intOf i).toNat)
  case atStart => exact ⟨0, by omega, rfl, Ext.refl _, fun j hj => by omega⟩
  case round =>
    obtain ⟨k, hk, rfl, E, hj⟩ := hrel
    have Hj := Lib.hid hj
    clear hj
    by_cases hlt : k < l.length
    · obtain ⟨b, off, p, rfl, hp, hb, p0, p1, p2, p3⟩ := (hs.ext E).at_ hlt
      obtain ⟨W1, hW1, E1, B4, hz1⟩ := box_ wr #[.int .i64 p.W, .int .i64 p.D, .int .i64 p.N, .int .u8 p.color] 39
      have b4 := B4.cell
      have l4 := B4.lt
      have Hp := Lib.hid hp
      clear hp
      have hone : p.one = (inB 1 p.D p.W && (decide (p.D ≤ 8) && (inB 0 99 p.N && decide (p.color ≤ 15)))) := rfl
      have Hone := Lib.hid hone
      clear hone
      have bad : p.one = false → platesErr l = 71 := fun h => by rw [platesErr, platesB_bad hlt (okAt_one Hp.out h)]; rfl
      have Bad := Lib.hid bad
      clear bad
      cases c1 : inB 1 p.D p.W
      · go_wp2_with fail
        refine (from_is c1 _).mono ?_
        rintro e w1 ⟨rfl, rfl⟩
        go_wp2_with fail
        go_ret
        exact ⟨by rw [Bad.out (by rw [Hone.out]; simp [c1])]; rfl, E.trans E1⟩
      by_cases c2 : 8 < p.D
      · go_wp2_with fail
        refine (from_is c1 _).mono ?_
        rintro e w1 ⟨rfl, rfl⟩
        go_wp2_with fail
        go_ret
        exact ⟨by rw [Bad.out (by rw [Hone.out]; simp [show ¬ p.D ≤ 8 by omega])]; rfl, E.trans E1⟩
      cases c3 : inB 0 99 p.N
      · go_wp2_with fail
        refine (from_is c1 _).mono ?_
        rintro e w1 ⟨rfl, rfl⟩
        go_wp2_with fail
        refine (from_is c3 _).mono ?_
        rintro e w1 ⟨rfl, rfl⟩
        go_wp2_with fail
        go_ret
        exact ⟨by rw [Bad.out (by rw [Hone.out]; simp [c3])]; rfl, E.trans E1⟩
      by_cases c4 : 15 < p.color
      · go_wp2_with fail
        refine (from_is c1 _).mono ?_
        rintro e w1 ⟨rfl, rfl⟩
        go_wp2_with fail
        refine (from_is c3 _).mono ?_
        rintro e w1 ⟨rfl, rfl⟩
        go_wp2_with fail
        go_ret
        exact ⟨by rw [Bad.out (by rw [Hone.out]; simp [show ¬ p.color ≤ 15 by omega])]; rfl, E.trans E1⟩
      have hone : p.one = true := by rw [Hone.out, c1, c3, decide_eq_true (by omega), decide_eq_true (by omega)]; rfl
      clear Hone
      have Hone := Lib.hid hone
      clear hone
      by_cases hk0 : k = 0
      · subst hk0
        simp only [Nat.zero_mul, Nat.add_zero] at p0 p1 p2 p3
        go_wp2_with fail
        refine (from_is c1 _).mono ?_
        rintro e w1 ⟨rfl, rfl⟩
        go_wp2_with fail
        refine (from_is c3 _).mono ?_
        rintro e w1 ⟨rfl, rfl⟩
        go_wp2_with fail
        go_roundw
        case rel => exact ⟨1, by omega, rfl, E.trans E1, fun j hj => by
          obtain rfl : j = 0 := by omega
          simp [okAt, plateAt_eq Hp.out, Hone.out]⟩
        case measure => simp only [intOf]; omega
      · obtain ⟨b', off', q, hA', hq, hb', q0, q1, q2, q3⟩ := (hs.ext (E.trans E1)).at_ (k := k - 1) (by omega)
        cases hA'
        have Hq := Lib.hid hq
        clear hq
        obtain ⟨W2, hW2, E2, B5, hz2⟩ := box_ W1 #[.int .i64 q.W, .int .i64 q.D, .int .i64 q.N, .int .u8 q.color] 39
        have B4' := B4.ext E2
        rw [hz1] at B5
        have b4' := B4'.cell
        have b5 := B5.cell
        have hkc : (((k - 1 : Nat) : Nat) : Int) = (k : Int) - 1 := by omega
        have ht : ((k : Int) - 1).toNat = k - 1 := by omega
        have hk1 : (1 : Int) ≤ k := by omega
        go_wp2_with fail
        refine (from_is c1 _).mono ?_
        rintro e w1 ⟨rfl, rfl⟩
        go_wp2_with fail
        refine (from_is c3 _).mono ?_
        rintro e w1 ⟨rfl, rfl⟩
        go_wp2_with fail
        refine wp_region_tail 10 (by kernel_rfl) (by kernel_rfl) ?_
        simp only [List.take_succ_cons, List.take_zero, List.drop_succ_cons, List.drop_zero]
        repeat (go_big_quiet_step ((go_at_call 87; exact quiet_grow_same (compare_c _ _ _))))
        refine wpQuiet_nil ?_
        intro W3 hW3
        have E3 : Ext W2 W3 := by
          obtain ⟨x, rfl⟩ := hW3
          exact (Ext.refl _).grow x
        clear hW3
        obtain ⟨W4, hW4, E4, B6, hz4⟩ := box_ W3 #[.int .i64 (cmpI q.W p.W), .int .i64 (cmpI q.D p.D)] 3
        have EE := (((E.trans E1).trans E2).trans E3).trans E4
        have B4'' := (B4'.ext E3).ext E4
        have B5'' := (B5.ext E3).ext E4
        have c4' := B4''.cell
        have c5' := B5''.cell
        go_wp2_with fail
        refine (or_c W3.heap.size _ _ _ B6.lt (B6.cell 0) (B6.cell 1)).mono ?_
        rintro e w1 ⟨rfl, hw1⟩
        subst w1
        rw [show orI (cmpI q.W p.W) (cmpI q.D p.D) = sideI q p from rfl]
        have next : pairB q p = true → ∀ j, j < k + 1 → okAt l j = true := fun h j hj => by
          rcases Nat.lt_or_ge j k with h' | h'
          · exact Hj.out j h'
          · obtain rfl : j = k := by omega
            rw [okAt_two Hp.out hk0 Hq.out, Hone.out, h]
            rfl
        have Next := Lib.hid next
        clear next
        have bad : pairB q p = false → platesErr l = 71 := fun h => by
          rw [platesErr, platesB_bad hlt (by rw [okAt_two Hp.out hk0 Hq.out, h, Bool.and_false])]; rfl
        have Bad := Lib.hid bad
        clear bad
        rcases side_cases q p with ⟨hs0, hpair⟩ | ⟨hs0, hpair⟩ | ⟨hs0, hpair⟩
        · have Hpair := Lib.hid hpair
          clear hpair
          rw [hs0]
          go_wp2_with fail
          go_roundw
          case rel => exact ⟨k + 1, by omega, by go_num, EE, Next.out Hpair.out⟩
          case measure => simp only [intOf]; omega
        · have Hpair := Lib.hid hpair
          clear hpair
          rw [hs0]
          go_wp2_with fail
          go_ret
          exact ⟨by rw [Bad.out Hpair.out]; rfl, EE⟩
        · have Hpair := Lib.hid hpair
          clear hpair
          rw [hs0]
          by_cases hc0 : q.color = 0
          · have hb : pairB q p = false := by rw [Hpair.out]; simp [hc0]
            have Hb := Lib.hid hb
            clear hb
            go_wp2_with fail
            go_ret
            exact ⟨by rw [Bad.out Hb.out]; rfl, EE⟩
          · by_cases hc1 : q.color < p.color
            · have hb : pairB q p = true := by rw [Hpair.out]; simp [hc0, hc1]
              have Hb := Lib.hid hb
              clear hb
              have hc2 : decide (p.color ≤ q.color) = false := by simp; omega
              have hc3 : ¬ p.color ≤ q.color := by omega
              go_wp2_with fail
              go_roundw
              case rel => exact ⟨k + 1, by omega, by go_num, EE, Next.out Hb.out⟩
              case measure => simp only [intOf]; omega
            · have hb : pairB q p = false := by rw [Hpair.out]; simp [hc1]
              have Hb := Lib.hid hb
              clear hb
              go_wp2_with fail
              go_ret
              exact ⟨by rw [Bad.out Hb.out]; rfl, EE⟩
    · obtain rfl : k = l.length := by omega
      have hgood : platesErr l = 0 := by rw [platesErr, platesB_good H1.out Hj.out]; rfl
      have Hgood := Lib.hid hgood
      clear hgood
      go_wp2_with fail
      go_ret
      exact ⟨by rw [Hgood.out]; rfl, E⟩
end Go.Proofs.YtaaeapjnjjbglaaDoor

namespace Go.Proofs.YtaaeapjnjjbglaaDoor
open Go.RowKit

def beforeB (q p : Plate) : Bool := decide (q.W < p.W) || (decide (q.W = p.W) && (decide (q.D < p.D) || (decide (q.D = p.D) && decide (q.color < p.color))))
theorem pairB_eq (q p : Plate) : pairB q p = (beforeB q p && !(decide (q.W = p.W) && (decide (q.D = p.D) && decide (q.color = 0)))) := by
  unfold pairB beforeB
  by_cases h1 : q.W < p.W
  · have : ¬ q.W = p.W := by omega
    simp [h1, this]
  · by_cases h2 : q.W = p.W
    · by_cases h3 : q.D < p.D
      · have : ¬ q.D = p.D := by omega
        simp [h2, h3, this]
      · by_cases h4 : q.D = p.D
        · by_cases h5 : q.color = 0 <;> simp [h2, h4, h5]
        · simp [h2, h3, h4]
    · simp [h1, h2]

set_option maxHeartbeats 1600000 in
theorem before_c (qW qD qN qc pW pD pN pc : Int) (w : World) :
    Calls Tryd.prog 128 #[.agg #[.int .i64 qW, .int .i64 qD, .int .i64 qN, .int .u8 qc], .agg #[.int .i64 pW, .int .i64 pD, .int .i64 pN, .int .u8 pc]] w fun e w' => e = .returned (.bool (beforeB ⟨qW, qD, qN, qc⟩ ⟨pW, pD, pN, pc⟩)) ∧ Ext w w' := by
  obtain ⟨W1, hW1, E1, B2, hz1⟩ := box_ w #[.int .i64 qW, .int .i64 qD, .int .i64 qN, .int .u8 qc] 39
  obtain ⟨W2, hW2, E2, B3, hz2⟩ := box_ W1 #[.int .i64 pW, .int .i64 pD, .int .i64 pN, .int .u8 pc] 39
  have B2' := B2.ext E2
  rw [hz1] at B3
  have b2 := B2'.cell
  have b3 := B3.cell
  by_cases h1 : qW < pW
  · go_enter Tryd.func128, Tryd.ntmps128
    go_wp2_with fail
    go_ret
    exact ⟨by simp [beforeB, h1], E1.trans E2⟩
  by_cases h2 : qW = pW
  rotate_left
  · go_enter Tryd.func128, Tryd.ntmps128
    go_wp2_with fail
    go_ret
    exact ⟨by simp [beforeB, h1, h2], E1.trans E2⟩
  subst h2
  by_cases h3 : qD < pD
  · go_enter Tryd.func128, Tryd.ntmps128
    go_wp2_with fail
    go_ret
    exact ⟨by simp [beforeB, h3], E1.trans E2⟩
  by_cases h4 : qD = pD
  rotate_left
  · go_enter Tryd.func128, Tryd.ntmps128
    go_wp2_with fail
    go_ret
    exact ⟨by simp [beforeB, h3, h4], E1.trans E2⟩
  subst h4
  by_cases h5 : qc < pc
  · go_enter Tryd.func128, Tryd.ntmps128
    go_wp2_with fail
    go_ret
    exact ⟨by simp [beforeB, h5], E1.trans E2⟩
  · go_enter Tryd.func128, Tryd.ntmps128
    go_wp2_with fail
    go_ret
    exact ⟨by simp [beforeB, h5], E1.trans E2⟩
theorem before_is {q p : Plate} {r : Bool} (h : beforeB q p = r) (w : World) :
    Calls Tryd.prog 128 #[.agg #[.int .i64 q.W, .int .i64 q.D, .int .i64 q.N, .int .u8 q.color], .agg #[.int .i64 p.W, .int .i64 p.D, .int .i64 p.N, .int .u8 p.color]] w fun e w' => e = .returned (.bool r) ∧ Ext w w' := by
  subst h
  exact before_c _ _ _ _ _ _ _ _ _
end Go.Proofs.YtaaeapjnjjbglaaDoor

namespace Go.Proofs.YtaaeapjnjjbglaaDoor
open Go.RowKit

set_option maxRecDepth 100000 in
set_option maxHeartbeats 4000000 in
theorem rPlates_c (A : Option Addr) (cap : Nat) (l : List Plate) (w : World) (hs : Plates w A cap l) :
    Calls Tryd.prog 102 #[.slice A l.length cap] w fun e w' => e = .returned (.bool (platesB l)) ∧ Ext w w' := by
  have hl := hs.len
  unfold maxLen at hl
  go_enter Tryd.func102, Tryd.ntmps102
  go_wp2_with fail
  refine (within_c _ _ _ _).mono ?_
  rintro e w0 ⟨rfl, rfl⟩
  cases h1 : inB 1 8 l.length
  · go_wp2_with fail
    go_ret
    exact ⟨by simp [platesB, h1], Ext.refl _⟩
  have hl8 : l.length ≤ 8 := by have := inB_iff.1 h1; omega
  have H1 := Lib.hid h1
  clear h1
  go_wp2_with fail
  go_loopw [3] (fun i wr => ∃ k : Nat, k ≤ l.length ∧ i = .int .i64 k ∧ Ext w wr ∧ ∀ j, j < k → okAt l j = true) (fun i _ => l.length - (intOf i).toNat)
  case atStart => exact ⟨0, by omega, rfl, Ext.refl _, fun j hj => by omega⟩
  case round =>
    obtain ⟨k, hk, rfl, E, hj⟩ := hrel
    have Hj := Lib.hid hj
    clear hj
    by_cases hlt : k < l.length
    · obtain ⟨b, off, p, rfl, hp, hb, p0, p1, p2, p3⟩ := (hs.ext E).at_ hlt
      have Hp := Lib.hid hp
      clear hp
      have hone : p.one = (inB 1 p.D p.W && (decide (p.D ≤ 8) && (inB 0 99 p.N && decide (p.color ≤ 15)))) := rfl
      have Hone := Lib.hid hone
      clear hone
      have bad : p.one = false → platesB l = false := fun h => platesB_bad hlt (okAt_one Hp.out h)
      have Bad := Lib.hid bad
      clear bad
      obtain ⟨W1, hW1, E1, B4, hz1⟩ := box_ wr #[.int .i64 p.W, .int .i64 p.D, .int .i64 p.N, .int .u8 p.color] 39
      have b4 := B4.cell
      have l4 := B4.lt
      have EE := E.trans E1
      go_wp2_with fail
      refine (within_c _ _ _ _).mono ?_
      rintro e w0 ⟨rfl, rfl⟩
      cases c1 : inB 1 p.D p.W
      · go_wp2_with fail
        go_ret
        exact ⟨by rw [Bad.out (by rw [Hone.out]; simp [c1])]; rfl, EE⟩
      have c1' := inB_iff.1 c1
      go_wp2_with fail
      refine (within_c _ _ _ _).mono ?_
      rintro e w0 ⟨rfl, rfl⟩
      cases c2 : inB 1 8 p.D
      · have c2' := inB_not.1 c2
        go_wp2_with fail
        go_ret
        exact ⟨by rw [Bad.out (by rw [Hone.out]; simp [show ¬ p.D ≤ 8 by omega])]; rfl, EE⟩
      have c2' := inB_iff.1 c2
      go_wp2_with fail
      refine (within_c _ _ _ _).mono ?_
      rintro e w0 ⟨rfl, rfl⟩
      cases c3 : inB 0 99 p.N
      · go_wp2_with fail
        go_ret
        exact ⟨by rw [Bad.out (by rw [Hone.out]; simp [c3])]; rfl, EE⟩
      by_cases c4 : 15 < p.color
      · go_wp2_with fail
        go_ret
        exact ⟨by rw [Bad.out (by rw [Hone.out]; simp [show ¬ p.color ≤ 15 by omega])]; rfl, EE⟩
      have hone : p.one = true := by rw [Hone.out, c1, c3, decide_eq_true (by omega), decide_eq_true (by omega)]; rfl
      clear Hone
      have Hone := Lib.hid hone
      clear hone
      by_cases hk0 : k = 0
      · subst hk0
        simp only [Nat.zero_mul, Nat.add_zero] at p0 p1 p2 p3
        go_wp2_with fail
        refine wp_region_grow (by kernel_rfl) (by kernel_rfl) ?_
        repeat (go_big_quiet_step (fail))
        refine wpQuiet_nil ?_
        intro W3 hW3
        have E3 : Ext W1 W3 := by
          obtain ⟨x, rfl⟩ := hW3
          exact (Ext.refl _).grow x
        clear hW3
        obtain ⟨hcW3, hfW3, hzW3⟩ := ext_facts E3
        go_wp2_with fail
        go_roundw
        case rel => exact ⟨1, by omega, rfl, EE.trans E3, fun j hj => by
          obtain rfl : j = 0 := by omega
          simp [okAt, plateAt_eq Hp.out, Hone.out]⟩
        case measure => simp only [intOf]; omega
      · obtain ⟨b', off', q, hA', hq, hb', q0, q1, q2, q3⟩ := (hs.ext EE).at_ (k := k - 1) (by omega)
        cases hA'
        have Hq := Lib.hid hq
        clear hq
        have hkc : (((k - 1 : Nat) : Nat) : Int) = (k : Int) - 1 := by omega
        have ht : ((k : Int) - 1).toNat = k - 1 := by omega
        have hk1 : (1 : Int) ≤ k := by omega
        have hk2 : 0 < k := by omega
        have next : pairB q p = true → ∀ j, j < k + 1 → okAt l j = true := fun h j hj => by
          rcases Nat.lt_or_ge j k with h' | h'
          · exact Hj.out j h'
          · obtain rfl : j = k := by omega
            rw [okAt_two Hp.out hk0 Hq.out, Hone.out, h]
            rfl
        have Next := Lib.hid next
        clear next
        have bad : pairB q p = false → platesB l = false := fun h => platesB_bad hlt (by rw [okAt_two Hp.out hk0 Hq.out, h, Bool.and_false])
        clear Bad
        have Bad := Lib.hid bad
        clear bad
        have pe := Lib.hid (pairB_eq q p)
        go_wp2_with fail
        refine wp_region_grow (by kernel_rfl) (by kernel_rfl) ?_
        iterate 9 (go_big_quiet_step (fail))
        cases hbef : beforeB q p
        · repeat (go_big_quiet_step ((go_at_call 128; exact quiet_ext (before_is hbef _))))
          refine wpQuiet_nil ?_
          intro W3 hW3
          have E3 : Ext W1 W3 := by
            obtain ⟨x, rfl⟩ := hW3
            exact (Ext.refl _).grow x
          clear hW3
          go_wp2_with fail
          go_ret
          exact ⟨by rw [Bad.out (by rw [pe.out, hbef]; rfl)]; rfl, EE.trans E3⟩
        iterate 3 (go_big_quiet_step ((go_at_call 128; exact quiet_ext (before_is hbef _))))
        by_cases d1 : q.W = p.W
        · by_cases d2 : q.D = p.D
          · by_cases d3 : q.color = 0
            · repeat (go_big_quiet_step (fail))
              refine wpQuiet_nil ?_
              intro W3 hW3
              have E3 : Ext W1 W3 := by
                obtain ⟨x, rfl⟩ := hW3
                exact (Ext.refl _).grow x
              clear hW3
              go_wp2_with fail
              go_ret
              exact ⟨by rw [Bad.out (by rw [pe.out, hbef]; simp [d1, d2, d3])]; rfl, EE.trans E3⟩
            · repeat (go_big_quiet_step (fail))
              refine wpQuiet_nil ?_
              intro W3 hW3
              have E3 : Ext W1 W3 := by
                obtain ⟨x, rfl⟩ := hW3
                exact (Ext.refl _).grow x
              clear hW3
              go_wp2_with fail
              go_roundw
              case rel => exact ⟨k + 1, by omega, by go_num, EE.trans E3, Next.out (by rw [pe.out, hbef]; simp [d3])⟩
              case measure => simp only [intOf]; omega
          · have d2' : (q.D == p.D) = false := by simpa using d2
            repeat (go_big_quiet_step (fail))
            refine wpQuiet_nil ?_
            intro W3 hW3
            have E3 : Ext W1 W3 := by
              obtain ⟨x, rfl⟩ := hW3
              exact (Ext.refl _).grow x
            clear hW3
            go_wp2_with fail
            go_roundw
            case rel => exact ⟨k + 1, by omega, by go_num, EE.trans E3, Next.out (by rw [pe.out, hbef]; simp [d2])⟩
            case measure => simp only [intOf]; omega
        · have d1' : (q.W == p.W) = false := by simpa using d1
          repeat (go_big_quiet_step (fail))
          refine wpQuiet_nil ?_
          intro W3 hW3
          have E3 : Ext W1 W3 := by
            obtain ⟨x, rfl⟩ := hW3
            exact (Ext.refl _).grow x
          clear hW3
          go_wp2_with fail
          go_roundw
          case rel => exact ⟨k + 1, by omega, by go_num, EE.trans E3, Next.out (by rw [pe.out, hbef]; simp [d1])⟩
          case measure => simp only [intOf]; omega
    · obtain rfl : k = l.length := by omega
      have hgood : platesB l = true := platesB_good H1.out Hj.out
      have Hgood := Lib.hid hgood
      clear hgood
      go_wp2_with fail
      go_ret
      exact ⟨by rw [Hgood.out]; rfl, E⟩
theorem rCheckPlates_c (A : Option Addr) (cap : Nat) (l : List Plate) (w : World) (hs : Plates w A cap l) :
    Calls Tryd.prog 73 #[.slice A l.length cap] w fun e w' => e = .returned (.int .i64 (platesErr l)) ∧ Ext w w' := by
  go_enter Tryd.func73, Tryd.ntmps73
  go_wp2_with fail
  refine (rPlates_c A cap l _ hs).mono ?_
  rintro e w1 ⟨rfl, E1⟩
  cases h : platesB l
  · have He := Lib.hid (show platesErr l = 71 by rw [platesErr, h]; rfl)
    go_wp2_with fail
    go_ret
    exact ⟨by rw [He.out]; rfl, E1⟩
  · have He := Lib.hid (show platesErr l = 0 by rw [platesErr, h]; rfl)
    go_wp2_with fail
    go_ret
    exact ⟨by rw [He.out]; rfl, E1⟩
end Go.Proofs.YtaaeapjnjjbglaaDoor

namespace Go.Proofs.YtaaeapjnjjbglaaDoor
open Go.RowKit

theorem lies_is {s : Shape} {A : Option Addr} {cap : Nat} {l : List Plate} {PA : Option Addr} {pcap : Nat} {a : Laid} {r : Bool} (h : liesB s l a = r) (ok : s.Ok) (okl : platesB l = true) (w : World) (hs : Bytes w A cap s.cells) (hl : Plates w PA pcap l) :
    Calls Tryd.prog 106 #[.agg #[.int .i64 s.W, .int .i64 s.D, .int .i64 s.H, .slice A s.cells.length cap], .slice PA l.length pcap, .agg #[.int .i64 a.plate, .int .i64 a.x, .int .i64 a.y, .int .i64 a.z, .bool a.turned]] w fun e w' =>
      e = .returned (.bool r) ∧ Ext w w' := by
  subst h
  exact lies_f s A cap l PA pcap _ _ _ _ _ ok okl w hs hl
theorem by_is {l : List Plate} {A : Option Addr} {cap : Nat} {CA : Option Addr} {ccap : Nat} {c : List Laid} {x y z r : Int} (h : byI l c x y z = r) (okl : platesB l = true) (hc : ∀ (k : Nat) (a : Laid), c[k]? = some a → a.Ok l) (hlen : c.length ≤ 1000) (w : World) (hl : Plates w A cap l) (hcs : Laids w CA ccap c) :
    Calls Tryd.prog 103 #[.slice A l.length cap, .slice CA c.length ccap, .int .i64 x, .int .i64 y, .int .i64 z] w fun e w' => e = .returned (.int .i64 r) ∧ Ext w w' := by
  subst h
  exact by_c A cap l CA ccap c x y z okl hc hlen w hl hcs
theorem comp_bad {s : Shape} {l : List Plate} {c : List Laid} {k : Nat} (hk : k < c.length) (h : compAt s l c k = false) : compB s l c = false := by
  unfold compB
  rw [Bool.and_eq_false_iff]
  left
  rw [List.all_eq_false]
  exact ⟨k, List.mem_range.2 hk, by simp [h]⟩
theorem comp_open {s : Shape} {l : List Plate} {c : List Laid} {k : Nat} (hk : k < s.cells.length) (h : coveredAt s l c k = false) : compB s l c = false := by
  unfold compB
  rw [Bool.and_eq_false_iff]
  right
  rw [List.all_eq_false]
  exact ⟨k, List.mem_range.2 hk, by simp [h]⟩
theorem comp_good {s : Shape} {l : List Plate} {c : List Laid} (h1 : ∀ j, j < c.length → compAt s l c j = true) (h2 : ∀ j, j < s.cells.length → coveredAt s l c j = true) : compB s l c = true := by
  unfold compB
  rw [Bool.and_eq_true, List.all_eq_true, List.all_eq_true]
  exact ⟨fun j hj => h1 j (List.mem_range.1 hj), fun j hj => h2 j (List.mem_range.1 hj)⟩

/-- The error of a composition. -/
def compErr (s : Shape) (l : List Plate) (c : List Laid) : Int := if s.valid = true then (if platesB l = true then (if compB s l c = true then 0 else 8) else 71) else 70
def askedErr (s : Shape) (l : List Plate) : Int := if s.valid = true then platesErr l else 70
set_option maxHeartbeats 1000000 in
theorem asked_c (s : Shape) (A : Option Addr) (cap : Nat) (l : List Plate) (PA : Option Addr) (pcap : Nat) (w : World) (hs : Bytes w A cap s.cells) (hl : Plates w PA pcap l) :
    Calls Tryd.prog 41 #[.agg #[.int .i64 s.W, .int .i64 s.D, .int .i64 s.H, .slice A s.cells.length cap], .slice PA l.length pcap] w fun e w' =>
      e = .returned (.int .i64 (askedErr s l)) ∧ Ext w w' := by
  obtain ⟨W1, hW1, E1, B1, hz1⟩ := box_ w #[.int .i64 s.W, .int .i64 s.D, .int .i64 s.H, .slice A s.cells.length cap] 24
  have b1 := B1.cell
  obtain ⟨v, hv⟩ : ∃ v, s.valid = v := ⟨_, rfl⟩
  go_enter Tryd.func41, Tryd.ntmps41
  go_wp2_with fail
  refine (validShape_c A cap s.W s.D s.H s.cells _ (hs.ext E1)).mono ?_
  rintro e w2 ⟨rfl, E2⟩
  rw [show (⟨s.W, s.D, s.H, s.cells⟩ : Shape) = s from rfl]
  rw [hv]
  have Hv := Lib.hid hv
  clear hv
  cases v
  · go_wp2_with fail
    go_ret
    exact ⟨by rw [askedErr, Hv.out]; rfl, E1.trans E2⟩
  · go_wp2_with fail
    refine (rCheckPlates_c PA pcap l _ ((hl.ext E1).ext E2)).mono ?_
    rintro e w3 ⟨rfl, E3⟩
    go_wp2_with fail
    go_ret
    exact ⟨by rw [askedErr, Hv.out, if_pos rfl]; rfl, (E1.trans E2).trans E3⟩
end Go.Proofs.YtaaeapjnjjbglaaDoor
