/- The board: the numbers of full cells; at. -/
import Derived.Test.YtpikemglnnjemaaPlates
import Derived.Test.YtpikemglnnjemaaExt
namespace Go.Proofs.Ytpikemglnnjemaa
open Go.RowKit

/-- The slice reads as these numbers. -/
def Ints (w : World) (A : Option Addr) (cap : Nat) (xs : List Int) : Prop := SliceIs w A xs.length cap 1 (xs.map fun n => [.int .i64 n])
theorem Ints.ext {w w' : World} {A : Option Addr} {cap : Nat} {xs : List Int} (h : Ints w A cap xs) (e : Ext w w') : Ints w' A cap xs := SliceIs.ext h e
theorem Ints.len {w : World} {A : Option Addr} {cap : Nat} {xs : List Int} (h : Ints w A cap xs) : xs.length ≤ maxLen := Nat.le_trans h.le h.small
theorem Ints.at_ {w : World} {A : Option Addr} {cap : Nat} {xs : List Int} (h : Ints w A cap xs) {k : Nat} {n : Int} (hk : xs[k]? = some n) :
    ∃ b off, A = some ⟨b, off, none⟩ ∧ b < w.heap.size ∧ w.cell? ⟨b, off + k, none⟩ = some (.int .i64 n) := by
  have hlt : k < xs.length := (List.getElem?_eq_some_iff.1 hk).1
  obtain ⟨b, off, rfl, hb, hc⟩ := SliceIs.cells h (by omega)
  have hc0 := hc k [.int .i64 n] (by rw [List.getElem?_map, hk]; rfl) 0 _ rfl
  simp only [Nat.mul_one, Nat.add_zero] at hc0
  exact ⟨b, off, rfl, hb, hc0⟩

/-! ### the numbers of full cells -/
/-- The number of the cell with an index: how many full cells are before it; -1 if it is not full. -/
def numOf (cs : List Int) (i : Nat) : Int := if cs.getD i 0 = 0 then -1 else (fullN (cs.take i) : Int)
def numsOf (cs : List Int) : List Int := (List.range cs.length).map (numOf cs)
theorem numsOf_len (cs : List Int) : (numsOf cs).length = cs.length := by simp [numsOf]
theorem numsOf_get {cs : List Int} {i : Nat} (h : i < cs.length) : (numsOf cs)[i]? = some (numOf cs i) := by simp [numsOf, h]
theorem numOf_lo (cs : List Int) (i : Nat) : -1 ≤ numOf cs i := by
  unfold numOf
  split <;> omega
theorem numOf_hi {cs : List Int} {i : Nat} (h : i < cs.length) : numOf cs i < fullN cs := by
  unfold numOf
  split
  · omega
  · rename_i h0
    have hc : cs[i]? = some cs[i] := List.getElem?_eq_getElem h
    have h1 := fullN_succ hc
    rw [List.getD_eq_getElem?_getD, hc] at h0
    simp only [Option.getD_some] at h0
    rw [if_neg h0] at h1
    have h2 : fullN (cs.take (i + 1)) ≤ fullN cs := (List.take_sublist _ _).countP_le
    omega

/-- The index of a place. -/
def Shape.idx (s : Shape) (x y z : Int) : Int := (z * s.D + y) * s.W + x
def Shape.inside (s : Shape) (x y z : Int) : Bool := inB 0 (s.W - 1) x && (inB 0 (s.D - 1) y && inB 0 (s.H - 1) z)
/-- The number of a full cell; -1 if it is none. -/
def Shape.num (s : Shape) (x y z : Int) : Int := if s.inside x y z then numOf s.cells (s.idx x y z).toNat else -1

structure Shape.Ok (s : Shape) : Prop where
  w : 1 ≤ s.W ∧ s.W ≤ 8
  d : 1 ≤ s.D ∧ s.D ≤ 8
  h : 1 ≤ s.H ∧ s.H ≤ 4
  len : (s.cells.length : Int) = s.W * s.D * s.H
  plain : ∀ c ∈ s.cells, c ≤ 15
  full : 1 ≤ fullN s.cells ∧ fullN s.cells ≤ 16
theorem Shape.ok_of {s : Shape} (h : s.valid = true) : s.Ok := by
  simp only [Shape.valid, Bool.and_eq_true, inB_iff, decide_eq_true_eq] at h
  obtain ⟨h1, h2, h3, h4, h5, h6⟩ := h
  refine ⟨h1, h2, h3, h4, fun c hc => ?_, by omega⟩
  have := List.all_eq_true.1 h5 c hc
  simpa using this
theorem Shape.idx_in {s : Shape} (ok : s.Ok) {x y z : Int} (h : s.inside x y z = true) : 0 ≤ s.idx x y z ∧ s.idx x y z < s.cells.length ∧ 0 ≤ z * s.D ∧ z * s.D ≤ 32 ∧ 0 ≤ (z * s.D + y) * s.W ∧ (z * s.D + y) * s.W ≤ 320 ∧ s.idx x y z ≤ 330 := by
  simp only [Shape.inside, Bool.and_eq_true, inB_iff] at h
  obtain ⟨⟨x1, x2⟩, ⟨y1, y2⟩, z1, z2⟩ := h
  obtain ⟨w1, w2⟩ := ok.w
  obtain ⟨d1, d2⟩ := ok.d
  obtain ⟨h1, h2⟩ := ok.h
  have e1 : 0 ≤ z * s.D := Int.mul_nonneg z1 (by omega)
  have e2 : z * s.D ≤ (s.H - 1) * s.D := Int.mul_le_mul_of_nonneg_right z2 (by omega)
  have e3 : 0 ≤ (z * s.D + y) * s.W := Int.mul_nonneg (by omega) (by omega)
  have e4 : (z * s.D + y) * s.W ≤ ((s.H - 1) * s.D + (s.D - 1)) * s.W := Int.mul_le_mul_of_nonneg_right (by omega) (by omega)
  have e5 : ((s.H - 1) * s.D + (s.D - 1)) * s.W = s.W * s.D * s.H - s.W := by
    rw [Int.sub_mul, Int.one_mul, Int.add_mul, Int.sub_mul, Int.sub_mul, Int.one_mul, Int.mul_comm s.H s.D, Int.mul_comm (s.D * s.H) s.W, ← Int.mul_assoc]
    omega
  have e6 : z * s.D ≤ 3 * 8 := Int.mul_le_mul (by omega) d2 (by omega) (by omega)
  have e7 : (z * s.D + y) * s.W ≤ 32 * 8 := Int.mul_le_mul (by omega) w2 (by omega) (by omega)
  unfold Shape.idx
  rw [ok.len]
  omega

/-! ### in memory -/
/-- What at reads of a board. -/
structure Base (w : World) (g : Nat) (s : Shape) (A : Option Addr) (cap : Nat) (NA : Option Addr) (ncap : Nat) : Prop where
  c0 : w.cell? ⟨g, 0, none⟩ = some (.int .i64 s.W)
  c1 : w.cell? ⟨g, 1, none⟩ = some (.int .i64 s.D)
  c2 : w.cell? ⟨g, 2, none⟩ = some (.int .i64 s.H)
  c3 : w.cell? ⟨g, 3, none⟩ = some (.slice A s.cells.length cap)
  c5 : w.cell? ⟨g, 5, none⟩ = some (.slice NA s.cells.length ncap)
  bytes : Bytes w A cap s.cells
  nums : Ints w NA ncap (numsOf s.cells)
theorem Base.ext {w w' : World} {g : Nat} {s : Shape} {A : Option Addr} {cap : Nat} {NA : Option Addr} {ncap : Nat} (h : Base w g s A cap NA ncap) (e : Ext w w') : Base w' g s A cap NA ncap :=
  ⟨e.cell h.c0, e.cell h.c1, e.cell h.c2, e.cell h.c3, e.cell h.c5, h.bytes.ext e, h.nums.ext e⟩

set_option maxHeartbeats 1000000 in
theorem at_c (x y z : Int) (g : Nat) (s : Shape) (A : Option Addr) (cap : Nat) (NA : Option Addr) (ncap : Nat) (ok : s.Ok) (w : World) (h : Base w g s A cap NA ncap) :
    Calls Try.prog 48 #[.pointer (some ⟨g, 0, none⟩), .int .i64 x, .int .i64 y, .int .i64 z] w fun e w' => e = .returned (.int .i64 (s.num x y z)) ∧ Ext w w' := by
  obtain ⟨c0, c1, c2, -, c5, -, hn⟩ := h
  have w1 := ok.w
  have d1 := ok.d
  have h1 := ok.h
  obtain ⟨w1, w2⟩ := w1
  obtain ⟨d1, d2⟩ := d1
  obtain ⟨h1, h2⟩ := h1
  go_enter Try.func48, Try.ntmps48
  go_wp2_with fail
  refine (from_c _ _ _ _).mono ?_
  rintro e w0 ⟨rfl, rfl⟩
  cases k1 : inB 0 (s.W - 1) x
  · go_wp2_with fail
    go_ret
    exact ⟨by simp [Shape.num, Shape.inside, k1], Ext.refl _⟩
  go_wp2_with fail
  refine (from_c _ _ _ _).mono ?_
  rintro e w0 ⟨rfl, rfl⟩
  cases k2 : inB 0 (s.D - 1) y
  · go_wp2_with fail
    go_ret
    exact ⟨by simp [Shape.num, Shape.inside, k2], Ext.refl _⟩
  go_wp2_with fail
  refine (from_c _ _ _ _).mono ?_
  rintro e w0 ⟨rfl, rfl⟩
  cases k3 : inB 0 (s.H - 1) z
  · go_wp2_with fail
    go_ret
    exact ⟨by simp [Shape.num, Shape.inside, k3], Ext.refl _⟩
  have hin : s.inside x y z = true := by simp [Shape.inside, k1, k2, k3]
  have hres : s.num x y z = numOf s.cells (s.idx x y z).toNat := by rw [Shape.num, if_pos hin]
  have hid := s.idx_in ok hin
  obtain ⟨i1, i2, i3, i4, i5, i6, -⟩ := hid
  rw [inB_iff] at k1 k2 k3
  obtain ⟨b, off, rfl, hb, hc⟩ := hn.at_ (numsOf_get (i := (s.idx x y z).toNat) (by omega))
  have ei : (z * s.D + y) * s.W + x = s.idx x y z := rfl
  have hi2 : (s.idx x y z) < (s.cells.length : Int) := i2
  have Hres := Lib.hid hres
  clear hres
  have hw1 : IntKind.i64.wrap (z * s.D) = z * s.D := IntWalk.i64_in _ (by omega)
  have hw2 : IntKind.i64.wrap ((z * s.D + y) * s.W) = (z * s.D + y) * s.W := IntWalk.i64_in _ (by omega)
  have hw3 : IntKind.i64.wrap (s.idx x y z) = s.idx x y z := IntWalk.i64_in _ (by omega)
  go_wp2_with fail
  refine wp_region_grow (by kernel_rfl) (by kernel_rfl) ?_
  repeat (go_big_quiet_step (fail))
  refine wpQuiet_nil ?_
  intro W3 hW3
  have E3 : Ext w W3 := by
    obtain ⟨x, rfl⟩ := hW3
    exact (Ext.refl _).grow x
  clear hW3
  obtain ⟨hcW3, hfW3, hzW3⟩ := ext_facts E3
  go_wp2_with fail
  go_ret
  exact ⟨by rw [Hres.out]; rfl, E3⟩
end Go.Proofs.Ytpikemglnnjemaa
