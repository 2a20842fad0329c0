/- Plates: a list of them in memory, and which lists are valid. Compare and Or of the library. -/
import Derived.Test.YtpikemglnnjemaaValid
import Derived.Test.YtpikemglnnjemaaTail
namespace Go.Proofs.Ytpikemglnnjemaa
open Go.RowKit

structure Plate where
  W : Int
  D : Int
  N : Int
  color : Int
def Plate.cells (p : Plate) : List Value := [.int .i64 p.W, .int .i64 p.D, .int .i64 p.N, .int .u8 p.color]
def Plates (w : World) (A : Option Addr) (cap : Nat) (l : List Plate) : Prop := SliceIs w A l.length cap 4 (l.map Plate.cells)
theorem Plates.ext {w w' : World} {A : Option Addr} {cap : Nat} {l : List Plate} (h : Plates w A cap l) (e : Ext w w') : Plates w' A cap l := SliceIs.ext h e
theorem Plates.len {w : World} {A : Option Addr} {cap : Nat} {l : List Plate} (h : Plates w A cap l) : l.length ≤ maxLen := Nat.le_trans h.le h.small
theorem Plates.at_ {w : World} {A : Option Addr} {cap : Nat} {l : List Plate} (h : Plates w A cap l) {k : Nat} (hk : k < l.length) :
    ∃ b off p, A = some ⟨b, off, none⟩ ∧ l[k]? = some p ∧ b < w.heap.size ∧ w.cell? ⟨b, off + k * 4, none⟩ = some (.int .i64 p.W) ∧ w.cell? ⟨b, off + k * 4 + 1, none⟩ = some (.int .i64 p.D) ∧
      w.cell? ⟨b, off + k * 4 + 2, none⟩ = some (.int .i64 p.N) ∧ w.cell? ⟨b, off + k * 4 + 3, none⟩ = some (.int .u8 p.color) := by
  obtain ⟨b, off, hA, hb, hc⟩ := SliceIs.cells h (by omega)
  have hget : l[k]? = some l[k] := List.getElem?_eq_getElem hk
  have hr : (l.map Plate.cells)[k]? = some l[k].cells := by rw [List.getElem?_map, hget]; rfl
  exact ⟨b, off, l[k], hA, hget, hb, hc k _ hr 0 _ rfl, hc k _ hr 1 _ rfl, hc k _ hr 2 _ rfl, hc k _ hr 3 _ rfl⟩

/-! One plate by itself; one behind another. -/
def Plate.one (p : Plate) : Bool := inB 1 p.D p.W && (decide (p.D ≤ 8) && (inB 0 99 p.N && decide (p.color ≤ 15)))
def pairB (q p : Plate) : Bool := decide (q.W < p.W) || (decide (q.W = p.W) && (decide (q.D < p.D) || (decide (q.D = p.D) && (decide (q.color ≠ 0) && decide (q.color < p.color)))))
def plateAt (l : List Plate) (k : Nat) : Plate := l.getD k ⟨0, 0, 0, 0⟩
def okAt (l : List Plate) (k : Nat) : Bool := (plateAt l k).one && (decide (k = 0) || pairB (plateAt l (k - 1)) (plateAt l k))
def platesB (l : List Plate) : Bool := inB 1 8 l.length && (List.range l.length).all (okAt l)
def platesErr (l : List Plate) : Int := if platesB l then 0 else 71
theorem platesB_bad {l : List Plate} {k : Nat} (hk : k < l.length) (h : okAt l k = false) : platesB l = false := by
  unfold platesB
  rw [Bool.and_eq_false_iff]
  right
  rw [List.all_eq_false]
  exact ⟨k, List.mem_range.2 hk, by simp [h]⟩
theorem platesB_good {l : List Plate} (h1 : inB 1 8 l.length = true) (h : ∀ j, j < l.length → okAt l j = true) : platesB l = true := by
  unfold platesB
  rw [Bool.and_eq_true, List.all_eq_true]
  exact ⟨h1, fun j hj => h j (List.mem_range.1 hj)⟩
theorem plateAt_eq {l : List Plate} {k : Nat} {p : Plate} (h : l[k]? = some p) : plateAt l k = p := by simp [plateAt, h]

/-! cmp.Compare, cmp.Or. -/
def cmpI (a b : Int) : Int := if a < b then -1 else if b < a then 1 else 0
theorem isNaN_c (a : Int) (w : World) : Calls Try.prog 46 #[.int .i64 a] w fun e w' => e = .returned (.bool false) ∧ w = w' := by
  go_enter Try.func46, Try.ntmps46
  go_wp2
  go_ret
  exact ⟨by simp, rfl⟩
set_option maxHeartbeats 400000 in
theorem compare_c (a b : Int) (w : World) : Calls Try.prog 36 #[.int .i64 a, .int .i64 b] w fun e w' => e = .returned (.int .i64 (cmpI a b)) ∧ w = w' := by
  by_cases h1 : a < b
  · go_enter Try.func36, Try.ntmps36
    go_wp2_with (go_at_call 46; refine (isNaN_c _ _).mono ?_; rintro e w' ⟨rfl, rfl⟩)
    go_ret
    exact ⟨by simp [cmpI, h1], rfl⟩
  · by_cases h2 : b < a
    · go_enter Try.func36, Try.ntmps36
      go_wp2_with (go_at_call 46; refine (isNaN_c _ _).mono ?_; rintro e w' ⟨rfl, rfl⟩)
      go_ret
      exact ⟨by simp [cmpI, h1, h2], rfl⟩
    · have hc : cmpI a b = 0 := by rw [cmpI, if_neg h1, if_neg h2]
      have Hc := Lib.hid hc
      clear hc
      go_enter Try.func36, Try.ntmps36
      go_wp2_with (go_at_call 46; refine (isNaN_c _ _).mono ?_; rintro e w' ⟨rfl, rfl⟩)
      go_ret
      exact ⟨by rw [Hc.out]; rfl, rfl⟩
def orI (a b : Int) : Int := if a = 0 then b else a
set_option maxHeartbeats 800000 in
theorem or_c (B : Nat) (a b : Int) (w : World) (hB : B < w.heap.size) (h0 : w.cell? ⟨B, 0, none⟩ = some (.int .i64 a)) (h1 : w.cell? ⟨B, 1, none⟩ = some (.int .i64 b)) :
    Calls Try.prog 35 #[.slice (some ⟨B, 0, none⟩) 2 2] w fun e w' => e = .returned (.int .i64 (orI a b)) ∧ w = w' := by
  by_cases ha : a = 0
  · subst ha
    by_cases hb : b = 0
    · subst hb
      go_enter Try.func35, Try.ntmps35
      go_wp2
      go_loop [8] (fun i => ∃ k : Nat, k ≤ 2 ∧ i = .int .i64 k) (fun i => 2 - (intOf i).toNat)
      case atStart => exact ⟨0, by omega, rfl⟩
      case round =>
        obtain ⟨k, hk, rfl⟩ := hrel
        obtain rfl | rfl | rfl : k = 0 ∨ k = 1 ∨ k = 2 := by omega
        · go_wp2
          go_round
          case rel => exact ⟨1, by omega, rfl⟩
          case measure => simp [intOf]
        · go_wp2
          go_round
          case rel => exact ⟨2, by omega, rfl⟩
          case measure => simp [intOf]
        · go_wp2
          go_ret
          exact ⟨rfl, rfl⟩
    · go_enter Try.func35, Try.ntmps35
      go_wp2
      go_loop [8] (fun i => ∃ k : Nat, k ≤ 1 ∧ i = .int .i64 k) (fun i => 2 - (intOf i).toNat)
      case atStart => exact ⟨0, by omega, rfl⟩
      case round =>
        obtain ⟨k, hk, rfl⟩ := hrel
        obtain rfl | rfl : k = 0 ∨ k = 1 := by omega
        · go_wp2
          go_round
          case rel => exact ⟨1, by omega, rfl⟩
          case measure => simp [intOf]
        · go_wp2
          go_ret
          exact ⟨rfl, rfl⟩
  · go_enter Try.func35, Try.ntmps35
    go_wp2
    go_loop [8] (fun i => i = .int .i64 0) (fun i => 0)
    case atStart => rfl
    case round =>
      subst hrel
      go_wp2
      go_ret
      exact ⟨by simp [orI, ha], rfl⟩
end Go.Proofs.Ytpikemglnnjemaa
