/- Blocks of numbers that the call makes. -/
import Derived.Test.YtpikemglnnjemaaRBy
import Derived.Laws.MakeOwn
namespace Go.Proofs.Ytpikemglnnjemaa
open Go.RowKit

def iv (n : Int) : Value := .int .i64 n
theorem Bytes.grow_ {w : World} {A : Option Addr} {cap : Nat} {cs : List Int} (h : Bytes w A cap cs) (x : Growth) : Bytes (grow w x) A cap cs := h.ext ((Ext.refl w).grow x)
theorem Plates.grow_ {w : World} {A : Option Addr} {cap : Nat} {l : List Plate} (h : Plates w A cap l) (x : Growth) : Plates (grow w x) A cap l := h.ext ((Ext.refl w).grow x)
theorem Laids.grow_ {w : World} {A : Option Addr} {cap : Nat} {c : List Laid} (h : Laids w A cap c) (x : Growth) : Laids (grow w x) A cap c := h.ext ((Ext.refl w).grow x)
theorem Shape.len_le (s : Shape) (ok : s.Ok) : s.cells.length ≤ 256 := by
  have h1 := ok.w
  have h2 := ok.d
  have h3 := ok.h
  have e := mul_bd (A := 8) (B := 8) h1.1 h1.2 h2.1 h2.2
  have e2 := mul_bd (A := 64) (B := 4) e.1 e.2 h3.1 h3.2
  have := ok.len
  omega
theorem Shape.len_pos (s : Shape) (ok : s.Ok) : 0 < s.cells.length := by
  have := ok.full
  have := fullN_le s.cells
  omega
/-- The cells of a block of numbers. -/
def intsA (xs : List Int) : Array Value := (xs.map iv).toArray
theorem intsA_get (xs : List Int) (i : Nat) : (intsA xs)[i]? = xs[i]?.map iv := by simp [intsA]
theorem intsA_set (xs : List Int) (i : Nat) (v : Int) : (intsA xs).setIfInBounds i (.int .i64 v) = intsA (xs.set i v) := by
  unfold intsA
  rw [List.setIfInBounds_toArray, List.map_set]
  rfl
theorem infoInt : (Try.prog.info? 3).map (fun i => (i.zero, i.size, i.bytes)) = some (some (.int .i64 0), 1, 8) := by kernel_rfl
theorem make_ints (n : Nat) (hn : n ≤ 100000) (w : World) : (Instr.makeSlice 93 (.int .i64 (n : Int)) (.int .i64 (n : Int))).run Try.prog w = .ok (.slice (some ⟨w.heap.size, 0, none⟩) n n) (w.alloc (.cells (intsA (List.replicate n 0)) 3)) := by
  obtain ⟨i0, hi, hz0, hz1, hz2⟩ := info_parts infoInt
  have h := run_make (P := Try.prog) w 93 3 i0 (.int .i64 0) Try.underlying93 hi hz0 .i64 .i64 (n : Int) (n : Int) (by omega) (Int.le_refl _) (by rw [hz2]; omega) (by omega)
  rw [h]
  have e : madeCells (Value.cells (.int .i64 0)) ((n : Int).toNat * i0.size) = intsA (List.replicate n 0) := by
    rw [hz1, Int.toNat_natCast, Nat.mul_one]
    apply Array.ext
    · simp [size_madeCells, intsA]
    · intro i h1 h2
      simp [madeCells, intsA, Value.cells, iv, Nat.mod_one]
  rw [e]
  simp

theorem Blk.store1 {w : World} {g : Nat} {t : TypeId} {cs : Array Value} (h : Blk w g t cs) (i : Nat) (u : Value) : ∃ w2, w.setCell ⟨g, i, none⟩ u = w2 ∧ Blk w2 g t (cs.setIfInBounds i u) ∧
    (∀ k t' cs', k ≠ g → Blk w k t' cs' → Blk w2 k t' cs') ∧ (∀ w0, Ext w0 w → w0.heap.size ≤ g → Ext w0 w2) ∧ w2.heap.size = w.heap.size :=
  ⟨_, rfl, h.set_ i u, fun _ _ _ hk hb => hb.far hk _, fun _ hE hg => hE.setCell hg _, by simp [World.setCell]⟩

theorem Ext.four {w W : World} (E : Ext w W) {a b c d : Addr} {p q r s : Value} (h0 : w.cell? a = some p) (h1 : w.cell? b = some q) (h2 : w.cell? c = some r) (h3 : w.cell? d = some s) :
    W.cell? a = some p ∧ W.cell? b = some q ∧ W.cell? c = some r ∧ W.cell? d = some s := ⟨E.cell h0, E.cell h1, E.cell h2, E.cell h3⟩
theorem Ext.five {w W : World} (E : Ext w W) {a b c d f : Addr} {p q r s t : Value} (h0 : w.cell? a = some p) (h1 : w.cell? b = some q) (h2 : w.cell? c = some r) (h3 : w.cell? d = some s) (h4 : w.cell? f = some t) :
    W.cell? a = some p ∧ W.cell? b = some q ∧ W.cell? c = some r ∧ W.cell? d = some s ∧ W.cell? f = some t := ⟨E.cell h0, E.cell h1, E.cell h2, E.cell h3, E.cell h4⟩

/-! ### how many of each plate -/
def usedL (l : List Plate) (c : List Laid) (k : Nat) : List Int := (List.range l.length).map fun p : Nat => (usedN c k (p : Int) : Int)
theorem usedL_len (l : List Plate) (c : List Laid) (k : Nat) : (usedL l c k).length = l.length := by simp [usedL]
theorem usedL_zero (l : List Plate) (c : List Laid) : usedL l c 0 = List.replicate l.length 0 := by
  apply List.ext_getElem?
  intro i
  simp only [usedL, List.getElem?_map, List.getElem?_replicate]
  rcases Nat.lt_or_ge i l.length with h | h
  · rw [List.getElem?_range h, if_pos h]
    simp [usedN]
  · rw [List.getElem?_eq_none (by simpa using h), if_neg (by omega)]
    rfl
theorem usedL_get {l : List Plate} {c : List Laid} {k p : Nat} (h : p < l.length) : (usedL l c k)[p]? = some (usedN c k (p : Int) : Int) := by
  simp only [usedL, List.getElem?_map, List.getElem?_range h]
  rfl
theorem usedN_succ {c : List Laid} {k : Nat} {a : Laid} (h : c[k]? = some a) (p : Int) : usedN c (k + 1) p = usedN c k p + if a.plate = p then 1 else 0 := by
  unfold usedN
  rw [List.take_add_one, h, Option.toList_some, List.countP_append]
  by_cases hp : a.plate = p <;> simp [hp]
theorem usedL_succ {l : List Plate} {c : List Laid} {k p : Nat} {a : Laid} (h : c[k]? = some a) (hp : a.plate = p) : (usedL l c k).set p (usedN c k (p : Int) + 1) = usedL l c (k + 1) := by
  apply List.ext_getElem?
  intro i
  rw [List.getElem?_set]
  rcases Nat.lt_or_ge i l.length with hi | hi
  · rw [usedL_get hi, usedL_get hi, usedN_succ h, hp]
    split
    · subst_vars
      rw [if_pos (by rw [usedL_len]; exact hi), if_pos rfl]
      rfl
    · rw [if_neg (by omega)]
      rfl
  · rw [List.getElem?_eq_none (by rw [usedL_len]; exact hi), List.getElem?_eq_none (by rw [usedL_len]; exact hi)]
    split
    · rw [if_neg (by rw [usedL_len]; omega)]
    · rfl
theorem usedN_le (c : List Laid) (k : Nat) (p : Int) : usedN c k p ≤ k := by
  unfold usedN
  have := List.countP_le_length (p := fun x : Laid => decide (x.plate = p)) (l := c.take k)
  have := List.length_take_le k c
  omega
end Go.Proofs.Ytpikemglnnjemaa
