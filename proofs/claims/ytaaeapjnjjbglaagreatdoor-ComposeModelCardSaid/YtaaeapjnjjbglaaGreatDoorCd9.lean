/- Weakness, by sets and by definition: plain. The board when it is filled. -/
import Derived.Test.YtaaeapjnjjbglaaGreatDoorCd6
import Derived.Test.YtaaeapjnjjbglaaGreatDoorCd8

namespace Go.Proofs.YtaaeapjnjjbglaaGreatDoor
open Go.RowKit

/-! ### the map of the pairs -/
theorem getK_pairs (es : List (Int × Int)) (q : Int × Int) : (∀ j, getK (pairsOf es) q = some j → es[j]? = some q) ∧ (getK (pairsOf es) q = none → q ∉ es) := by
  have h : ∀ n, ∀ es : List (Int × Int), es.length = n → (∀ j, getK (pairsOf es) q = some j → es[j]? = some q) ∧ (getK (pairsOf es) q = none → q ∉ es) := by
    intro n
    induction n with
    | zero =>
      intro es he
      obtain rfl := List.eq_nil_of_length_eq_zero he
      exact ⟨fun j hj => (by cases hj), fun _ => (by simp)⟩
    | succ n ih =>
      intro es he
      have hne : es ≠ [] := by
        rintro rfl
        simp at he
      rw [← List.dropLast_concat_getLast hne]
      generalize hp : es.getLast hne = p
      generalize hes : es.dropLast = es'
      have hl : es'.length = n := by rw [← hes]; simp [he]
      obtain ⟨i1, i2⟩ := ih es' hl
      rw [pairsOf_snoc, getK_putK]
      split
      · subst_vars
        exact ⟨fun j hj => (by cases hj; simp), fun h => (by cases h)⟩
      · rename_i hq
        constructor
        · intro j hj
          have := i1 j hj
          rw [List.getElem?_append_left (List.getElem?_eq_some_iff.1 this).1]
          exact this
        · intro hn
          rw [List.mem_append, List.mem_singleton, not_or]
          exact ⟨i2 hn, hq⟩
  exact h es.length es rfl
theorem over_lt {ab : List Int} {es : List (Int × Int)} {p : Int × Int} (h : 0 ≤ overAt ab es p) : es[(overAt ab es p).toNat]? = some (ab.getD p.1.toNat 0, ab.getD p.2.toNat 0) := by
  unfold overAt at h ⊢
  split at h
  · rename_i j hj
    rw [Int.toNat_natCast]
    exact (getK_pairs es _).1 j hj
  · omega
theorem over_iff {ab : List Int} {es : List (Int × Int)} {p : Int × Int} : 0 ≤ overAt ab es p ↔ (ab.getD p.1.toNat 0, ab.getD p.2.toNat 0) ∈ es := by
  constructor
  · intro h
    exact List.mem_of_getElem? (over_lt h)
  · intro h
    unfold overAt
    split
    · omega
    · rename_i hn
      exact absurd h ((getK_pairs es _).2 hn)

/-! ### by sets -/
def eds (s : Shape) : List (Int × Int) := edgesS s s.cells.length
def seamE (sets : List Nat) (p : Int × Int) : Bool := !(sets.any fun m => m.testBit p.1.toNat && m.testBit p.2.toNat)
def weakP (s : Shape) (sets : List Nat) (p : Int × Int) : Bool := decide (0 ≤ overAt (abv s) (eds s) p) && (seamE sets p && seamE sets ((eds s).getD (overAt (abv s) (eds s) p).toNat (0, 0)))
def weakN (s : Shape) (sets : List Nat) : Nat := (eds s).countP (weakP s sets)

/-! ### by definition -/
def seamB (s : Shape) (l : List Plate) (c : List Laid) (x y z : Int) (inX : Bool) : Bool :=
  decide (s.colorAt x y z ≠ 0) && (decide (s.colorAt (if inX then x + 1 else x) (if inX then y else y + 1) z ≠ 0) && decide (byI l c x y z ≠ byI l c (if inX then x + 1 else x) (if inX then y else y + 1) z))
def weakAt (s : Shape) (l : List Plate) (c : List Laid) (i : Nat) : Nat :=
  (if seamB s l c (s.px i) (s.py i) (s.pz i) true = true ∧ seamB s l c (s.px i) (s.py i) (s.pz i + 1) true = true then 1 else 0) +
  (if seamB s l c (s.px i) (s.py i) (s.pz i) false = true ∧ seamB s l c (s.px i) (s.py i) (s.pz i + 1) false = true then 1 else 0)
def weakTo (s : Shape) (l : List Plate) (c : List Laid) : Nat → Nat
  | 0 => 0
  | k + 1 => weakTo s l c k + weakAt s l c k

theorem seam_eq {s : Shape} {l : List Plate} {c : List Laid} {out : List Nat} {all : Nat} (ok : s.Ok) (h : SetIs s l c c.length out all) (hall : all = 2 ^ fullN s.cells - 1) {x y z u v : Int} (h1 : 0 ≤ s.num x y z) (h2 : 0 ≤ s.num u v z) :
    seamE out (s.num x y z, s.num u v z) = decide (byI l c x y z ≠ byI l c u v z) := by
  obtain ⟨i, hi, i1, i2⟩ := h.covers ok hall h1
  obtain ⟨j, hj, j1, j2⟩ := h.covers ok hall h2
  rw [byI_eq hi i1 i2, byI_eq hj j1 j2]
  obtain ⟨a, ha⟩ := Int.eq_ofNat_of_zero_le h1
  obtain ⟨b, hb⟩ := Int.eq_ofNat_of_zero_le h2
  have bit : ∀ k, k < c.length → ((out.getD k 0).testBit a = true ↔ k = i) ∧ ((out.getD k 0).testBit b = true ↔ k = j) := fun k hk => by
    have ck := h.cover k hk
    rw [cover_bits ok ck ha, cover_bits ok ck hb]
    exact ⟨⟨i2 k hk, fun e => by rw [e]; exact i1⟩, j2 k hk, fun e => by rw [e]; exact j1⟩
  unfold seamE
  rw [ha, hb]
  simp only [Int.toNat_natCast]
  have hany : (out.any fun m => m.testBit a && m.testBit b) = decide (i = j) := by
    rw [Bool.eq_iff_iff, List.any_eq_true, decide_eq_true_eq]
    constructor
    · rintro ⟨m, hm, hab⟩
      obtain ⟨k, hk⟩ := List.getElem?_of_mem hm
      have hlt : k < c.length := by rw [← h.len]; exact (List.getElem?_eq_some_iff.1 hk).1
      have hg : out.getD k 0 = m := by rw [List.getD_eq_getElem?_getD, hk]; rfl
      rw [Bool.and_eq_true] at hab
      have b1 := (bit k hlt).1.1 (by rw [hg]; exact hab.1)
      have b2 := (bit k hlt).2.1 (by rw [hg]; exact hab.2)
      omega
    · rintro rfl
      have hk : i < out.length := by rw [h.len]; exact hi
      have hg : out[i]? = some (out.getD i 0) := by
        rw [List.getD_eq_getElem?_getD, List.getElem?_eq_getElem hk]
        rfl
      refine ⟨out.getD i 0, List.mem_of_getElem? hg, ?_⟩
      rw [(bit i hi).1.2 rfl, (bit i hi).2.2 rfl]
      rfl
  rw [hany]
  by_cases e : i = j
  · subst e
    simp
  · have : ¬ ((i : Int) = (j : Int)) := by omega
    simp [e, this]
theorem seamB_eq {s : Shape} {l : List Plate} {c : List Laid} {out : List Nat} {all : Nat} (ok : s.Ok) (h : SetIs s l c c.length out all) (hall : all = 2 ^ fullN s.cells - 1) (x y z : Int) (inX : Bool) :
    seamB s l c x y z inX = (decide (0 ≤ s.num x y z) && (decide (0 ≤ s.num (if inX then x + 1 else x) (if inX then y else y + 1) z) && seamE out (s.num x y z, s.num (if inX then x + 1 else x) (if inX then y else y + 1) z))) := by
  unfold seamB
  have e1 := Shape.num_iff (s := s) x y z
  have e2 := Shape.num_iff (s := s) (if inX then x + 1 else x) (if inX then y else y + 1) z
  by_cases h1 : 0 ≤ s.num x y z
  · by_cases h2 : 0 ≤ s.num (if inX then x + 1 else x) (if inX then y else y + 1) z
    · rw [seam_eq ok h hall h1 h2]
      simp only [e1.1 h1, e2.1 h2, h1, h2, ne_eq, not_false_eq_true, decide_true, Bool.true_and]
    · have t1 : decide (s.colorAt (if inX then x + 1 else x) (if inX then y else y + 1) z ≠ 0) = false := decide_eq_false fun hh => h2 (e2.2 hh)
      rw [t1, decide_eq_false h2]
      simp
  · have t1 : decide (s.colorAt x y z ≠ 0) = false := decide_eq_false fun hh => h1 (e1.2 hh)
    rw [t1, decide_eq_false h1]
    simp
/-- The pair of a cell and the next one in x, or in y. -/
def pairAt (s : Shape) (x y z : Int) (inX : Bool) : Int × Int := (s.num x y z, s.num (if inX then x + 1 else x) (if inX then y else y + 1) z)
theorem pair_mem {s : Shape} (ok : s.Ok) {x y z : Int} {inX : Bool} : pairAt s x y z inX ∈ eds s ↔ 0 ≤ s.num x y z ∧ 0 ≤ s.num (if inX then x + 1 else x) (if inX then y else y + 1) z := by
  constructor
  · intro h
    have := edges_bd ok (Nat.le_refl _) _ h
    exact ⟨this.1.1, this.2.1⟩
  · rintro ⟨h1, h2⟩
    have hin : s.inside x y z = true := num_in (by omega)
    have hid := s.idx_in ok hin
    obtain ⟨p1, p2, p3⟩ := s.place_of ok hin
    have hne : s.num x y z = numOf s.cells (s.idx x y z).toNat := s.num_eq hin
    have key : ∀ k, (s.idx x y z).toNat < k → pairAt s x y z inX ∈ edgesS s k := by
      intro k
      induction k with
      | zero => intro h; omega
      | succ k ih =>
        intro hk
        unfold edgesS
        rcases Nat.lt_or_ge (s.idx x y z).toNat k with h | h
        · split
          · exact ih h
          · exact List.mem_append_left _ (ih h)
        · have e : k = (s.idx x y z).toNat := by omega
          rw [if_neg (by rw [e]; omega)]
          apply List.mem_append_right
          unfold edgesAt pairAt
          rw [e, p1, p2, p3, ← hne]
          cases inX
          · have h2 : 0 ≤ s.num x (y + 1) z := h2
            rw [if_pos h2]
            simp
          · have h2 : 0 ≤ s.num (x + 1) y z := h2
            rw [if_pos h2]
            simp
    exact key _ (by omega)
theorem weakP_eq {s : Shape} {l : List Plate} {c : List Laid} {out : List Nat} {all : Nat} (ok : s.Ok) (h : SetIs s l c c.length out all) (hall : all = 2 ^ fullN s.cells - 1) {x y z : Int} {inX : Bool} (h1 : 0 ≤ s.num x y z)
    (h2 : 0 ≤ s.num (if inX then x + 1 else x) (if inX then y else y + 1) z) : weakP s out (pairAt s x y z inX) = (seamB s l c x y z inX && seamB s l c x y (z + 1) inX) := by
  obtain ⟨a, ha⟩ := Int.eq_ofNat_of_zero_le h1
  obtain ⟨b, hb⟩ := Int.eq_ofNat_of_zero_le h2
  have la : a < (abv s).length := by
    have := num_lt_full ok x y z
    rw [abv_len]
    omega
  have lb : b < (abv s).length := by
    have := num_lt_full ok (if inX then x + 1 else x) (if inX then y else y + 1) z
    rw [abv_len]
    omega
  have ga : (abv s).getD a 0 = s.num x y (z + 1) := by
    have := abv_of ok ha
    rw [List.getD_eq_getElem?_getD, List.getElem?_eq_getElem la] at this ⊢
    exact this
  have gb : (abv s).getD b 0 = s.num (if inX then x + 1 else x) (if inX then y else y + 1) (z + 1) := by
    have := abv_of ok hb
    rw [List.getD_eq_getElem?_getD, List.getElem?_eq_getElem lb] at this ⊢
    exact this
  have hq : ((abv s).getD (pairAt s x y z inX).1.toNat 0, (abv s).getD (pairAt s x y z inX).2.toNat 0) = pairAt s x y (z + 1) inX := by
    show ((abv s).getD (s.num x y z).toNat 0, (abv s).getD (s.num (if inX then x + 1 else x) (if inX then y else y + 1) z).toNat 0) = _
    rw [ha, hb, Int.toNat_natCast, Int.toNat_natCast, ga, gb]
    rfl
  unfold weakP
  have hov := over_iff (ab := abv s) (es := eds s) (p := pairAt s x y z inX)
  rw [hq, pair_mem ok] at hov
  rw [seamB_eq ok h hall x y z inX, seamB_eq ok h hall x y (z + 1) inX]
  by_cases ho : 0 ≤ overAt (abv s) (eds s) (pairAt s x y z inX)
  · have hlt := over_lt ho
    rw [hq] at hlt
    have hg : (eds s).getD (overAt (abv s) (eds s) (pairAt s x y z inX)).toNat (0, 0) = pairAt s x y (z + 1) inX := by
      rw [List.getD_eq_getElem?_getD, hlt]
      rfl
    obtain ⟨o1, o2⟩ := hov.1 ho
    rw [hg]
    simp only [ho, h1, h2, o1, o2, decide_true, Bool.true_and]
    rfl
  · have hn : ¬ (0 ≤ s.num x y (z + 1) ∧ 0 ≤ s.num (if inX then x + 1 else x) (if inX then y else y + 1) (z + 1)) := fun e => ho (hov.2 e)
    rw [decide_eq_false ho, Bool.false_and]
    symm
    rw [Bool.and_eq_false_iff]
    right
    by_cases o1 : 0 ≤ s.num x y (z + 1)
    · have o2 : ¬ 0 ≤ s.num (if inX then x + 1 else x) (if inX then y else y + 1) (z + 1) := fun e => hn ⟨o1, e⟩
      simp only [o2, decide_false, Bool.false_and, Bool.and_false]
    · simp only [o1, decide_false, Bool.false_and]
theorem weak_to {s : Shape} {l : List Plate} {c : List Laid} {out : List Nat} {all : Nat} (ok : s.Ok) (h : SetIs s l c c.length out all) (hall : all = 2 ^ fullN s.cells - 1) : ∀ {k : Nat}, k ≤ s.cells.length →
    (edgesS s k).countP (weakP s out) = weakTo s l c k
  | 0, _ => rfl
  | k + 1, hk => by
    have ih := weak_to ok h hall (show k ≤ s.cells.length by omega)
    have hn := num_place ok (show k < s.cells.length by omega)
    unfold edgesS weakTo weakAt
    have dead : ∀ (z : Int) (inX : Bool), s.num (s.px k) (s.py k) (s.pz k) < 0 → seamB s l c (s.px k) (s.py k) (s.pz k) inX = false := fun z inX hh => by
      rw [seamB_eq ok h hall, decide_eq_false (by omega), Bool.false_and]
    split
    · rename_i h0
      rw [← hn] at h0
      rw [ih, dead 0 true h0, dead 0 false h0]
      simp
    · rename_i h0
      rw [← hn] at h0
      rw [List.countP_append, ih]
      congr 1
      unfold edgesAt
      rw [List.countP_append, ← hn]
      have side : ∀ inX : Bool, (if 0 ≤ s.num (if inX then s.px k + 1 else s.px k) (if inX then s.py k else s.py k + 1) (s.pz k) then [pairAt s (s.px k) (s.py k) (s.pz k) inX] else []).countP (weakP s out) =
          if seamB s l c (s.px k) (s.py k) (s.pz k) inX = true ∧ seamB s l c (s.px k) (s.py k) (s.pz k + 1) inX = true then 1 else 0 := fun inX => by
        by_cases h2 : 0 ≤ s.num (if inX then s.px k + 1 else s.px k) (if inX then s.py k else s.py k + 1) (s.pz k)
        · have := weakP_eq (l := l) (c := c) ok h hall (x := s.px k) (y := s.py k) (z := s.pz k) (inX := inX) (by omega) h2
          rw [if_pos h2, List.countP_singleton, this]
          simp only [Bool.and_eq_true]
        · rw [if_neg h2]
          have : seamB s l c (s.px k) (s.py k) (s.pz k) inX = false := by
            rw [seamB_eq ok h hall, decide_eq_false h2, Bool.false_and, Bool.and_false]
          rw [this]
          simp
      have s1 := side true
      have s2 := side false
      exact congr (congrArg _ s1) s2
theorem weak_eq {s : Shape} {l : List Plate} {c : List Laid} {out : List Nat} {all : Nat} (ok : s.Ok) (h : SetIs s l c c.length out all) (hall : all = 2 ^ fullN s.cells - 1) : weakN s out = weakTo s l c s.cells.length :=
  weak_to ok h hall (Nat.le_refl _)
end Go.Proofs.YtaaeapjnjjbglaaGreatDoor

namespace Go.Proofs.YtaaeapjnjjbglaaGreatDoor
open Go.RowKit

theorem own_any {w : World} {b : Nat} {e : TypeId} {sz : Nat} {A : Option Addr} {n cap : Nat} {rows : List (List Value)} (hsz : 0 < sz) (hw : ∀ r ∈ rows, r.length = sz) (hn : rows.length = n) (h : w.ownsRow b e sz (.slice A n cap) n rows.flatten) : SliceIs w A n cap sz rows := by
  rcases Nat.eq_zero_or_pos n with h0 | h0
  · subst h0
    rcases h.2 with ⟨hv, _⟩ | ⟨g, cap', cur, hv, _, _, h1, h2, _⟩
    · cases hv
      exact ⟨hn, Nat.le_refl _, Nat.zero_le _, hw, fun h => by omega⟩
    · cases hv
      exact ⟨hn, h1, h2, hw, fun h => by omega⟩
  · exact own_slice hsz hw hn h0 h
theorem flat_ints (xs : List Int) : (xs.map fun n => [Value.int .i64 n]).flatten = xs.map iv := by
  induction xs with
  | nil => rfl
  | cons x l ih => simp [iv, ih]
theorem flat_maps (ms : List Nat) : (ms.map fun n => [mapV n]).flatten = ms.map mapV := by
  induction ms with
  | nil => rfl
  | cons x l ih => simp [ih]
theorem own_ints {w : World} {b : Nat} {A : Option Addr} {cap : Nat} {xs : List Int} (h : w.ownsRow b 3 1 (.slice A xs.length cap) xs.length (xs.map iv)) : Ints w A cap xs :=
  own_any (by decide) (by simp) (by simp) (by rw [flat_ints]; exact h)
theorem own_pairs {w : World} {b : Nat} {A : Option Addr} {cap : Nat} {es : List (Int × Int)} (h : w.ownsRow b 133 2 (.slice A es.length cap) es.length (es.map pairCells).flatten) : SliceIs w A es.length cap 2 (es.map pairCells) :=
  own_any (by decide) (by
    intro r hr
    obtain ⟨p, _, rfl⟩ := List.mem_map.1 hr
    rfl) (by simp) h
theorem pair_at {w : World} {A : Option Addr} {cap : Nat} {es : List (Int × Int)} (h : SliceIs w A es.length cap 2 (es.map pairCells)) {k : Nat} (hk : k < es.length) :
    ∃ b off p, A = some ⟨b, off, none⟩ ∧ es[k]? = some p ∧ b < w.heap.size ∧ w.cell? ⟨b, off + k * 2, none⟩ = some (.int .i64 p.1) ∧ w.cell? ⟨b, off + k * 2 + 1, none⟩ = some (.int .i64 p.2) := by
  obtain ⟨b, off, hA, hb, hc⟩ := SliceIs.cells h (by omega)
  have hget : es[k]? = some es[k] := List.getElem?_eq_getElem hk
  have hr : (es.map pairCells)[k]? = some (pairCells es[k]) := by rw [List.getElem?_map, hget]; rfl
  exact ⟨b, off, es[k], hA, hget, hb, hc k _ hr 0 _ rfl, hc k _ hr 1 _ rfl⟩

/-! ### what is over the pairs -/
def overT (s : Shape) (k : Nat) : List Int := (overS s).take k
theorem overS_len (s : Shape) : (overS s).length = (eds s).length := by simp [overS, eds]
theorem overT_len {s : Shape} {k : Nat} (h : k ≤ (eds s).length) : (overT s k).length = k := by
  unfold overT
  rw [List.length_take, overS_len]
  omega
theorem overT_succ {s : Shape} {k : Nat} {p : Int × Int} {o : Int} (h : (eds s)[k]? = some p) (ho : overAt (abv s) (eds s) p = o) : overT s (k + 1) = overT s k ++ [o] := by
  unfold overT
  rw [List.take_add_one]
  have : (overS s)[k]? = some o := by
    unfold overS
    rw [List.getElem?_map]
    show Option.map _ (eds s)[k]? = _
    rw [h]
    exact congrArg some ho
  rw [this]
  rfl
theorem overT_all (s : Shape) : overT s (eds s).length = overS s := by
  unfold overT
  rw [List.take_of_length_le (by rw [overS_len]; exact Nat.le_refl _)]

def lookV : Option Nat → Value
  | some v => .tuple #[.int .i64 (v : Int), .bool true]
  | none => .tuple #[.int .i64 0, .bool false]
def overV : Option Nat → Int
  | some j => (j : Int)
  | none => -1
theorem overAt_eq (ab : List Int) (es : List (Int × Int)) (p : Int × Int) : overAt ab es p = overV (getK (pairsOf es) (ab.getD p.1.toNat 0, ab.getD p.2.toNat 0)) := by
  unfold overAt
  cases getK (pairsOf es) (ab.getD p.1.toNat 0, ab.getD p.2.toNat 0) <;> rfl
theorem look_pairs {w : World} {M : Nat} {pm : List ((Int × Int) × Nat)} (h : MapOf encPair encNat w M pm) (a b : Int) : (Instr.lookup 138 (.map (some M)) (.agg #[.int .i64 a, .int .i64 b]) true).run Tryz.prog w = .ok (lookV (getK pm (a, b))) w := by
  have := lookup_run pairKey Tryz.underlying138 (w := w) (z := .int .i64 0) (by kernel_rfl) h (a, b) true
  rw [show Value.agg #[.int .i64 a, .int .i64 b] = encPair (a, b) from rfl, this]
  cases getK pm (a, b) <;> rfl

/-! ### the board -/
structure Board (w : World) (g : Nat) (s : Shape) (A : Option Addr) (cap : Nat) (l : List Plate) (PA : Option Addr) (pcap : Nat) (NA : Option Addr) (ncap : Nat) (AA : Option Addr) (acap : Nat) (EA : Option Addr) (ecap : Nat) (OA : Option Addr) (ocap : Nat) (LA : Option Addr) (lcap : Nat) (ms : List Nat) : Prop where
  brd : Brd w g s A cap NA ncap l PA pcap
  c6 : w.cell? ⟨g, 6, none⟩ = some (.slice AA (fullN s.cells) acap)
  c7 : w.cell? ⟨g, 7, none⟩ = some (.slice EA (eds s).length ecap)
  c8 : w.cell? ⟨g, 8, none⟩ = some (.slice OA (eds s).length ocap)
  c9 : w.cell? ⟨g, 9, none⟩ = some (.slice LA (fullN s.cells) lcap)
  above : Ints w AA acap (abv s)
  edges : SliceIs w EA (eds s).length ecap 2 ((eds s).map pairCells)
  over : Ints w OA ocap (overS s)
  lays : SliceIs w LA (fullN s.cells) lcap 1 (ms.map fun n => [mapV n])
  len : ms.length = fullN s.cells
  maps : ∀ (j Mj : Nat), ms[j]? = some Mj → ∃ m, MapOf encSort encSet w Mj m ∧ ∀ q, getK m q = layAt s l ((placesS s s.cells.length).getD j 0) q
theorem Board.ext {w w' : World} {g : Nat} {s : Shape} {A : Option Addr} {cap : Nat} {l : List Plate} {PA : Option Addr} {pcap : Nat} {NA : Option Addr} {ncap : Nat} {AA : Option Addr} {acap : Nat} {EA : Option Addr} {ecap : Nat} {OA : Option Addr} {ocap : Nat} {LA : Option Addr} {lcap : Nat} {ms : List Nat}
    (h : Board w g s A cap l PA pcap NA ncap AA acap EA ecap OA ocap LA lcap ms) (e : Ext w w') : Board w' g s A cap l PA pcap NA ncap AA acap EA ecap OA ocap LA lcap ms :=
  ⟨h.brd.ext e, e.cell h.c6, e.cell h.c7, e.cell h.c8, e.cell h.c9, h.above.ext e, h.edges.ext e, h.over.ext e, h.lays.ext e, h.len, fun j Mj hj => by
    obtain ⟨m, h1, h2⟩ := h.maps j Mj hj
    exact ⟨m, h1.ext e, h2⟩⟩
/-- What look leaves behind. -/
def LookOk (s : Shape) (l : List Plate) (A : Option Addr) (cap : Nat) (PA : Option Addr) (pcap : Nat) (w : World) (e : Ending) (w' : World) : Prop :=
  ∃ g NA ncap AA acap EA ecap OA ocap LA lcap ms, e = .returned (.tuple #[.pointer (some ⟨g, 0, none⟩), .int .i64 0]) ∧ Board w' g s A cap l PA pcap NA ncap AA acap EA ecap OA ocap LA lcap ms ∧ Ext w w'
theorem board_of {s : Shape} {l : List Plate} {A : Option Addr} {cap : Nat} {PA : Option Addr} {pcap G T M NB ncap T2 : Nat} {W5 w : World} {pm : List ((Int × Int) × Nat)} {ms : List Nat} {AA : Option Addr} {acap : Nat} {EA : Option Addr} {ec : Nat} {ov lv : Value}
    (h : Mid s l A cap PA pcap G T M NB ncap W5 w (abv s) (eds s) pm (placesS s s.cells.length) ms (.slice AA (abv s).length acap) EA ec ov lv) (hb : Brd w G s A cap (some ⟨NB, 0, none⟩) ncap l PA pcap)
    (ho : w.ownsRow T2 3 1 ov (overT s (eds s).length).length ((overT s (eds s).length).map iv)) :
    ∃ OA ocap LA lcap, Board w G s A cap l PA pcap (some ⟨NB, 0, none⟩) ncap AA acap EA ec OA ocap LA lcap ms := by
  obtain ⟨OA, ocap, rfl⟩ := own_forms ho
  obtain ⟨LA, lcap, rfl⟩ := own_forms h.ol
  have hp : (placesS s s.cells.length).length = fullN s.cells := by
    rw [placesS_len]
    exact abv_len
  refine ⟨OA, ocap, LA, lcap, hb, ?_, h.c7, ?_, ?_, own_ints h.oa, own_pairs h.oe, ?_, ?_, h.len.trans hp, fun j Mj hj => ?_⟩
  · have := h.c6
    rw [abv_len] at this
    exact this
  · have := h.c8
    rw [overT_len (Nat.le_refl _)] at this
    exact this
  · have := h.c9
    rw [hp] at this
    exact this
  · have := own_ints ho
    rw [overT_all] at this
    exact this
  · have := h.ol
    rw [hp] at this
    exact own_any (by decide) (by simp) (by simp [h.len, hp]) (by rw [flat_maps]; exact this)
  · have hj2 : j < (placesS s s.cells.length).length := by
      have := (List.getElem?_eq_some_iff.1 hj).1
      rw [h.len] at this
      exact this
    have hg : (placesS s s.cells.length)[j]? = some ((placesS s s.cells.length).getD j 0) := by
      rw [List.getD_eq_getElem?_getD, List.getElem?_eq_getElem hj2]
      rfl
    exact (h.maps j Mj _ hj hg).2.2
end Go.Proofs.YtaaeapjnjjbglaaGreatDoor
