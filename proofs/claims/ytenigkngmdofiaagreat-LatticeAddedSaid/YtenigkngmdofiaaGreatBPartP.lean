/- Groups are a partition, plain; from each number a chain of links leads to the least one of its group. -/
import Derived.Test.YtenigkngmdofiaaGreatBLinkS
namespace Go.Proofs.YtenigkngmdofiaaGreat
open Go.RowKit

section
variable {L : List Lnk} {n : Nat} {g : List Nat}
theorem part_le (h : isLeast L n g) {i : Nat} (hi : i < n) : g.getD i 0 ≤ i := (h.2 i hi).le i .refl
theorem part_self (h : isLeast L n g) {i : Nat} (hi : i < n) : g.getD (g.getD i 0) 0 = g.getD i 0 := by
  have h1 := h.2 i hi
  have h2 := h.2 (g.getD i 0) (by have := part_le h hi; omega)
  exact h2.unique ⟨.refl, fun j hj => h1.le j (h1.c.trans hj)⟩
theorem part_conn (h : isLeast L n g) {i j : Nat} (hi : i < n) (hj : j < n) (hc : Conn L i j) : g.getD i 0 = g.getD j 0 := by
  have h1 := h.2 i hi
  have h2 := h.2 j hj
  exact h1.unique ⟨hc.trans h2.c, fun k hk => h2.le k (hc.symm.trans hk)⟩
theorem part_link (h : isLeast L n g) (hw : Within L n) {x : Lnk} (hx : x ∈ L) : g.getD x.a 0 = g.getD x.b 0 :=
  part_conn h (hw x hx).1 (hw x hx).2 (Conn.one ⟨x, hx, Or.inl ⟨rfl, rfl⟩⟩)
end
/-! Marks that spread along the links. -/
def bAt (r : List Bool) (i : Nat) : Bool := r.getD i false
def mark (r : List Bool) (x : Lnk) : List Bool := if bAt r x.a || bAt r x.b then (r.set x.a true).set x.b true else r
def marks (L : List Lnk) (r : List Bool) (q : Nat) : List Bool := (L.take q).foldl mark r
def markR (L : List Lnk) (r : List Bool) : Nat → List Bool
  | 0 => r
  | m + 1 => marks L (markR L r m) L.length
theorem marks_succ {L : List Lnk} {r : List Bool} {q : Nat} {x : Lnk} (h : L[q]? = some x) : marks L r (q + 1) = mark (marks L r q) x := by
  unfold marks
  rw [List.take_add_one, h, List.foldl_append]
  rfl
theorem bAt_set {r : List Bool} {i j : Nat} {v : Bool} (hi : i < r.length) : bAt (r.set i v) j = if i = j then v else bAt r j := by
  unfold bAt
  rw [List.getD_eq_getElem?_getD, List.getD_eq_getElem?_getD, List.getElem?_set]
  by_cases h : i = j
  · subst h
    simp [hi]
  · simp [h]
theorem mark_len (r : List Bool) (x : Lnk) : (mark r x).length = r.length := by
  unfold mark
  split <;> simp
theorem folds_len (l : List Lnk) : ∀ r : List Bool, (l.foldl mark r).length = r.length := by
  induction l with
  | nil => exact fun _ => rfl
  | cons x l ih => exact fun r => by rw [List.foldl_cons, ih, mark_len]
theorem marks_len (L : List Lnk) (r : List Bool) (q : Nat) : (marks L r q).length = r.length := folds_len _ _
theorem markR_len (L : List Lnk) (r : List Bool) : ∀ m, (markR L r m).length = r.length
  | 0 => rfl
  | m + 1 => (marks_len _ _ _).trans (markR_len L r m)
theorem mark_mono {r : List Bool} {x : Lnk} (ha : x.a < r.length) (hb : x.b < r.length) {i : Nat} (h : bAt r i = true) : bAt (mark r x) i = true := by
  unfold mark
  split
  · rw [bAt_set (by simpa using hb), bAt_set ha]
    split
    · rfl
    · split
      · rfl
      · exact h
  · exact h
theorem mark_both {r : List Bool} {x : Lnk} (ha : x.a < r.length) (hb : x.b < r.length) (h : bAt r x.a = true ∨ bAt r x.b = true) : bAt (mark r x) x.a = true ∧ bAt (mark r x) x.b = true := by
  unfold mark
  rw [if_pos (by rcases h with h | h <;> simp [h])]
  have e := fun i => bAt_set (r := r.set x.a true) (i := x.b) (j := i) (v := true) (by simpa using hb)
  constructor
  · rw [e]
    split
    · rfl
    · rw [bAt_set ha, if_pos rfl]
  · rw [e, if_pos rfl]
theorem folds_mono {n : Nat} : ∀ {l : List Lnk} {r : List Bool}, r.length = n → (∀ x ∈ l, x.a < n ∧ x.b < n) → ∀ {i : Nat}, bAt r i = true → bAt (l.foldl mark r) i = true
  | [], _, _, _, _, h => h
  | x :: l, r, hr, hl, i, h => by
    rw [List.foldl_cons]
    have hx := hl x (List.mem_cons_self ..)
    exact folds_mono (l := l) (by rw [mark_len]; exact hr) (fun y hy => hl y (List.mem_cons_of_mem _ hy)) (mark_mono (by omega) (by omega) h)
theorem pass_both {L : List Lnk} {n : Nat} (hw : Within L n) {r : List Bool} (hr : r.length = n) {x : Lnk} (hx : x ∈ L) (h : bAt r x.a = true ∨ bAt r x.b = true) : bAt (marks L r L.length) x.a = true ∧ bAt (marks L r L.length) x.b = true := by
  unfold marks
  rw [List.take_length]
  obtain ⟨s, t, hst⟩ := List.append_of_mem hx
  have hs : ∀ y ∈ s, y.a < n ∧ y.b < n := fun y hy => hw y (by rw [hst]; exact List.mem_append.2 (Or.inl hy))
  have ht : ∀ y ∈ t, y.a < n ∧ y.b < n := fun y hy => hw y (by rw [hst]; exact List.mem_append.2 (Or.inr (List.mem_cons_of_mem _ hy)))
  have e : L.foldl mark r = t.foldl mark (mark (s.foldl mark r) x) := by rw [hst, List.foldl_append, List.foldl_cons]
  have hl := hw x hx
  have hsl : (s.foldl mark r).length = n := (folds_len s r).trans hr
  have h2 := mark_both (r := s.foldl mark r) (x := x) (by omega) (by omega) (by
    rcases h with h | h
    · exact Or.inl (folds_mono hr hs h)
    · exact Or.inr (folds_mono hr hs h))
  rw [e]
  exact ⟨folds_mono (by rw [mark_len]; exact hsl) ht h2.1, folds_mono (by rw [mark_len]; exact hsl) ht h2.2⟩
theorem pass_mono {L : List Lnk} {n : Nat} (hw : Within L n) {r : List Bool} (hr : r.length = n) {i : Nat} (h : bAt r i = true) : bAt (marks L r L.length) i = true := by
  unfold marks
  rw [List.take_length]
  exact folds_mono hr hw h
theorem leavesB {L : List Lnk} {r : List Bool} {g i : Nat} (h : Conn L g i) (h0 : bAt r g = true) (h1 : bAt r i = false) : ∃ j k, Conn L g j ∧ Nbr L j k ∧ bAt r j = true ∧ bAt r k = false := by
  induction h with
  | refl => rw [h0] at h1; cases h1
  | @step j k hj hn ih =>
    cases e : bAt r j
    · exact ih e
    · exact ⟨j, k, hj, hn, e, h1⟩
open Classical in
noncomputable def marked (L : List Lnk) (n g : Nat) (r : List Bool) : Nat := (List.range n).countP fun i => decide (Conn L g i ∧ bAt r i = true)
open Classical in
theorem mark_many {L : List Lnk} {n : Nat} (hw : Within L n) {g : Nat} (hg : g < n) {r : List Bool} (hr : r.length = n) (h0 : bAt r g = true) : ∀ m, bAt (markR L r m) g = true ∧ ((∀ i, Conn L g i → bAt (markR L r m) i = true) ∨ m < marked L n g (markR L r m))
  | 0 => by
    refine ⟨h0, Or.inr (List.countP_pos_iff.2 ⟨g, List.mem_range.2 hg, ?_⟩)⟩
    rw [decide_eq_true_eq]
    exact ⟨.refl, h0⟩
  | m + 1 => by
    obtain ⟨h1, h2⟩ := mark_many hw hg hr h0 m
    have hlen : (markR L r m).length = n := (markR_len L r m).trans hr
    have mono := fun i (h : bAt (markR L r m) i = true) => pass_mono hw hlen h
    refine ⟨mono g h1, ?_⟩
    rcases h2 with h | h
    · exact Or.inl fun i hi => mono i (h i hi)
    · by_cases hd : ∀ i, Conn L g i → bAt (markR L r m) i = true
      · exact Or.inl fun i hi => mono i (hd i hi)
      · right
        obtain ⟨i, hi⟩ := Classical.not_forall.1 hd
        obtain ⟨hi, hgi⟩ := Classical.not_imp.1 hi
        rw [Bool.not_eq_true] at hgi
        obtain ⟨j, k, hj, hn, e1, e2⟩ := leavesB hi h1 hgi
        have hk : bAt (markR L r (m + 1)) k = true := by
          obtain ⟨x, hx, hjk⟩ := hn
          rcases hjk with ⟨rfl, rfl⟩ | ⟨rfl, rfl⟩
          · exact (pass_both hw hlen hx (Or.inl e1)).2
          · exact (pass_both hw hlen hx (Or.inr e1)).1
        have : marked L n g (markR L r m) < marked L n g (markR L r (m + 1)) := by
          refine countP_lt (i := k) (fun y _ hy => ?_) (List.mem_range.2 (hn.lt hw).2) ?_ ?_
          · rw [decide_eq_true_eq] at hy ⊢
            exact ⟨hy.1, mono y hy.2⟩
          · rw [decide_eq_true_eq]
            exact ⟨hj.step hn, hk⟩
          · rw [decide_eq_false_iff_not]
            exact fun h => by rw [h.2] at e2; cases e2
        omega
/-- The first marks: each number that is its own least one; among the first j. -/
def partR (n : Nat) (g : List Nat) (j : Nat) : List Bool := (List.range n).map fun i => decide (i < j) && decide (g.getD i 0 = i)
theorem partR_len (n : Nat) (g : List Nat) (j : Nat) : (partR n g j).length = n := by simp [partR]
theorem partR_zero (n : Nat) (g : List Nat) : partR n g 0 = List.replicate n false := by
  refine List.ext_getElem (by simp [partR]) fun i h1 h2 => ?_
  simp [partR]
theorem partR_get {n : Nat} {g : List Nat} {j i : Nat} (hi : i < n) : (partR n g j)[i]? = some (decide (i < j) && decide (g.getD i 0 = i)) := by
  unfold partR
  rw [List.getElem?_map, List.getElem?_range hi]
  rfl
theorem partR_set {n : Nat} {g : List Nat} {j : Nat} (hj : j < n) : (partR n g j).set j (decide (g.getD j 0 = j)) = partR n g (j + 1) := by
  refine List.ext_getElem? fun i => ?_
  rw [List.getElem?_set]
  rcases Nat.lt_or_ge i n with hi | hi
  · rw [partR_get hi, partR_get hi]
    by_cases h : j = i
    · subst h
      rw [if_pos rfl, if_pos (by rw [partR_len]; exact hj), decide_eq_true (Nat.lt_succ_self j), Bool.true_and]
    · rw [if_neg h, show decide (i < j) = decide (i < j + 1) by rw [decide_eq_decide]; omega]
  · have h1 : (partR n g j)[i]? = none := List.getElem?_eq_none (by rw [partR_len]; exact hi)
    have h2 : (partR n g (j + 1))[i]? = none := List.getElem?_eq_none (by rw [partR_len]; exact hi)
    rw [h1, h2, if_neg (by omega)]
theorem partR_at {n : Nat} {g : List Nat} {i : Nat} (hi : i < n) : bAt (partR n g n) i = decide (g.getD i 0 = i) := by
  unfold bAt partR
  simp [hi]
theorem part_reached {L : List Lnk} {n : Nat} {g : List Nat} (h : isLeast L n g) (hw : Within L n) {i : Nat} (hi : i < n) : bAt (markR L (partR n g n) n) i = true := by
  have hr : g.getD i 0 < n := by have := part_le h hi; omega
  have h0 : bAt (partR n g n) (g.getD i 0) = true := by
    rw [partR_at hr, decide_eq_true_eq]
    exact part_self h hi
  obtain ⟨-, h2 | h2⟩ := mark_many hw hr (partR_len n g n) h0 n
  · exact h2 i (h.2 i hi).c.symm
  · have : marked L n (g.getD i 0) (markR L (partR n g n) n) ≤ n := by
      unfold marked
      refine Nat.le_trans List.countP_le_length ?_
      simp
    omega
end Go.Proofs.YtenigkngmdofiaaGreat
