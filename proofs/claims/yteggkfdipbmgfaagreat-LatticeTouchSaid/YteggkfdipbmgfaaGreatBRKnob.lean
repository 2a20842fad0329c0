/- Sorted of the reference: the cells in order, in new memory. Placed and Knobbed of the reference: the cells, in order, and the knobs of a placed brick, in new memory. Conditions: the brick is valid. Knobbed of the reference: the knobs of a placed brick, in new memory. Conditions: the brick is valid. -/
import Derived.Test.YteggkfdipbmgfaaGreatBSort
import Derived.Test.YteggkfdipbmgfaaGreatBLib
import Derived.BigRegion
import Derived.ChangeAlike
import Derived.Test.YteggkfdipbmgfaaGreatBTurnB
namespace Go.Proofs.YteggkfdipbmgfaaGreat
open Go.RowKit

theorem sortP_pairs (l : List Pt) : (sortP l).Pairwise fun p q => ltP q p = false := by
  have h := List.pairwise_mergeSort (le := fun x y => !ltP y x) (fun a b c h k => by
    simp only [Bool.not_eq_true', ltP_not] at *
    omega) (fun a b => by
    cases h : ltP b a
    · rfl
    · rw [ltP_anti h]
      rfl) l
  exact h.imp fun h => by simpa using h
theorem sortP_perm (l : List Pt) : (sortP l).Perm l := List.mergeSort_perm _ _
theorem sortP_len (l : List Pt) : (sortP l).length = l.length := List.length_mergeSort _
theorem sortP_is {l l' : List Pt} (hp : l'.Perm l) (hs : l'.Pairwise fun p q => ltP q p = false) : l' = sortP l :=
  List.Perm.eq_of_pairwise (fun a b _ _ h k => ltP_total a b k h) hs (sortP_pairs l) (hp.trans (sortP_perm l).symm)
/-- The state of an insertion: the first cells are in order but for x, which is before all of B. -/
structure Ins (l : List Pt) (j k : Nat) (A : List Pt) (x : Pt) (B C : List Pt) : Prop where
  k : A.length = k
  j : A.length + B.length = j
  perm : (A ++ x :: (B ++ C)).Perm l
  sorted : (A ++ B).Pairwise fun p q => ltP q p = false
  less : ∀ b ∈ B, ltP x b = true
theorem Ins.step {l : List Pt} {j k : Nat} {A : List Pt} {a x : Pt} {B C : List Pt} (h : Ins l j (k + 1) (A ++ [a]) x B C) (hx : ltP x a = true) : Ins l j k A x (a :: B) C := by
  obtain ⟨h1, h2, h3, h4, h5⟩ := h
  simp only [List.length_append, List.length_cons, List.length_nil] at h1 h2
  refine ⟨by omega, by simp only [List.length_cons]; omega, ?_, ?_, fun b hb => ?_⟩
  · refine List.Perm.trans ?_ h3
    rw [List.append_assoc]
    exact List.Perm.append_left _ (List.Perm.swap _ _ _)
  · rw [List.append_assoc] at h4
    exact h4
  · rcases List.mem_cons.1 hb with rfl | hb
    · exact hx
    · exact h5 b hb
theorem Ins.stop {l : List Pt} {j k : Nat} {A : List Pt} {x : Pt} {B C : List Pt} (h : Ins l j k A x B C) (hx : ∀ a A', A = A' ++ [a] → ltP x a = false) : ((A ++ x :: (B ++ C)).take (j + 1)).Pairwise fun p q => ltP q p = false := by
  obtain ⟨h1, h2, h3, h4, h5⟩ := h
  have e : (A ++ x :: (B ++ C)).take (j + 1) = A ++ x :: B := by
    rw [show A ++ x :: (B ++ C) = (A ++ x :: B) ++ C by simp, List.take_append_of_le_length (by simp; omega), List.take_of_length_le (by simp; omega)]
  rw [e]
  rw [List.pairwise_append] at h4 ⊢
  obtain ⟨p1, p2, p3⟩ := h4
  refine ⟨p1, List.pairwise_cons.2 ⟨fun b hb => ltP_anti (h5 b hb), p2⟩, fun a ha b hb => ?_⟩
  rcases List.mem_cons.1 hb with rfl | hb
  · rcases List.eq_nil_or_concat A with rfl | ⟨A', a', hA⟩
    · cases ha
    · rw [List.concat_eq_append] at hA
      have q := hx a' A' hA
      subst hA
      rcases List.mem_append.1 ha with h | h
      · have r := (List.pairwise_append.1 p1).2.2 a h a' (List.mem_singleton_self _)
        rw [ltP_not] at *
        omega
      · rw [List.mem_singleton.1 h]
        exact q
  · exact p3 a ha b hb
theorem Ins.start {l L : List Pt} {j : Nat} {x : Pt} (hp : L.Perm l) (hs : (L.take j).Pairwise fun p q => ltP q p = false) (hx : L[j]? = some x) : Ins l j j (L.take j) x [] (L.drop (j + 1)) ∧ L = L.take j ++ x :: ([] ++ L.drop (j + 1)) := by
  obtain ⟨hj, hxj⟩ := List.getElem?_eq_some_iff.1 hx
  have e : L = L.take j ++ x :: ([] ++ L.drop (j + 1)) := by
    rw [List.nil_append, ← hxj, ← List.drop_eq_getElem_cons hj, List.take_append_drop]
  exact ⟨⟨by rw [List.length_take]; omega, by rw [List.length_take]; simp; omega, by rw [← e]; exact hp, by rw [List.append_nil]; exact hs, fun b hb => by cases hb⟩, e⟩
theorem pt_one {c : List Pt} : ∀ u ∈ (c.map Pt.cs).flatten, u.oneCell' = true := by
  intro u hu
  rw [List.mem_flatten] at hu
  obtain ⟨r, hr, hu⟩ := hu
  obtain ⟨x, _, rfl⟩ := List.mem_map.1 hr
  unfold Pt.cs at hu
  simp only [List.mem_cons, List.not_mem_nil, or_false] at hu
  rcases hu with rfl | rfl | rfl <;> rfl
theorem infoPt3 : (Tryz.prog.info? 43).map (fun i => (i.zero, i.size, i.bytes)) = some (some (.agg #[.int .i64 0, .int .i64 0, .int .i64 0]), 3, 24) := by kernel_rfl
def RCellsPost (l : List Pt) (n : Nat) (w : World) (e : Ending) (w' : World) : Prop := ∃ g cap, w.heap.size ≤ g ∧ e = .returned (.slice (some ⟨g, 0, none⟩) n cap) ∧ n ≤ cap ∧ cap ≤ maxLen ∧ RowX w' g 43 (l.map Pt.cs) ∧ Ext w w'
/-- Two rows exchanged: the new world under one name. -/
theorem RowX.swap3 {w : World} {g : Nat} {t : TypeId} {rows : List (List Value)} (h : RowX w g t rows) (hw : ∀ r ∈ rows, r.length = 3) {k m : Nat} (hk : k < rows.length) (hm : m < rows.length) (a b c d e f : Value) :
    ∃ w2, (((((w.setCell ⟨g, k * 3, none⟩ a).setCell ⟨g, k * 3 + 1, none⟩ b).setCell ⟨g, k * 3 + 2, none⟩ c).setCell ⟨g, m * 3, none⟩ d).setCell ⟨g, m * 3 + 1, none⟩ e).setCell ⟨g, m * 3 + 2, none⟩ f = w2 ∧ RowX w2 g t ((rows.set k [a, b, c]).set m [d, e, f]) ∧ (∀ w0, Ext w0 w → w0.heap.size ≤ g → Ext w0 w2) := by
  refine ⟨_, rfl, ?_, fun w0 hE hg => setsW_ext [d, e, f] (m * 3) (setsW_ext [a, b, c] (k * 3) hE hg) hg⟩
  exact (h.store hw hk [a, b, c] rfl).store (fun r hr => by
    rcases List.mem_or_eq_of_mem_set hr with h | h
    · exact hw r h
    · rw [h]
      rfl) (by rw [List.length_set]; exact hm) [d, e, f] rfl
end Go.Proofs.YteggkfdipbmgfaaGreat
namespace Go.Proofs.YteggkfdipbmgfaaGreat
open Go.RowKit

theorem flat_snoc (rows : List (List Value)) (r : List Value) : (rows ++ [r]).flatten = rows.flatten ++ r := by simp
theorem take_map_snoc {α : Type} {f : α → List Value} {l : List α} {j : Nat} {x : α} (h : l[j]? = some x) : ((l.take (j + 1)).map f).flatten = ((l.take j).map f).flatten ++ f x := by
  rw [List.take_add_one, h, Option.toList_some, List.map_append, List.map_cons, List.map_nil, flat_snoc]
end Go.Proofs.YteggkfdipbmgfaaGreat
namespace Go.Proofs.YteggkfdipbmgfaaGreat
open Go.RowKit

theorem infoKnb5 : (Tryz.prog.info? 47).map (fun i => (i.zero, i.size, i.bytes)) = some (some (.agg #[.int .i64 0, .int .i64 0, .int .i64 0, .int .u8 0, .int .u8 0]), 5, 32) := by kernel_rfl
/-- New knobs: nil if there are none. -/
def RKnobsPost (l : List Knb) (n : Nat) (w : World) (e : Ending) (w' : World) : Prop := ∃ A cap, e = .returned (.slice A n cap) ∧ SliceIs w' A n cap 5 (l.map Knb.cs) ∧ (∀ q, A = some q → w.heap.size ≤ q.block) ∧ Ext w w'
/-- New knobs as a row of the call's own: with their type. -/
def RKnobsOwn (l : List Knb) (n : Nat) (w : World) (e : Ending) (w' : World) : Prop := ∃ v, e = .returned v ∧ ∃ b, w.heap.size ≤ b ∧ w'.ownsRow b 47 5 v n (l.map Knb.cs).flatten ∧ Ext w w'
theorem own_slice0 {w : World} {b : Nat} {e : TypeId} {sz : Nat} {v : Value} {n : Nat} {rows : List (List Value)} (hw : ∀ r ∈ rows, r.length = sz) (hn : rows.length = n) (h : w.ownsRow b e sz v n rows.flatten) : ∃ A cap, v = .slice A n cap ∧ SliceIs w A n cap sz rows ∧ (∀ q, A = some q → b ≤ q.block) := by
  rcases h.2 with ⟨hv, h0⟩ | ⟨g, cap, cur, hv, hg, hb, h1, h2, _, _⟩
  · subst h0
    exact ⟨none, 0, hv, ⟨hn, Nat.le_refl _, Nat.zero_le _, hw, fun h => by omega⟩, fun q hq => by cases hq⟩
  · subst hv
    obtain ⟨X, q0, q1, q2⟩ := RowX.of_own h
    exact ⟨_, _, rfl, X.slice hw hn q1 q2, fun q hq => by cases hq; exact q0⟩
end Go.Proofs.YteggkfdipbmgfaaGreat
