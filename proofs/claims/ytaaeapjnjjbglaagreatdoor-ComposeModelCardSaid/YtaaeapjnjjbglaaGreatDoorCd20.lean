/- Texts of another chapter in a namespace of their own (printed by lat.py). touch of the reference. -/
import Derived.Test.YtaaeapjnjjbglaaGreatDoorCd6
import Derived.Test.YtaaeapjnjjbglaaGreatDoorCd7
import Derived.Test.YtaaeapjnjjbglaaGreatDoorCd16
import Derived.Test.YtaaeapjnjjbglaaGreatDoorCd17
import Derived.Test.YtaaeapjnjjbglaaGreatDoorCd19

-- holds: Api1 BrickB CellsP CheckKind Composed GroupS Has KindS KnobsP Like LikeS LinkS Near Ord RKind RKnobbed RPlaced RSorted RValidKind SameL SortC SortLaid Step Turn TurnD Turned Turners
namespace Go.Proofs.YtaaeapjnjjbglaaGreatDoor.Lat
open Go.RowKit

structure Lnk where
  a : Nat
  b : Nat
  knob : Nat
  other : Nat
  sort : Int
deriving instance DecidableEq for Lnk
def Lnk.cs (x : Lnk) : List Value := [.int .i64 x.a, .int .i64 x.b, .int .i64 x.knob, .int .i64 x.other, .int .u8 x.sort]
def Links (w : World) (A : Option Addr) (cap : Nat) (l : List Lnk) : Prop := SliceIs w A l.length cap 5 (l.map Lnk.cs)
theorem Links.ext {w w' : World} {A : Option Addr} {cap : Nat} {l : List Lnk} (h : Links w A cap l) (e : Ext w w') : Links w' A cap l := SliceIs.ext h e
theorem Links.len {w : World} {A : Option Addr} {cap : Nat} {l : List Lnk} (h : Links w A cap l) : l.length ≤ maxLen := Nat.le_trans h.le h.small
theorem Links.at_ {w : World} {A : Option Addr} {cap : Nat} {l : List Lnk} (h : Links w A cap l) {k : Nat} (hk : k < l.length) :
    ∃ b off p, A = some ⟨b, off, none⟩ ∧ l[k]? = some p ∧ b < w.heap.size ∧ w.cell? ⟨b, off + k * 5, none⟩ = some (.int .i64 p.a) ∧ w.cell? ⟨b, off + k * 5 + 1, none⟩ = some (.int .i64 p.b) ∧
      w.cell? ⟨b, off + k * 5 + 2, none⟩ = some (.int .i64 p.knob) ∧ w.cell? ⟨b, off + k * 5 + 3, none⟩ = some (.int .i64 p.other) ∧ w.cell? ⟨b, off + k * 5 + 4, none⟩ = some (.int .u8 p.sort) := by
  obtain ⟨b, off, hA, hb, hc⟩ := SliceIs.cells h (by omega)
  have hget : l[k]? = some l[k] := List.getElem?_eq_getElem hk
  have hr : (l.map Lnk.cs)[k]? = some l[k].cs := by rw [List.getElem?_map, hget]; rfl
  exact ⟨b, off, l[k], hA, hget, hb, hc k _ hr 0 _ rfl, hc k _ hr 1 _ rfl, hc k _ hr 2 _ rfl, hc k _ hr 3 _ rfl, hc k _ hr 4 _ rfl⟩
theorem links_nil (w : World) : Links w none 0 [] := ⟨rfl, Nat.le_refl _, Nat.zero_le _, by simp, fun h => by cases h⟩
theorem lnk_wide (l : List Lnk) : ∀ r ∈ l.map Lnk.cs, r.length = 5 := fun r h => by
  obtain ⟨p, _, rfl⟩ := List.mem_map.1 h
  rfl

/-- The knobs of a placed brick. -/
def bknobs (ks : List Knd) (b : Brk) : List Knb := placeK (kindAt ks b.kind.toNat).knobs b.turn.toNat b.at_
theorem bknobs_is {qs : List (Knd × KAt)} {b : Brk} {i tn : Nat} {k : Knd} {p : KAt} (h1 : b.kind = i) (h2 : b.turn = tn) (hi : qs[i]? = some (k, p)) : bknobs (qs.map (·.1)) b = placeK k.knobs tn b.at_ := by
  unfold bknobs kindAt
  rw [h1, h2]
  simp [hi]
def oddS (s : Int) : Int := s - (1 - s % 2)
/-- The opposite direction. -/
def oppD (d : Int) : Int := if d % 2 = 0 then d + 1 else d - 1
def meetB (a b : Knb) : Bool := (addP a.at_ (stepS a.dir.toNat)).eqB b.at_ && (decide (b.dir = oppD a.dir) && (decide (a.sort ≠ b.sort) && decide (oddS a.sort = oddS b.sort)))
theorem meetB_iff {a b : Knb} : meetB a b = true ↔ addP a.at_ (stepS a.dir.toNat) = b.at_ ∧ b.dir = oppD a.dir ∧ a.sort ≠ b.sort ∧ oddS a.sort = oddS b.sort := by
  simp only [meetB, Bool.and_eq_true, decide_eq_true_eq, Pt.eqB_iff]

/-! The reference's list. -/
def lkC (p q : List Knb) (a b i n : Nat) : List Lnk := (List.range n).filterMap fun k => if meetB (knbAt p i) (knbAt q k) then some ⟨a, b, i, k, oddS (knbAt p i).sort⟩ else none
def lkI (p q : List Knb) (a b n : Nat) : List Lnk := (List.range n).flatMap fun i => lkC p q a b i q.length
def lkB (ks : List Knd) (bs : List Brk) (a n : Nat) : List Lnk := (List.range n).flatMap fun b => if a < b then lkI (bknobs ks (brkAt bs a)) (bknobs ks (brkAt bs b)) a b (bknobs ks (brkAt bs a)).length else []
def lkA (ks : List Knd) (bs : List Brk) (n : Nat) : List Lnk := (List.range n).flatMap fun a => lkB ks bs a bs.length
def linkL (ks : List Knd) (bs : List Brk) : List Lnk := lkA ks bs bs.length
theorem lkC_succ (p q : List Knb) (a b i n : Nat) : lkC p q a b i (n + 1) = lkC p q a b i n ++ (if meetB (knbAt p i) (knbAt q n) then [⟨a, b, i, n, oddS (knbAt p i).sort⟩] else []) := by
  unfold lkC
  rw [List.range_succ, List.filterMap_append]
  congr 1
  cases h : meetB (knbAt p i) (knbAt q n) <;> simp [h]
theorem lkI_succ (p q : List Knb) (a b n : Nat) : lkI p q a b (n + 1) = lkI p q a b n ++ lkC p q a b n q.length := by
  unfold lkI
  rw [List.range_succ, List.flatMap_append]
  simp
theorem lkB_succ {ks : List Knd} {bs : List Brk} {a n : Nat} (h : a < n) : lkB ks bs a (n + 1) = lkB ks bs a n ++ lkI (bknobs ks (brkAt bs a)) (bknobs ks (brkAt bs n)) a n (bknobs ks (brkAt bs a)).length := by
  unfold lkB
  rw [List.range_succ, List.flatMap_append]
  simp [h]
theorem lkB_start (ks : List Knd) (bs : List Brk) (a : Nat) : lkB ks bs a (a + 1) = [] := by
  unfold lkB
  rw [List.flatMap_eq_nil_iff]
  intro b hb
  rw [if_neg (by have := List.mem_range.1 hb; omega)]
theorem lkA_succ (ks : List Knd) (bs : List Brk) (n : Nat) : lkA ks bs (n + 1) = lkA ks bs n ++ lkB ks bs n bs.length := by
  unfold lkA
  rw [List.range_succ, List.flatMap_append]
  simp
theorem lkC_len (p q : List Knb) (a b i n : Nat) : (lkC p q a b i n).length ≤ n := by
  unfold lkC
  exact Nat.le_trans (List.length_filterMap_le _ _) (by simp)
theorem flat_len {α : Type} (f : Nat → List α) (m : Nat) : ∀ n, (∀ i, i < n → (f i).length ≤ m) → ((List.range n).flatMap f).length ≤ n * m
  | 0, _ => by simp
  | n + 1, h => by
    rw [List.range_succ, List.flatMap_append, List.length_append, Nat.succ_mul]
    have h1 := flat_len f m n fun i hi => h i (by omega)
    have h2 := h n (by omega)
    simp only [List.flatMap_cons, List.flatMap_nil, List.append_nil]
    omega
theorem lkI_len (p q : List Knb) (a b n : Nat) : (lkI p q a b n).length ≤ n * q.length := flat_len _ _ n fun i _ => lkC_len p q a b i q.length
theorem lkB_len {ks : List Knd} {bs : List Brk} {m : Nat} (hm : ∀ i, i < bs.length → (bknobs ks (brkAt bs i)).length ≤ m) {a : Nat} (ha : a < bs.length) (n : Nat) (hn : n ≤ bs.length) : (lkB ks bs a n).length ≤ n * (m * m) :=
  flat_len _ _ n fun b hb => by
    split
    · exact Nat.le_trans (lkI_len _ _ _ _ _) (Nat.mul_le_mul (hm a ha) (hm b (by omega)))
    · exact Nat.zero_le _
theorem lkA_len {ks : List Knd} {bs : List Brk} {m : Nat} (hm : ∀ i, i < bs.length → (bknobs ks (brkAt bs i)).length ≤ m) (n : Nat) (hn : n ≤ bs.length) : (lkA ks bs n).length ≤ n * (bs.length * (m * m)) :=
  flat_len _ _ n fun a ha => lkB_len hm (by omega) _ (Nat.le_refl _)
/-- Which links there are. -/
structure IsLnk (ks : List Knd) (bs : List Brk) (x : Lnk) : Prop where
  ab : x.a < x.b
  b : x.b < bs.length
  k : x.knob < (bknobs ks (brkAt bs x.a)).length
  o : x.other < (bknobs ks (brkAt bs x.b)).length
  m : meetB (knbAt (bknobs ks (brkAt bs x.a)) x.knob) (knbAt (bknobs ks (brkAt bs x.b)) x.other) = true
  s : x.sort = oddS (knbAt (bknobs ks (brkAt bs x.a)) x.knob).sort
theorem mem_linkL {ks : List Knd} {bs : List Brk} {x : Lnk} : x ∈ linkL ks bs ↔ IsLnk ks bs x := by
  unfold linkL lkA lkB lkI lkC
  constructor
  · intro h
    obtain ⟨a, ha, h⟩ := List.mem_flatMap.1 h
    obtain ⟨b, hb, h⟩ := List.mem_flatMap.1 h
    split at h
    rotate_left
    · cases h
    rename_i hab
    obtain ⟨i, hi, h⟩ := List.mem_flatMap.1 h
    obtain ⟨k, hk, h⟩ := List.mem_filterMap.1 h
    split at h
    rotate_left
    · cases h
    rename_i hm
    cases h
    exact ⟨hab, List.mem_range.1 hb, List.mem_range.1 hi, List.mem_range.1 hk, hm, rfl⟩
  · rintro ⟨h1, h2, h3, h4, h5, h6⟩
    refine List.mem_flatMap.2 ⟨x.a, List.mem_range.2 (by omega), List.mem_flatMap.2 ⟨x.b, List.mem_range.2 h2, ?_⟩⟩
    rw [if_pos h1]
    refine List.mem_flatMap.2 ⟨x.knob, List.mem_range.2 h3, List.mem_filterMap.2 ⟨x.other, List.mem_range.2 h4, ?_⟩⟩
    rw [if_pos h5, ← h6]
/-- The order of links. -/
def ltK (x y : Lnk) : Bool := decide (x.a < y.a) || (decide (x.a = y.a) && (decide (x.b < y.b) || (decide (x.b = y.b) && decide (x.knob < y.knob))))
theorem ltK_iff {x y : Lnk} : ltK x y = true ↔ x.a < y.a ∨ (x.a = y.a ∧ (x.b < y.b ∨ (x.b = y.b ∧ x.knob < y.knob))) := by simp [ltK]
theorem ltK_not {x y : Lnk} : ltK x y = false ↔ ¬ (x.a < y.a ∨ (x.a = y.a ∧ (x.b < y.b ∨ (x.b = y.b ∧ x.knob < y.knob)))) := by rw [← Bool.not_eq_true, ltK_iff]
/-- The whole order, with the other knob. -/
def LtO (x y : Lnk) : Prop := x.a < y.a ∨ (x.a = y.a ∧ (x.b < y.b ∨ (x.b = y.b ∧ (x.knob < y.knob ∨ (x.knob = y.knob ∧ x.other < y.other)))))
theorem range_lt {α : Type} {R : α → α → Prop} {f : Nat → List α} {n : Nat} (h1 : ∀ i, i < n → (f i).Pairwise R) (h2 : ∀ i j, i < j → ∀ x ∈ f i, ∀ y ∈ f j, R x y) : ((List.range n).flatMap f).Pairwise R := by
  rw [List.pairwise_flatMap]
  exact ⟨fun i hi => h1 i (List.mem_range.1 hi), List.pairwise_lt_range.imp fun {i j} hij x hx y hy => h2 i j hij x hx y hy⟩
theorem lkC_mem {p q : List Knb} {a b i n : Nat} {x : Lnk} (h : x ∈ lkC p q a b i n) : x.a = a ∧ x.b = b ∧ x.knob = i ∧ x.other < n := by
  obtain ⟨k, hk, h⟩ := List.mem_filterMap.1 h
  split at h
  · cases h
    exact ⟨rfl, rfl, rfl, List.mem_range.1 hk⟩
  · cases h
theorem lkI_mem {p q : List Knb} {a b n : Nat} {x : Lnk} (h : x ∈ lkI p q a b n) : x.a = a ∧ x.b = b := by
  obtain ⟨i, -, h⟩ := List.mem_flatMap.1 h
  exact ⟨(lkC_mem h).1, (lkC_mem h).2.1⟩
theorem lkB_mem {ks : List Knd} {bs : List Brk} {a n : Nat} {x : Lnk} (h : x ∈ lkB ks bs a n) : x.a = a := by
  obtain ⟨b, -, h⟩ := List.mem_flatMap.1 h
  split at h
  · exact (lkI_mem h).1
  · cases h
theorem linkL_ltO (ks : List Knd) (bs : List Brk) : (linkL ks bs).Pairwise LtO := by
  refine range_lt (fun a _ => range_lt (fun b _ => ?_) ?_) ?_
  · split
    rotate_left
    · exact List.Pairwise.nil
    refine range_lt (fun i _ => ?_) ?_
    · unfold lkC
      rw [List.pairwise_filterMap]
      refine List.pairwise_lt_range.imp fun {k l} hkl x hx y hy => ?_
      split at hx <;> split at hy
      · cases hx
        cases hy
        exact Or.inr ⟨rfl, Or.inr ⟨rfl, Or.inr ⟨rfl, hkl⟩⟩⟩
      all_goals (first | (cases hy; done) | (cases hx; done))
    · intro i j hij x hx y hy
      obtain ⟨h1, h2, h3, -⟩ := lkC_mem hx
      obtain ⟨k1, k2, k3, -⟩ := lkC_mem hy
      exact Or.inr ⟨by omega, Or.inr ⟨by omega, Or.inl (by omega)⟩⟩
  · intro b c hbc x hx y hy
    split at hx
    rotate_left
    · cases hx
    split at hy
    rotate_left
    · cases hy
    obtain ⟨h1, h2⟩ := lkI_mem hx
    obtain ⟨k1, k2⟩ := lkI_mem hy
    exact Or.inr ⟨by omega, Or.inl (by omega)⟩
  · intro a b hab x hx y hy
    have := lkB_mem hx
    have := lkB_mem hy
    exact Or.inl (by omega)
theorem linkL_nodup (ks : List Knd) (bs : List Brk) : (linkL ks bs).Nodup := (linkL_ltO ks bs).imp fun {x y} h e => by
  subst e
  unfold LtO at h
  omega
end Go.Proofs.YtaaeapjnjjbglaaGreatDoor.Lat
namespace Go.Proofs.YtaaeapjnjjbglaaGreatDoor.Lat
open Go.RowKit

/-- Two numbers are the ends of a link. -/
def Nbr (L : List Lnk) (i k : Nat) : Prop := ∃ x ∈ L, (x.a = i ∧ x.b = k) ∨ (x.b = i ∧ x.a = k)
theorem Nbr.symm {L : List Lnk} {i k : Nat} (h : Nbr L i k) : Nbr L k i := by
  obtain ⟨x, hx, h | h⟩ := h
  · exact ⟨x, hx, Or.inr ⟨h.2, h.1⟩⟩
  · exact ⟨x, hx, Or.inl ⟨h.2, h.1⟩⟩
inductive Conn (L : List Lnk) (i : Nat) : Nat → Prop where
  | refl : Conn L i i
  | step {j k : Nat} : Conn L i j → Nbr L j k → Conn L i k
theorem Conn.trans {L : List Lnk} {i j k : Nat} (h : Conn L i j) (h' : Conn L j k) : Conn L i k := by
  induction h' with
  | refl => exact h
  | step _ hn ih => exact ih.step hn
theorem Conn.one {L : List Lnk} {i k : Nat} (h : Nbr L i k) : Conn L i k := Conn.refl.step h
theorem Conn.symm {L : List Lnk} {i j : Nat} (h : Conn L i j) : Conn L j i := by
  induction h with
  | refl => exact .refl
  | step _ hn ih => exact (Conn.one hn.symm).trans ih
/-- The least number that is connected to one. -/
structure Least (L : List Lnk) (i g : Nat) : Prop where
  c : Conn L i g
  le : ∀ j, Conn L i j → g ≤ j
theorem Least.unique {L : List Lnk} {i g h : Nat} (a : Least L i g) (b : Least L i h) : g = h := by
  have := a.le _ b.c
  have := b.le _ a.c
  omega
/-- Links between the first n numbers. -/
def Within (L : List Lnk) (n : Nat) : Prop := ∀ x ∈ L, x.a < n ∧ x.b < n
theorem Nbr.lt {L : List Lnk} {n i k : Nat} (hw : Within L n) (h : Nbr L i k) : i < n ∧ k < n := by
  obtain ⟨x, hx, h⟩ := h
  have := hw x hx
  omega
theorem Conn.lt {L : List Lnk} {n i k : Nat} (hw : Within L n) (hi : i < n) (h : Conn L i k) : k < n := by
  induction h with
  | refl => exact hi
  | step _ hn _ => exact (hn.lt hw).2
def isLeast (L : List Lnk) (n : Nat) (out : List Nat) : Prop := out.length = n ∧ ∀ i, i < n → Least L i (out.getD i 0)
theorem isLeast.unique {L : List Lnk} {n : Nat} {a b : List Nat} (ha : isLeast L n a) (hb : isLeast L n b) : a = b := by
  refine List.ext_getElem (by rw [ha.1, hb.1]) fun i h1 h2 => ?_
  have := (ha.2 i (by have := ha.1; omega)).unique (hb.2 i (by have := ha.1; omega))
  rw [List.getD_eq_getElem?_getD, List.getD_eq_getElem?_getD, List.getElem?_eq_getElem h1, List.getElem?_eq_getElem h2] at this
  simpa using this

/-! The reference's rounds. -/
def rlx (o : List Nat) (x : Lnk) : List Nat := (o.set x.a (min (o.getD x.a 0) (o.getD x.b 0))).set x.b (min (o.getD x.a 0) (o.getD x.b 0))
def rlxs (L : List Lnk) (o : List Nat) (q : Nat) : List Nat := (L.take q).foldl rlx o
def rounds (L : List Lnk) (o : List Nat) : Nat → List Nat
  | 0 => o
  | n + 1 => rlxs L (rounds L o n) L.length
def groupL (L : List Lnk) (n : Nat) : List Nat := rounds L (List.range n) n
theorem rlxs_zero (L : List Lnk) (o : List Nat) : rlxs L o 0 = o := rfl
theorem rlxs_succ {L : List Lnk} {o : List Nat} {q : Nat} {x : Lnk} (h : L[q]? = some x) : rlxs L o (q + 1) = rlx (rlxs L o q) x := by
  unfold rlxs
  rw [List.take_add_one, h, List.foldl_append]
  rfl
theorem rlx_len (o : List Nat) (x : Lnk) : (rlx o x).length = o.length := by simp [rlx]
theorem rlxs_len (L : List Lnk) (o : List Nat) (q : Nat) : (rlxs L o q).length = o.length := by
  unfold rlxs
  generalize L.take q = l
  induction l generalizing o with
  | nil => rfl
  | cons x l ih => rw [List.foldl_cons, ih, rlx_len]
theorem rounds_len (L : List Lnk) (o : List Nat) : ∀ n, (rounds L o n).length = o.length
  | 0 => rfl
  | n + 1 => by rw [rounds, rlxs_len, rounds_len L o n]
theorem getD_set {o : List Nat} {i j v : Nat} (hi : i < o.length) : (o.set i v).getD j 0 = if i = j then v else o.getD j 0 := by
  rw [List.getD_eq_getElem?_getD, List.getD_eq_getElem?_getD, List.getElem?_set]
  by_cases h : i = j
  · subst h
    simp [hi]
  · simp [h]
theorem rlx_at {o : List Nat} {x : Lnk} (ha : x.a < o.length) (hb : x.b < o.length) (j : Nat) : (rlx o x).getD j 0 = if j = x.a ∨ j = x.b then min (o.getD x.a 0) (o.getD x.b 0) else o.getD j 0 := by
  unfold rlx
  rw [getD_set (by simpa using hb), getD_set ha]
  by_cases h1 : x.b = j
  · rw [if_pos h1, if_pos (Or.inr h1.symm)]
  · rw [if_neg h1]
    by_cases h2 : x.a = j
    · rw [if_pos h2, if_pos (Or.inl h2.symm)]
    · rw [if_neg h2, if_neg (by omega)]
/-- What holds in all rounds: each number is connected to what stands there, which is not above it. -/
def Sound (L : List Lnk) (n : Nat) (o : List Nat) : Prop := o.length = n ∧ ∀ i, i < n → Conn L i (o.getD i 0)
theorem Sound.rlx {L : List Lnk} {n : Nat} {o : List Nat} (hw : Within L n) (h : Sound L n o) {x : Lnk} (hx : x ∈ L) : Sound L n (rlx o x) ∧ ∀ j, (Go.Proofs.YtaaeapjnjjbglaaGreatDoor.Lat.rlx o x).getD j 0 ≤ o.getD j 0 := by
  have hl := hw x hx
  have ha := rlx_at (o := o) (x := x) (by rw [h.1]; exact hl.1) (by rw [h.1]; exact hl.2)
  have hn : Nbr L x.a x.b := ⟨x, hx, Or.inl ⟨rfl, rfl⟩⟩
  refine ⟨⟨by rw [rlx_len, h.1], fun i hi => ?_⟩, fun j => ?_⟩
  · rw [ha]
    split
    · rename_i hij
      have hm : min (o.getD x.a 0) (o.getD x.b 0) = o.getD x.a 0 ∨ min (o.getD x.a 0) (o.getD x.b 0) = o.getD x.b 0 := by omega
      have c1 := h.2 x.a hl.1
      have c2 := h.2 x.b hl.2
      rcases hm with hm | hm <;> rw [hm] <;> rcases hij with rfl | rfl
      · exact c1
      · exact (Conn.one hn.symm).trans c1
      · exact (Conn.one hn).trans c2
      · exact c2
    · exact h.2 i hi
  · rw [ha]
    split
    · rename_i hij
      rcases hij with rfl | rfl <;> omega
    · exact Nat.le_refl _
theorem Sound.rlxs {L : List Lnk} {n : Nat} (hw : Within L n) : ∀ (l : List Lnk) (o : List Nat), (∀ x ∈ l, x ∈ L) → Sound L n o → Sound L n (l.foldl Go.Proofs.YtaaeapjnjjbglaaGreatDoor.Lat.rlx o) ∧ ∀ j, (l.foldl Go.Proofs.YtaaeapjnjjbglaaGreatDoor.Lat.rlx o).getD j 0 ≤ o.getD j 0
  | [], o, _, h => ⟨h, fun _ => Nat.le_refl _⟩
  | x :: l, o, hl, h => by
    obtain ⟨h1, h2⟩ := h.rlx hw (hl x (List.mem_cons_self ..))
    obtain ⟨h3, h4⟩ := Sound.rlxs hw l (Go.Proofs.YtaaeapjnjjbglaaGreatDoor.Lat.rlx o x) (fun y hy => hl y (List.mem_cons_of_mem _ hy)) h1
    exact ⟨h3, fun j => Nat.le_trans (h4 j) (h2 j)⟩
/-- Behind a round, both ends of a link are at most what either was ahead of it. -/
theorem rlxs_link {L : List Lnk} {n : Nat} (hw : Within L n) {o : List Nat} (h : Sound L n o) {x : Lnk} (hx : x ∈ L) : (rlxs L o L.length).getD x.a 0 ≤ o.getD x.b 0 ∧ (rlxs L o L.length).getD x.b 0 ≤ o.getD x.a 0 := by
  unfold rlxs
  rw [List.take_length]
  obtain ⟨s, t, hst⟩ := List.append_of_mem hx
  have hs : ∀ y ∈ s, y ∈ L := fun y hy => by rw [hst]; exact List.mem_append.2 (Or.inl hy)
  have ht : ∀ y ∈ t, y ∈ L := fun y hy => by rw [hst]; exact List.mem_append.2 (Or.inr (List.mem_cons_of_mem _ hy))
  have e : L.foldl rlx o = t.foldl rlx (rlx (s.foldl rlx o) x) := by rw [hst, List.foldl_append, List.foldl_cons]
  rw [e]
  obtain ⟨h1, h2⟩ := Sound.rlxs hw s o hs h
  obtain ⟨h3, h4⟩ := h1.rlx hw hx
  obtain ⟨-, h6⟩ := Sound.rlxs hw t _ ht h3
  have hl := hw x hx
  have ha := rlx_at (o := s.foldl rlx o) (x := x) (by rw [h1.1]; exact hl.1) (by rw [h1.1]; exact hl.2)
  have a1 := ha x.a
  have a2 := ha x.b
  rw [if_pos (Or.inl rfl)] at a1
  rw [if_pos (Or.inr rfl)] at a2
  have := h6 x.a
  have := h6 x.b
  have := h2 x.a
  have := h2 x.b
  omega
theorem Sound.start (L : List Lnk) (n : Nat) : Sound L n (List.range n) := ⟨List.length_range, fun i hi => by
  rw [List.getD_eq_getElem?_getD, List.getElem?_range hi]
  exact .refl⟩
theorem Sound.rounds {L : List Lnk} {n : Nat} (hw : Within L n) {o : List Nat} (h : Sound L n o) : ∀ m, Sound L n (rounds L o m)
  | 0 => h
  | m + 1 => by
    have := (Sound.rlxs hw L _ (fun _ h => h) (Sound.rounds hw h m)).1
    unfold Go.Proofs.YtaaeapjnjjbglaaGreatDoor.Lat.rounds Go.Proofs.YtaaeapjnjjbglaaGreatDoor.Lat.rlxs
    rw [List.take_length]
    exact this
theorem rounds_le {L : List Lnk} {n : Nat} (hw : Within L n) {o : List Nat} (h : Sound L n o) (m j : Nat) : (rounds L o (m + 1)).getD j 0 ≤ (rounds L o m).getD j 0 := by
  have := (Sound.rlxs hw L _ (fun _ h => h) (Sound.rounds hw h m)).2 j
  show (rlxs L _ L.length).getD j 0 ≤ _
  unfold rlxs
  rw [List.take_length]
  exact this
theorem countP_lt {p q : Nat → Bool} {i : Nat} : ∀ {l : List Nat}, (∀ j ∈ l, p j = true → q j = true) → i ∈ l → q i = true → p i = false → l.countP p < l.countP q
  | [], _, hi, _, _ => by cases hi
  | x :: l, h, hi, hq, hp => by
    have hle : l.countP p ≤ l.countP q := List.countP_mono_left fun j hj hpj => h j (List.mem_cons_of_mem _ hj) hpj
    rw [List.countP_cons, List.countP_cons]
    rcases List.mem_cons.1 hi with rfl | hi
    · rw [hq, hp]
      simp only [Bool.false_eq_true, if_false, if_true]
      omega
    · have := countP_lt (fun j hj => h j (List.mem_cons_of_mem _ hj)) hi hq hp
      have hx := h x (List.mem_cons_self ..)
      cases hpx : p x
      · simp only [Bool.false_eq_true, if_false]
        omega
      · rw [hx hpx]
        simp only [if_true]
        omega
/-- A path that leaves those at or below g. -/
theorem leaves {L : List Lnk} {g i : Nat} {o : List Nat} (h : Conn L g i) (h0 : o.getD g 0 ≤ g) (h1 : g < o.getD i 0) : ∃ j k, Conn L g j ∧ Nbr L j k ∧ o.getD j 0 ≤ g ∧ g < o.getD k 0 := by
  induction h with
  | refl => omega
  | @step j k hj hn ih =>
    by_cases e : g < o.getD j 0
    · exact ih e
    · exact ⟨j, k, hj, hn, by omega, h1⟩
open Classical in
/-- Those of the first n that are connected to g and stand at or below it. -/
noncomputable def reached (L : List Lnk) (n g : Nat) (o : List Nat) : Nat := (List.range n).countP fun i => decide (Conn L g i ∧ o.getD i 0 ≤ g)
theorem rounds_self {L : List Lnk} {n : Nat} (hw : Within L n) {g : Nat} (hg : g < n) : ∀ m, (rounds L (List.range n) m).getD g 0 ≤ g
  | 0 => by
    show (List.range n).getD g 0 ≤ g
    rw [List.getD_eq_getElem?_getD, List.getElem?_range hg]
    exact Nat.le_refl _
  | m + 1 => Nat.le_trans (rounds_le hw (Sound.start L n) m g) (rounds_self hw hg m)
open Classical in
theorem rounds_many {L : List Lnk} {n : Nat} (hw : Within L n) {g : Nat} (hg : g < n) : ∀ m, (∀ i, Conn L g i → (rounds L (List.range n) m).getD i 0 ≤ g) ∨ m < reached L n g (rounds L (List.range n) m)
  | 0 => by
    right
    refine List.countP_pos_iff.2 ⟨g, List.mem_range.2 hg, ?_⟩
    rw [decide_eq_true_eq]
    exact ⟨.refl, rounds_self hw hg 0⟩
  | m + 1 => by
    have hle := rounds_le hw (Sound.start L n) m
    rcases rounds_many hw hg m with h | h
    · exact Or.inl fun i hi => Nat.le_trans (hle i) (h i hi)
    · by_cases hd : ∀ i, Conn L g i → (rounds L (List.range n) m).getD i 0 ≤ g
      · exact Or.inl fun i hi => Nat.le_trans (hle i) (hd i hi)
      · right
        obtain ⟨i, hi⟩ := Classical.not_forall.1 hd
        obtain ⟨hi, hgi⟩ := Classical.not_imp.1 hi
        obtain ⟨j, k, hj, hn, h1, h2⟩ := leaves hi (rounds_self hw hg m) (by omega)
        have hk : (rounds L (List.range n) (m + 1)).getD k 0 ≤ g := by
          obtain ⟨x, hx, hjk⟩ := hn
          have := rlxs_link hw (Sound.rounds hw (Sound.start L n) m) hx
          show (rlxs L _ L.length).getD k 0 ≤ g
          rcases hjk with ⟨rfl, rfl⟩ | ⟨rfl, rfl⟩ <;> omega
        have : reached L n g (rounds L (List.range n) m) < reached L n g (rounds L (List.range n) (m + 1)) := by
          refine countP_lt (i := k) (fun y _ hy => ?_) (List.mem_range.2 (hn.lt hw).2) ?_ ?_
          · rw [decide_eq_true_eq] at hy ⊢
            exact ⟨hy.1, Nat.le_trans (hle y) hy.2⟩
          · rw [decide_eq_true_eq]
            exact ⟨hj.step hn, hk⟩
          · rw [decide_eq_false_iff_not]
            exact fun h => by omega
        omega
theorem groupL_least {L : List Lnk} {n : Nat} (hw : Within L n) : isLeast L n (groupL L n) := by
  have hs := Sound.rounds hw (Sound.start L n) n
  refine ⟨hs.1, fun i hi => ⟨hs.2 i hi, fun j hj => ?_⟩⟩
  have hjn := hj.lt hw hi
  rcases rounds_many hw hjn n with h | h
  · exact h i hj.symm
  · have : reached L n j (rounds L (List.range n) n) ≤ n := by
      unfold reached
      refine Nat.le_trans List.countP_le_length ?_
      simp
    omega

/-! The search in depth: out holds a label, or a number below 0. -/
def lab (o : List Int) (v : Nat) : Int := o.getD v 0
theorem lab_set {o : List Int} {i j : Nat} {v : Int} (hi : i < o.length) : lab (o.set i v) j = if i = j then v else lab o j := by
  unfold lab
  rw [List.getD_eq_getElem?_getD, List.getD_eq_getElem?_getD, List.getElem?_set]
  by_cases h : i = j
  · subst h
    simp [hi]
  · simp [h]
/-- What one visit does. -/
structure Vis (L : List Lnk) (n : Nat) (i k : Nat) (o o' : List Int) : Prop where
  len : o'.length = o.length
  old : ∀ v, 0 ≤ lab o v → lab o' v = lab o v
  new : ∀ v, lab o v < 0 → lab o' v < 0 ∨ (lab o' v = i ∧ Conn L k v)
  at_ : 0 ≤ lab o' k
  cl : ∀ v, lab o v < 0 → 0 ≤ lab o' v → ∀ u, Nbr L v u → 0 ≤ lab o' u
theorem Vis.done {L : List Lnk} {n i k : Nat} {o : List Int} (h : 0 ≤ lab o k) : Vis L n i k o o := ⟨rfl, fun _ _ => rfl, fun _ h => Or.inl h, h, fun v h h' => by omega⟩
/-- What has been done at the first t neighbours. -/
structure VisP (L : List Lnk) (n : Nat) (i k : Nat) (nb : List Nat) (t : Nat) (o o' : List Int) : Prop where
  len : o'.length = o.length
  old : ∀ v, 0 ≤ lab o v → lab o' v = lab o v
  new : ∀ v, lab o v < 0 → lab o' v < 0 ∨ (lab o' v = i ∧ Conn L k v)
  at_ : 0 ≤ lab o' k
  cl : ∀ v, v ≠ k → lab o v < 0 → 0 ≤ lab o' v → ∀ u, Nbr L v u → 0 ≤ lab o' u
  nb : ∀ s u, s < t → nb[s]? = some u → 0 ≤ lab o' u
theorem VisP.start {L : List Lnk} {n i k : Nat} {nb : List Nat} {o : List Int} (hk : k < o.length) (h : lab o k < 0) : VisP L n i k nb 0 o (o.set k i) := by
  have hl := fun j => lab_set (o := o) (i := k) (j := j) (v := (i : Int)) hk
  refine ⟨by simp, fun v hv => ?_, fun v hv => ?_, ?_, fun v hv h1 h2 => ?_, fun s u hs => by omega⟩
  · rw [hl, if_neg (by rintro rfl; omega)]
  · rw [hl]
    by_cases e : k = v
    · subst e
      rw [if_pos rfl]
      exact Or.inr ⟨rfl, .refl⟩
    · rw [if_neg e]
      exact Or.inl hv
  · rw [hl, if_pos rfl]
    omega
  · rw [hl, if_neg (Ne.symm hv)] at h2
    omega
theorem VisP.next {L : List Lnk} {n i k : Nat} {nb : List Nat} {t u : Nat} {o o' o'' : List Int} (h : VisP L n i k nb t o o') (hu : nb[t]? = some u) (hn : Nbr L k u) (h' : Vis L n i u o' o'') : VisP L n i k nb (t + 1) o o'' := by
  have mono : ∀ v, 0 ≤ lab o' v → 0 ≤ lab o'' v := fun v hv => by rw [h'.old v hv]; exact hv
  refine ⟨h'.len.trans h.len, fun v hv => ?_, fun v hv => ?_, mono _ h.at_, fun v hv h1 h2 w hw => ?_, fun s w hs hw => ?_⟩
  · rw [h'.old v (by rw [h.old v hv]; exact hv), h.old v hv]
  · rcases h.new v hv with h1 | ⟨h1, h2⟩
    · rcases h'.new v h1 with h3 | ⟨h3, h4⟩
      · exact Or.inl h3
      · exact Or.inr ⟨h3, (Conn.one hn).trans h4⟩
    · exact Or.inr ⟨by rw [h'.old v (by omega), h1], h2⟩
  · rcases Int.lt_or_le (lab o' v) 0 with h3 | h3
    · exact h'.cl v h3 h2 w hw
    · exact mono _ (h.cl v hv h1 h3 w hw)
  · rcases Nat.lt_or_ge s t with h1 | h1
    · exact mono _ (h.nb s w h1 hw)
    · obtain rfl : s = t := by omega
      rw [hu] at hw
      cases hw
      exact h'.at_
theorem VisP.all {L : List Lnk} {n i k : Nat} {nb : List Nat} {o o' : List Int} (h : VisP L n i k nb nb.length o o') (hnb : ∀ u, Nbr L k u → u ∈ nb) : Vis L n i k o o' := by
  refine ⟨h.len, h.old, h.new, h.at_, fun v h1 h2 u hu => ?_⟩
  by_cases e : v = k
  · subst e
    obtain ⟨s, hs⟩ := List.getElem?_of_mem (hnb u hu)
    exact h.nb s u (List.getElem?_eq_some_iff.1 hs).1 hs
  · exact h.cl v e h1 h2 u hu
/-- How many are without a label. -/
def negs (o : List Int) : Nat := o.countP fun v => decide (v < 0)
theorem negs_set {o : List Int} {k : Nat} {i : Nat} (hk : k < o.length) (h : lab o k < 0) : negs (o.set k i) + 1 = negs o := by
  unfold negs
  induction o generalizing k with
  | nil => simp at hk
  | cons x o ih =>
    cases k with
    | zero =>
      simp only [lab, List.getD_cons_zero] at h
      simp only [List.set_cons_zero, List.countP_cons]
      rw [if_neg (by simp), if_pos (by simpa using h)]
    | succ k =>
      simp only [List.set_cons_succ, List.countP_cons]
      have := ih (k := k) (by simpa using hk) (by simpa [lab] using h)
      omega
theorem negs_le {o o' : List Int} (hl : o'.length = o.length) (h : ∀ v, 0 ≤ lab o v → lab o' v = lab o v) : negs o' ≤ negs o := by
  unfold negs
  induction o generalizing o' with
  | nil => rw [List.length_nil] at hl; rw [List.eq_nil_of_length_eq_zero hl]; exact Nat.le_refl _
  | cons x o ih =>
    cases o' with
    | nil => simp at hl
    | cons y o' =>
      have h1 := ih (o' := o') (by simpa using hl) (fun v hv => by have := h (v + 1) (by simpa [lab] using hv); simpa [lab] using this)
      have h2 := h 0
      simp only [lab, List.getD_cons_zero] at h2
      rw [List.countP_cons, List.countP_cons]
      by_cases hy : y < 0
      · rw [if_pos (by simpa using hy)]
        by_cases hx : x < 0
        · rw [if_pos (by simpa using hx)]
          omega
        · have := h2 (by omega)
          omega
      · rw [if_neg (by simpa using hy)]
        omega
/-- What holds ahead of the visit of i. -/
structure Upto (L : List Lnk) (n i : Nat) (o : List Int) : Prop where
  len : o.length = n
  l : ∀ v, v < n → 0 ≤ lab o v → Least L v (lab o v).toNat
  cl : ∀ v, v < n → 0 ≤ lab o v → ∀ u, Nbr L v u → 0 ≤ lab o u
  d : ∀ j, j < i → 0 ≤ lab o j
theorem Upto.conn {L : List Lnk} {n i v u : Nat} {o : List Int} (hw : Within L n) (h : Upto L n i o) (hv : v < n) (h0 : 0 ≤ lab o v) (hc : Conn L v u) : 0 ≤ lab o u := by
  induction hc with
  | refl => exact h0
  | step hj hn ih => exact h.cl _ (hj.lt hw hv) ih _ hn
theorem Upto.start (L : List Lnk) (n : Nat) : Upto L n 0 (List.replicate n (-1)) := by
  have key : ∀ v, v < n → lab (List.replicate n (-1)) v = -1 := fun v hv => by
    unfold lab
    rw [List.getD_eq_getElem?_getD, List.getElem?_replicate, if_pos hv]
    rfl
  refine ⟨by simp, fun v hv h => ?_, fun v hv h => ?_, fun j hj => by omega⟩
  · rw [key v hv] at h
    omega
  · rw [key v hv] at h
    omega
theorem Upto.next {L : List Lnk} {n i : Nat} {o o' : List Int} (hw : Within L n) (hi : i < n) (h : Upto L n i o) (h' : Vis L n i i o o') : Upto L n (i + 1) o' := by
  have mono : ∀ v, 0 ≤ lab o v → 0 ≤ lab o' v := fun v hv => by rw [h'.old v hv]; exact hv
  refine ⟨h'.len.trans h.len, fun v hv h0 => ?_, fun v hv h0 u hu => ?_, fun j hj => ?_⟩
  · rcases Int.lt_or_le (lab o v) 0 with h1 | h1
    · rcases h'.new v h1 with h2 | ⟨h2, h3⟩
      · omega
      · rw [h2, Int.toNat_natCast]
        refine ⟨h3.symm, fun j hj => ?_⟩
        rcases Nat.lt_or_ge j i with h4 | h4
        · exfalso
          have h5 := h.conn hw (by omega) (h.d j h4) (hj.symm)
          omega
        · exact h4
    · rw [h'.old v h1]
      exact h.l v hv h1
  · rcases Int.lt_or_le (lab o v) 0 with h1 | h1
    · exact h'.cl v h1 h0 u hu
    · exact mono _ (h.cl v hv h1 u hu)
  · rcases Nat.lt_or_ge j i with h1 | h1
    · exact mono _ (h.d j h1)
    · obtain rfl : j = i := by omega
      exact h'.at_
theorem Upto.end_ {L : List Lnk} {n : Nat} {o : List Int} (hw : Within L n) (h : Upto L n n o) : o = (groupL L n).map fun (g : Nat) => (g : Int) := by
  have hu : isLeast L n (o.map Int.toNat) := by
    refine ⟨by rw [List.length_map, h.len], fun i hi => ?_⟩
    have := h.l i hi (h.d i hi)
    rw [List.getD_eq_getElem?_getD, List.getElem?_map, List.getElem?_eq_getElem (by rw [h.len]; exact hi)]
    unfold lab at this
    rw [List.getD_eq_getElem?_getD, List.getElem?_eq_getElem (by rw [h.len]; exact hi)] at this
    exact this
  rw [← hu.unique (groupL_least hw), List.map_map]
  refine List.ext_getElem (by simp) fun i h1 h2 => ?_
  have := h.d i (by have := h.len; omega)
  unfold lab at this
  rw [List.getD_eq_getElem?_getD, List.getElem?_eq_getElem h1] at this
  simp only [List.getElem_map, Function.comp]
  simp only [Option.getD_some] at this
  omega
end Go.Proofs.YtaaeapjnjjbglaaGreatDoor.Lat

namespace Go.Proofs.YtaaeapjnjjbglaaGreatDoor
open Go.RowKit

def touchAt (l : List Plate) (a b : Laid) (x y z : Int) : Bool := hasB l a x y z && (hasB l b x y (z + 1) || hasB l b x y (z - 1))
open Classical in
noncomputable def touchB (s : Shape) (l : List Plate) (a b : Laid) : Bool := decide (touchP s l a b)
theorem touchB_iff {s : Shape} {l : List Plate} {a b : Laid} : touchB s l a b = true ↔ touchP s l a b := by simp [touchB]
theorem touchB_yes {s : Shape} {l : List Plate} {a b : Laid} {x y z : Int} (h : s.inside x y z = true) (ht : touchAt l a b x y z = true) : touchB s l a b = true := by
  rw [touchB_iff]
  unfold touchAt at ht
  rw [Bool.and_eq_true, Bool.or_eq_true] at ht
  exact ⟨x, y, z, h, ht.1, ht.2⟩
theorem touchB_no {s : Shape} {l : List Plate} {a b : Laid} (h : ∀ x y z, s.inside x y z = true → touchAt l a b x y z = false) : touchB s l a b = false := by
  cases ht : touchB s l a b
  · rfl
  · rw [touchB_iff] at ht
    obtain ⟨x, y, z, h1, h2, h3⟩ := ht
    have := h x y z h1
    unfold touchAt at this
    rw [h2, Bool.true_and, Bool.or_eq_false_iff] at this
    rw [this.1, this.2] at h3
    simp at h3
end Go.Proofs.YtaaeapjnjjbglaaGreatDoor
