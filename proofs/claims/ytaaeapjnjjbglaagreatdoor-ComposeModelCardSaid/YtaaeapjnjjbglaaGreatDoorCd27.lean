/- Texts of another chapter in a namespace of their own (printed by lat.py). -/
import Derived.Test.YtaaeapjnjjbglaaGreatDoorCd16
import Derived.Test.YtaaeapjnjjbglaaGreatDoorCd17
import Derived.Test.YtaaeapjnjjbglaaGreatDoorCd19
import Derived.Test.YtaaeapjnjjbglaaGreatDoorCd20
import Derived.Test.YtaaeapjnjjbglaaGreatDoorCd24
import Derived.Test.YtaaeapjnjjbglaaGreatDoorCd26
import Derived.Shelf.SlLaysF0
import Derived.Test.YtaaeapjnjjbglaaGreatDoorProg

-- holds: Api1 BrickB BrickM CellsP CheckKind CheckM Compose Composed Faces GroupS Has Inverse JoinS KindS KnobsP Like LikeS LinkS LinkU LnkP Near NextS NumX Ord OvM OvN OvWalk Overlaps Ovl OvlS PairKey RKind RKnobbed RLikeW RMeet ROver RPlaced RSorted RValidKind SameI SameL SameM Sort2 Sort2Laid SortC SortK SortKLaid SortLaid SortNil SortNilK Span Step Turn TurnD Turned Turners Which
namespace Go.Proofs.YtaaeapjnjjbglaaGreatDoor.Lat
open Go.RowKit

def minP (a b : Pt) : Pt := ⟨min a.x b.x, min a.y b.y, min a.z b.z⟩
def maxP (a b : Pt) : Pt := ⟨max a.x b.x, max a.y b.y, max a.z b.z⟩
theorem minP_self (a : Pt) : minP a a = a := by
  obtain ⟨x, y, z⟩ := a
  simp [minP]
theorem maxP_self (a : Pt) : maxP a a = a := by
  obtain ⟨x, y, z⟩ := a
  simp [maxP]
/-- The least and the greatest place of a list of cells, axis by axis. -/
def spanOf : List Pt → Pt × Pt
  | [] => (⟨0, 0, 0⟩, ⟨0, 0, 0⟩)
  | c :: l => (l.foldl minP c, l.foldl maxP c)
theorem spanOf_one (c : Pt) : spanOf [c] = (c, c) := rfl
theorem spanOf_snoc {l : List Pt} (h : l ≠ []) (c : Pt) : spanOf (l ++ [c]) = (minP (spanOf l).1 c, maxP (spanOf l).2 c) := by
  cases l with
  | nil => exact absurd rfl h
  | cons d l =>
    show (List.foldl minP d (l ++ [c]), List.foldl maxP d (l ++ [c])) = _
    rw [List.foldl_append, List.foldl_append]
    rfl
/-- The cells of the first j bricks. -/
def allC (ks : List Knd) (bs : List Brk) (j : Nat) : List Pt := (List.range j).flatMap fun i => bcells ks (brkAt bs i)
theorem allC_zero (ks : List Knd) (bs : List Brk) : allC ks bs 0 = [] := rfl
theorem allC_succ (ks : List Knd) (bs : List Brk) (j : Nat) : allC ks bs (j + 1) = allC ks bs j ++ bcells ks (brkAt bs j) := by
  unfold allC
  rw [List.range_succ, List.flatMap_append]
  simp
theorem allC_ne {ks : List Knd} {bs : List Brk} {j : Nat} (hj : 0 < j) (h : bcells ks (brkAt bs 0) ≠ []) : allC ks bs j ≠ [] := by
  intro e
  unfold allC at e
  rw [List.flatMap_eq_nil_iff] at e
  exact h (e 0 (List.mem_range.2 hj))
def boundsV (ks : List Knd) (bs : List Brk) : Pt × Pt := if checkErr ks bs = 0 then spanOf (allC ks bs bs.length) else (⟨0, 0, 0⟩, ⟨0, 0, 0⟩)
def spC (s : Pt × Pt) : Array Value := #[.int .i64 s.1.x, .int .i64 s.1.y, .int .i64 s.1.z, .int .i64 s.2.x, .int .i64 s.2.y, .int .i64 s.2.z]
theorem bounds_bad {ks : List Knd} {bs : List Brk} {r : Int} (h : checkErr ks bs = r) (h0 : r ≠ 0) : boundsV ks bs = (⟨0, 0, 0⟩, ⟨0, 0, 0⟩) := if_neg (by rw [h]; exact h0)
theorem bounds_ok {ks : List Knd} {bs : List Brk} (h : checkErr ks bs = 0) : boundsV ks bs = spanOf (allC ks bs bs.length) := if_pos h
theorem check_model {ks : List Knd} {bs : List Brk} (h : checkErr ks bs = 0) : modelErr ks bs = 0 := by
  by_cases h0 : modelErr ks bs = 0
  · exact h0
  · rw [checkErr, if_neg h0] at h
    exact h
/-- What Bounds hands back. -/
def SpanRes (s : Pt × Pt) (r : Int) (w : World) (e : Ending) (w' : World) : Prop := e = .returned (.tuple #[.agg (spC s), .int .i64 r]) ∧ Ext w w'
end Go.Proofs.YtaaeapjnjjbglaaGreatDoor.Lat
namespace Go.Proofs.YtaaeapjnjjbglaaGreatDoor.Lat
open Go.RowKit

theorem knbLt_iff {y x : Knb} : y.lt x = true ↔ ltP y.at_ x.at_ = true ∨ (y.at_ = x.at_ ∧ y.dir < x.dir) := by
  simp only [Knb.lt, Bool.or_eq_true, Bool.and_eq_true, Pt.eqB_iff, decide_eq_true_eq]
theorem knbLt_trans {a b c : Knb} (h : a.lt b = true) (k : b.lt c = true) : a.lt c = true := by
  rw [knbLt_iff] at *
  rcases h with h | ⟨h1, h2⟩ <;> rcases k with k | ⟨k1, k2⟩
  · exact Or.inl (ltP_trans h k)
  · exact Or.inl (by rw [← k1]; exact h)
  · exact Or.inl (by rw [h1]; exact k)
  · exact Or.inr ⟨h1.trans k1, by omega⟩
theorem knobs_asc {cs : List Pt} {l : List Knb} (h : knobsB cs l = true) {i j : Nat} (hij : i < j) (hj : j < l.length) : (knbAt l i).lt (knbAt l j) = true := by
  have step : ∀ i, i + 1 < l.length → (knbAt l i).lt (knbAt l (i + 1)) = true := fun i hi => by
    have := allR_at h hi
    unfold knobOk at this
    rw [Bool.and_eq_true, Bool.or_eq_true] at this
    rcases this.2 with h' | h'
    · exact absurd (of_decide_eq_true h') (by omega)
    · exact h'
  have far : ∀ d i, i + d + 1 < l.length → (knbAt l i).lt (knbAt l (i + d + 1)) = true := by
    intro d
    induction d with
    | zero => exact fun i hi => step i hi
    | succ d ih => exact fun i hi => knbLt_trans (ih i (by omega)) (step (i + d + 1) hi)
  have := far (j - i - 1) i (by omega)
  rwa [show i + (j - i - 1) + 1 = j by omega] at this
theorem knob_one {cs : List Pt} {l : List Knb} (h : knobsB cs l = true) {i : Nat} (hi : i < l.length) : (knbAt l i).one cs = true := by
  have := allR_at h hi
  unfold knobOk at this
  rw [Bool.and_eq_true] at this
  exact this.1
theorem one_iff {cs : List Pt} {x : Knb} (h : x.one cs = true) : x.dir ≤ 5 ∧ 1 ≤ x.sort ∧ x.sort ≤ 6 ∧ x.at_ ∈ cs ∧ addP x.at_ (stepS x.dir.toNat) ∉ cs := by
  unfold Knb.one at h
  simp only [Bool.and_eq_true, decide_eq_true_eq, inB_iff, Bool.not_eq_true'] at h
  refine ⟨h.1, h.2.1.1, h.2.1.2, hasP_iff.1 h.2.2.1, fun hm => ?_⟩
  rw [hasP_iff.2 hm] at h
  exact absurd h.2.2.2 (by decide)
theorem dirT_inj : ∀ d, d < 6 → ∀ e, e < 6 → ∀ n, n < 24 → dirT d n = dirT e n → d = e := by decide +kernel
theorem check_over {ks : List Knd} {bs : List Brk} (h : checkErr ks bs = 0) : overL ks bs bs.length = [] := by
  have hm := check_model h
  unfold checkErr at h
  rw [if_pos hm] at h
  by_cases h0 : overL ks bs bs.length = []
  · exact h0
  · rw [if_neg h0] at h
    cases h
/-- What is used of a valid model, plain. -/
structure Fit (ks : List Knd) (bs : List Brk) : Prop where
  n : bs.length ≤ 40
  b : ∀ j, j < bs.length → ∃ (i tn : Nat) (k : Knd), (brkAt bs j).kind = i ∧ (brkAt bs j).turn = tn ∧ tn < 24 ∧ ks[i]? = some k ∧ k.valid = true ∧ k.Fine ∧ Pt.in_ 1000 (brkAt bs j).at_ ∧ bknobs ks (brkAt bs j) = placeK k.knobs tn (brkAt bs j).at_ ∧ bcells ks (brkAt bs j) = sortP (placeP k.cells tn (brkAt bs j).at_)
  o : ∀ i k, i < bs.length → k < bs.length → ∀ p, p ∈ bcells ks (brkAt bs i) → p ∈ bcells ks (brkAt bs k) → i = k
theorem fit_of {w : World} {QA : Option Addr} {qc : Nat} {qs : List (Knd × KAt)} (hk : Kinds w QA qc qs) {bs : List Brk} (hb : ∀ b ∈ bs, b.byte) (h : checkErr (qs.map (·.1)) bs = 0) : Fit (qs.map (·.1)) bs := by
  have hm := check_model h
  have hf := mfine_of hk hb hm
  have h0 : kindsErr (qs.map (·.1)) = 0 := by
    by_cases h0 : kindsErr (qs.map (·.1)) = 0
    · exact h0
    · rw [modelErr_kinds h0] at hm
      exact hm
  refine ⟨hf.n, fun j hj => ?_, ?_⟩
  · have hq : bs[j]? = some bs[j] := List.getElem?_eq_getElem hj
    obtain ⟨i, tn, k, p, e1, e2, ht, hi, hkf, hp, -⟩ := hf.b _ (List.getElem_mem hj)
    rw [brkAt_eq hq]
    exact ⟨i, tn, k, e1, e2, ht, by rw [List.getElem?_map, hi]; rfl, kindsErr_valid h0 (List.mem_map.2 ⟨_, List.mem_of_getElem? hi, rfl⟩), hkf, hp, bknobs_is e1 e2 hi, bcells_is e1 e2 hi⟩
  · have ho := check_over h
    have key : ∀ i k, i < k → k < bs.length → ∀ p, p ∈ bcells (qs.map (·.1)) (brkAt bs i) → p ∈ bcells (qs.map (·.1)) (brkAt bs k) → False := fun i k hik hk p h1 h2 => by
      have : ((i : Int), (k : Int)) ∈ overL (qs.map (·.1)) bs bs.length := mem_overL.2 ⟨i, k, rfl, hik, hk, commonB_iff.2 ⟨p, h1, h2⟩⟩
      rw [ho] at this
      cases this
    intro i k hi hk p h1 h2
    rcases Nat.lt_trichotomy i k with h | h | h
    · exact (key i k h hk p h1 h2).elim
    · exact h
    · exact (key k i h hi p h2 h1).elim
section
variable {ks : List Knd} {bs : List Brk}
theorem Fit.klen (hf : Fit ks bs) {j : Nat} (hj : j < bs.length) : (bknobs ks (brkAt bs j)).length ≤ 48 := by
  obtain ⟨i, tn, k, e1, e2, ht, hi, hv, hkf, hp, hb, hc⟩ := hf.b j hj
  rw [hb, placeK_len]
  have h1 : k.sized = true := by
    unfold Knd.valid at hv
    rw [Bool.and_eq_true] at hv
    exact hv.1
  exact (sized_iff.1 h1).2.1
/-- A placed knob, and the one it comes from. -/
theorem Fit.knob (hf : Fit ks bs) {j q : Nat} (hj : j < bs.length) (hq : q < (bknobs ks (brkAt bs j)).length) : ∃ (tn : Nat) (k : Knd) (d : Nat), tn < 24 ∧ k.valid = true ∧ q < k.knobs.length ∧ d < 6 ∧ (knbAt k.knobs q).dir = d ∧ 1 ≤ (knbAt k.knobs q).sort ∧ (knbAt k.knobs q).sort ≤ 6 ∧
    knbAt (bknobs ks (brkAt bs j)) q = ⟨addP (turnS (knbAt k.knobs q).at_ tn) (brkAt bs j).at_, dirT d tn, (knbAt k.knobs q).sort⟩ ∧ addP (turnS (knbAt k.knobs q).at_ tn) (brkAt bs j).at_ ∈ bcells ks (brkAt bs j) ∧ (brkAt bs j).turn = tn ∧ (∃ i : Nat, (brkAt bs j).kind = i ∧ ks[i]? = some k) ∧ (knbAt k.knobs q).at_ ∈ k.cells ∧ (knbAt k.knobs q).at_.in_ 15 ∧ Pt.in_ 1000 (brkAt bs j).at_ := by
  obtain ⟨i, tn, k, e1, e2, ht, hi, hv, hkf, hp, hb, hc⟩ := hf.b j hj
  rw [hb, placeK_len] at hq
  have hv' := hv
  unfold Knd.valid at hv'
  simp only [Bool.and_eq_true] at hv'
  have ho := one_iff (knob_one hv'.2.2 hq)
  have hm : knbAt k.knobs q ∈ k.knobs := by
    rw [knbAt_eq (List.getElem?_eq_getElem hq)]
    exact List.getElem_mem hq
  have hkd := hkf.kok _ hm
  refine ⟨tn, k, (knbAt k.knobs q).dir.toNat, ht, hv, hq, by have := ho.1; have := hkd.2.1; omega, by have := hkd.2.1; omega, ho.2.1, ho.2.2.1, ?_, ?_, e2, ⟨i, e1, hi⟩, ho.2.2.2.1, hkf.near _ ho.2.2.2.1, hp⟩
  · rw [hb]
    have hg : k.knobs[q]? = some k.knobs[q] := List.getElem?_eq_getElem hq
    rw [knbAt_eq hg]
    refine knbAt_eq ?_
    unfold placeK
    rw [List.getElem?_map, hg]
    rfl
  · rw [hc]
    refine (sortP_perm _).mem_iff.2 ?_
    unfold placeP
    exact List.mem_map.2 ⟨_, ho.2.2.2.1, rfl⟩
theorem Fit.dir (hf : Fit ks bs) {j q : Nat} (hj : j < bs.length) (hq : q < (bknobs ks (brkAt bs j)).length) : 0 ≤ (knbAt (bknobs ks (brkAt bs j)) q).dir ∧ (knbAt (bknobs ks (brkAt bs j)) q).dir < 6 ∧ 1 ≤ (knbAt (bknobs ks (brkAt bs j)) q).sort ∧ (knbAt (bknobs ks (brkAt bs j)) q).sort ≤ 6 := by
  obtain ⟨tn, k, d, ht, hv, hqk, hd, e1, e2, e3, e4, -⟩ := hf.knob hj hq
  rw [e4]
  have := dirT_lt hd ht
  exact ⟨by simp only; omega, by simp only; omega, e2, e3⟩
/-- A knob that can meet another one. -/
structure Knb.meets (x : Knb) : Prop where
  ok : x.at_.ok
  d0 : 0 ≤ x.dir
  d5 : x.dir ≤ 5
  s1 : 1 ≤ x.sort
  s6 : x.sort ≤ 6
theorem Fit.meets (hf : Fit ks bs) {j q : Nat} (hj : j < bs.length) (hq : q < (bknobs ks (brkAt bs j)).length) : (knbAt (bknobs ks (brkAt bs j)) q).meets := by
  obtain ⟨tn, k, d, ht, hv, hqk, hd, e1, e2, e3, e4, -, -, -, -, hin, hp⟩ := hf.knob hj hq
  rw [e4]
  have := dirT_lt hd ht
  exact ⟨(addP_in (turnS_in hin tn) hp).ok (by omega), by simp only; omega, by simp only; omega, e2, e3⟩
/-- **No two knobs are on one face.** -/
theorem Fit.face (hf : Fit ks bs) {i j q r : Nat} (hi : i < bs.length) (hj : j < bs.length) (hq : q < (bknobs ks (brkAt bs i)).length) (hr : r < (bknobs ks (brkAt bs j)).length) (h1 : (knbAt (bknobs ks (brkAt bs i)) q).at_ = (knbAt (bknobs ks (brkAt bs j)) r).at_)
    (h2 : (knbAt (bknobs ks (brkAt bs i)) q).dir = (knbAt (bknobs ks (brkAt bs j)) r).dir) : i = j ∧ q = r := by
  obtain ⟨t1, k1, d1, ht1, hv1, hq1, hd1, a1, -, -, b1, c1, f1, ⟨i1, g1, l1⟩, -⟩ := hf.knob hi hq
  obtain ⟨t2, k2, d2, ht2, hv2, hq2, hd2, a2, -, -, b2, c2, f2, ⟨i2, g2, l2⟩, -⟩ := hf.knob hj hr
  rw [b1, b2] at h1 h2
  simp only at h1 h2
  have hij : i = j := hf.o i j hi hj _ c1 (by rw [h1]; exact c2)
  subst hij
  refine ⟨rfl, ?_⟩
  obtain rfl : t1 = t2 := by omega
  obtain rfl : i1 = i2 := by omega
  obtain rfl : k1 = k2 := by
    rw [l1] at l2
    cases l2
    rfl
  have e1 := turnS_inj _ (addP_inj h1)
  have e2 : d1 = d2 := dirT_inj d1 hd1 d2 hd2 t1 ht1 (by omega)
  have hv' := hv1
  unfold Knd.valid at hv'
  simp only [Bool.and_eq_true] at hv'
  rcases Nat.lt_trichotomy q r with h | h | h
  · have := knbLt_iff.1 (knobs_asc hv'.2.2 h hq2)
    rw [e1, ltP_irrefl] at this
    rcases this with h' | h'
    · cases h'
    · omega
  · exact h
  · have := knbLt_iff.1 (knobs_asc hv'.2.2 h hq1)
    rw [e1, ltP_irrefl] at this
    rcases this with h' | h'
    · cases h'
    · omega
/-- At most one other knob meets a knob. -/
theorem lnk_unique (hf : Fit ks bs) {x y : Lnk} (hx : IsLnk ks bs x) (hy : IsLnk ks bs y) (ha : x.a = y.a) (hk : x.knob = y.knob) : x = y := by
  obtain ⟨xa, xb, xk, xo, xs⟩ := x
  obtain ⟨ya, yb, yk, yo, ys⟩ := y
  simp only at ha hk
  subst ha hk
  obtain ⟨a1, a2, a3, a4, a5, a6⟩ := hx
  obtain ⟨b1, b2, b3, b4, b5, b6⟩ := hy
  simp only at a1 a2 a3 a4 a5 a6 b1 b2 b3 b4 b5 b6
  rw [meetB_iff] at a5 b5
  obtain ⟨h1, h2⟩ := hf.face a2 b2 a4 b4 (by rw [← a5.1, ← b5.1]) (by rw [a5.2.1, b5.2.1])
  subst h1 h2
  rw [a6, b6]
/-- In a valid model the list ascends already by the two bricks and the first knob. -/
theorem linkL_asc (hf : Fit ks bs) : (linkL ks bs).Pairwise fun x y => ltK x y = true := by
  have h := linkL_ltO ks bs
  rw [List.pairwise_iff_getElem] at h ⊢
  intro i j hi hj hij
  have h1 := h i j hi hj hij
  rw [ltK_iff]
  unfold LtO at h1
  rcases h1 with h1 | ⟨e1, h1 | ⟨e2, h1 | ⟨e3, h1⟩⟩⟩
  · exact Or.inl h1
  · exact Or.inr ⟨e1, Or.inl h1⟩
  · exact Or.inr ⟨e1, Or.inr ⟨e2, h1⟩⟩
  · have := lnk_unique hf (mem_linkL.1 (List.getElem_mem hi)) (mem_linkL.1 (List.getElem_mem hj)) e1 e3
    rw [this] at h1
    omega
/-! What the program has gathered. -/
structure Got (ks : List Knd) (bs : List Brk) (a n : Nat) (L : List Lnk) : Prop where
  nd : L.Nodup
  m : ∀ x, x ∈ L ↔ IsLnk ks bs x ∧ (x.a < a ∨ (x.a = a ∧ x.knob < n))
theorem Got.nil : Got ks bs 0 0 [] := ⟨List.nodup_nil, fun x => ⟨fun h => (nomatch h), fun h => absurd h.2 (by omega)⟩⟩
theorem Got.next {a : Nat} {L : List Lnk} (h : Got ks bs a (bknobs ks (brkAt bs a)).length L) : Got ks bs (a + 1) 0 L := ⟨h.nd, fun x => by
  rw [h.m]
  constructor
  · rintro ⟨h1, h2⟩
    exact ⟨h1, by omega⟩
  · rintro ⟨h1, h2⟩
    refine ⟨h1, ?_⟩
    have := h1.k
    by_cases e : x.a = a
    · rw [e] at this
      exact Or.inr ⟨e, this⟩
    · omega⟩
theorem Got.skip {a n : Nat} {L : List Lnk} (h : Got ks bs a n L) (hn : ∀ x, IsLnk ks bs x → x.a = a → x.knob = n → False) : Got ks bs a (n + 1) L := ⟨h.nd, fun x => by
  rw [h.m]
  constructor
  · rintro ⟨h1, h2⟩
    exact ⟨h1, by omega⟩
  · rintro ⟨h1, h2⟩
    refine ⟨h1, ?_⟩
    rcases h2 with h2 | ⟨h2, h3⟩
    · exact Or.inl h2
    · by_cases e : x.knob = n
      · exact (hn x h1 h2 e).elim
      · omega⟩
theorem Got.add (hf : Fit ks bs) {a n : Nat} {L : List Lnk} (h : Got ks bs a n L) {x : Lnk} (hx : IsLnk ks bs x) (ha : x.a = a) (hn : x.knob = n) : Got ks bs a (n + 1) (L ++ [x]) := by
  refine ⟨?_, fun y => ?_⟩
  · rw [List.nodup_append]
    refine ⟨h.nd, by simp, fun y hy z hz e => ?_⟩
    rw [List.mem_singleton] at hz
    subst hz e
    have := ((h.m y).1 hy).2
    omega
  · rw [List.mem_append, h.m, List.mem_singleton]
    constructor
    · rintro (⟨h1, h2⟩ | rfl)
      · exact ⟨h1, by omega⟩
      · exact ⟨hx, by omega⟩
    · rintro ⟨h1, h2⟩
      by_cases e : y.a = a ∧ y.knob = n
      · exact Or.inr (lnk_unique hf h1 hx (by omega) (by omega))
      · exact Or.inl ⟨h1, by omega⟩
theorem Got.perm {L : List Lnk} (h : Got ks bs bs.length 0 L) : L.Perm (linkL ks bs) :=
  (List.perm_ext_iff_of_nodup h.nd (linkL_nodup ks bs)).2 fun x => by
    rw [h.m, mem_linkL]
    exact ⟨fun h => h.1, fun h => ⟨h, Or.inl (by have := h.ab; have := h.b; omega)⟩⟩
/-- The sorted list is the reference's. -/
theorem sorted_linkL (hf : Fit ks bs) {l : List Lnk} (hp : l.Perm (linkL ks bs)) (hs : l.Pairwise fun x y => ltK y x = false) : l = linkL ks bs := by
  refine List.Perm.eq_of_pairwise (le := fun x y => ltK y x = false) ?_ hs ((linkL_asc hf).imp fun {x y} h => by rw [ltK_iff] at h; rw [ltK_not]; omega) hp
  intro a b ha hb h k
  rw [ltK_not] at h k
  exact lnk_unique hf (mem_linkL.1 (hp.mem_iff.1 ha)) (mem_linkL.1 hb) (by omega) (by omega)
end
end Go.Proofs.YtaaeapjnjjbglaaGreatDoor.Lat
namespace Go.Proofs.YtaaeapjnjjbglaaGreatDoor.Lat
open Go.RowKit

def setF {α : Type} (f : Nat → α) (i : Nat) (v : α) : Nat → α := fun d => if d = i then v else f d
theorem setF_at {α : Type} (f : Nat → α) (i : Nat) (v : α) : setF f i v i = v := if_pos rfl
theorem setF_ne {α : Type} (f : Nat → α) {i d : Nat} (v : α) (h : d ≠ i) : setF f i v d = f d := if_neg h
/-- Rows of numbers, each of its own. -/
structure RowsO (w : World) (T n : Nat) (vs : Nat → Value) (f : Nat → List Int) : Prop where
  row : ∀ k, k < n → w.ownsRow T 3 1 (vs k) (f k).length ((f k).map numC)
  sep : ∀ c d, c < n → d < n → c ≠ d → ∀ r, (vs c).ownBlock = some r → (vs d).ownBlock ≠ some r
section
variable {w w' : World} {T n : Nat} {vs : Nat → Value} {f : Nat → List Int}
theorem RowsO.ext (h : RowsO w T n vs f) (E : Ext w w') : RowsO w' T n vs f := ⟨fun k hk => own_ext (h.row k hk) E, h.sep⟩
theorem RowsO.nil (w : World) (T n : Nat) : RowsO w T n (fun _ => nilV) (fun _ => []) := ⟨fun _ _ => World.ownsRow_nil _ _ _ _, fun _ _ _ _ _ r hr => by cases hr⟩
theorem RowsO.other (h : RowsO w T n vs f) {c : Nat} (hc : c < n) {v' : Value} {m : Nat} {xs ns : List Value} (hf : Fate w w' T 3 1 (vs c) v' m xs ns) {d : Nat} (hd : d < n) (hdc : d ≠ c) :
    w'.ownsRow T 3 1 (vs d) (f d).length ((f d).map numC) ∧ ∀ r, (vs d).ownBlock = some r → v'.ownBlock ≠ some r := by
  obtain ⟨-, g, cap, rfl, hh⟩ := hf
  have key : ∀ r, (vs d).ownBlock = some r → (Value.slice (some ⟨g, 0, none⟩) (m + 1) cap).ownBlock ≠ some r := by
    intro r hr e
    simp only [Value.ownBlock, Option.some.injEq] at e
    subst e
    rcases hh with ⟨hu, -⟩ | ⟨hu, -⟩
    · exact h.sep d c hd hc hdc g hr (by rw [hu]; rfl)
    · have := ((h.row d hd).lt _ hr).2
      omega
  refine ⟨?_, key⟩
  rcases hh with ⟨-, hg⟩ | ⟨-, hg⟩
  · refine ownGrown (h.row d hd) hg ?_
    cases ho : (vs d).ownBlock with
    | none => exact Or.inl rfl
    | some r =>
      right
      intro e
      exact key r ho e.symm
  · refine ownGrown (h.row d hd) hg ?_
    cases ho : (vs d).ownBlock with
    | none => exact Or.inl rfl
    | some r =>
      right
      intro e
      cases e
theorem RowsO.step (h : RowsO w T n vs f) {c : Nat} (hc : c < n) {v' : Value} {j : Int} (hf : Fate w w' T 3 1 (vs c) v' (f c).length ((f c).map numC) [numC j]) : RowsO w' T n (setF vs c v') (setF f c (f c ++ [j])) := by
  refine ⟨fun d hd => ?_, fun a b ha hb hab r hr => ?_⟩
  · by_cases e : d = c
    · subst e
      rw [setF_at, setF_at, List.length_append, List.map_append]
      exact hf.1
    · rw [setF_ne _ _ e, setF_ne _ _ e]
      exact (h.other hc hf hd e).1
  · by_cases ea : a = c
    · subst ea
      rw [setF_at] at hr
      rw [setF_ne _ _ (Ne.symm hab)]
      exact fun e => (h.other hc hf hb (Ne.symm hab)).2 r e hr
    · rw [setF_ne _ _ ea] at hr
      by_cases eb : b = c
      · subst eb
        rw [setF_at]
        exact (h.other hc hf ha ea).2 r hr
      · rw [setF_ne _ _ eb]
        exact h.sep a b ha hb hab r hr
/-- A block of one number that is no row's. -/
structure TmpO (w : World) (n : Nat) (vs : Nat → Value) (g : Nat) (x : Int) : Prop where
  b : Blk w g 3 #[.int .i64 x]
  s : ∀ k, k < n → (vs k).ownBlock ≠ some g
theorem TmpO.ext {g : Nat} {x : Int} (h : TmpO w n vs g x) (E : Ext w w') : TmpO w' n vs g x := ⟨h.b.ext E, h.s⟩
theorem TmpO.new (h : RowsO w T n vs f) (x : Int) : TmpO (w.alloc (.cells #[.int .i64 x] 3)) n vs w.heap.size x := ⟨Blk.new _ _ _, fun k hk e => by
  have := ((h.row k hk).lt _ e).2
  omega⟩
theorem TmpO.step {g c : Nat} {x : Int} (h : TmpO w n vs g x) (hc : c < n) {v' : Value} {m : Nat} {xs ns : List Value} (hf : Fate w w' T 3 1 (vs c) v' m xs ns) : TmpO w' n (setF vs c v') g x := by
  obtain ⟨-, g0, cap, rfl, hh⟩ := hf
  have hne : g0 ≠ g := by
    rcases hh with ⟨hu, -⟩ | ⟨hu, -⟩
    · exact fun e => h.s c hc (by rw [hu, e]; rfl)
    · have := h.b.lt
      omega
  refine ⟨?_, fun k hk => ?_⟩
  · rcases hh with ⟨-, hg⟩ | ⟨-, hg⟩
    · exact h.b.grown hg (fun e => hne (Option.some.inj e).symm)
    · exact h.b.grown hg (by nofun)
  · by_cases e : k = c
    · subst e
      rw [setF_at]
      exact fun e => hne (Option.some.inj e)
    · rw [setF_ne _ _ e]
      exact h.s k hk
theorem _root_.Go.Proofs.YtaaeapjnjjbglaaGreatDoor.Blk.fate {g : Nat} {t e : TypeId} {cs : Array Value} {b sz m : Nat} {v v' : Value} {xs ys ns : List Value} {k : Nat} (h : Blk w g t cs) (own : w.ownsRow b e sz v k ys) (hf : Fate w w' b e sz v v' m xs ns) (hne : t ≠ e) : Blk w' g t cs := by
  obtain ⟨-, g0, cap, rfl, hh⟩ := hf
  rcases hh with ⟨hu, hg⟩ | ⟨-, hg⟩
  · refine blkGrown h own ?_ hne
    rw [hu]
    exact hg
  · exact h.grown hg (by nofun)
theorem _root_.Go.Proofs.YtaaeapjnjjbglaaGreatDoor.Ext.fate {a : World} {e : TypeId} {b sz m : Nat} {v v' : Value} {xs ys ns : List Value} {k : Nat} (E : Ext a w) (own : w.ownsRow b e sz v k ys) (hb : a.heap.size ≤ b) (hf : Fate w w' b e sz v v' m xs ns) : Ext a w' := by
  obtain ⟨-, g0, cap, rfl, hh⟩ := hf
  rcases hh with ⟨hu, hg⟩ | ⟨-, hg⟩
  · refine E.grown hg fun k hk => ?_
    cases hk
    have := (own.lt g0 (by rw [hu]; rfl)).1
    omega
  · exact E.grown hg fun k hk => by cases hk
theorem _root_.Go.Proofs.YtaaeapjnjjbglaaGreatDoor.Fate.size {e : TypeId} {b sz m : Nat} {v v' : Value} {xs ns : List Value} (hf : Fate w w' b e sz v v' m xs ns) : w.heap.size ≤ w'.heap.size := by
  obtain ⟨-, g0, cap, rfl, hh⟩ := hf
  rcases hh with ⟨-, hg⟩ | ⟨-, hg⟩ <;> exact hg.size
end
/-- The block of the slices. -/
def vsA (n : Nat) (vs : Nat → Value) : Array Value := ((List.range n).map vs).toArray
theorem vsA_get {n i : Nat} (vs : Nat → Value) (h : i < n) : (vsA n vs)[i]? = some (vs i) := by
  unfold vsA
  simp [h]
theorem vsA_set {n i : Nat} (vs : Nat → Value) (v : Value) : (vsA n vs).setIfInBounds i v = vsA n (setF vs i v) := by
  apply Array.ext_getElem?
  intro j
  unfold vsA setF
  rw [Array.getElem?_setIfInBounds]
  by_cases hj : j < n
  · by_cases h : i = j
    · subst h
      simp [hj]
    · rw [if_neg h]
      simp [hj, Ne.symm h]
  · by_cases h : i = j
    · subst h
      simp [hj]
    · rw [if_neg h]
      simp [hj]
theorem vsA_made (n : Nat) : madeCells #[nilV] (n * 1) = vsA n fun _ => nilV := by
  rw [rowsA_made (sz := 1) rfl (by decide)]
  unfold rowsA vsA
  congr 1
  induction n with
  | zero => rfl
  | succ n ih => rw [List.replicate_succ', List.flatten_append, ih, List.range_succ, List.map_append]; rfl
/-- The neighbours of a number, in the order of the links. -/
def nbrs (l : List Lnk) (k : Nat) : List Int := l.flatMap fun x => (if k = x.a then [(x.b : Int)] else []) ++ if k = x.b then [(x.a : Int)] else []
theorem nbrs_nil : nbrs [] = fun _ => [] := rfl
theorem nbrs_succ {L : List Lnk} {q : Nat} {x : Lnk} (h : L[q]? = some x) (hne : x.a ≠ x.b) : nbrs (L.take (q + 1)) = setF (setF (nbrs (L.take q)) x.a (nbrs (L.take q) x.a ++ [(x.b : Int)])) x.b (nbrs (L.take q) x.b ++ [(x.a : Int)]) := by
  funext k
  have e : nbrs (L.take (q + 1)) k = nbrs (L.take q) k ++ ((if k = x.a then [(x.b : Int)] else []) ++ if k = x.b then [(x.a : Int)] else []) := by
    unfold nbrs
    rw [List.take_add_one, h, List.flatMap_append]
    simp
  rw [e]
  by_cases ha : k = x.a
  · subst ha
    rw [if_pos rfl, if_neg hne, setF_ne _ _ hne, setF_at, List.append_nil]
  · rw [if_neg ha, List.nil_append]
    by_cases hb : k = x.b
    · subst hb
      rw [if_pos rfl, setF_at]
    · rw [if_neg hb, setF_ne _ _ hb, setF_ne _ _ ha, List.append_nil]
theorem nbrs_len (l : List Lnk) (k : Nat) : (nbrs l k).length ≤ 2 * l.length := by
  unfold nbrs
  induction l with
  | nil => simp
  | cons x l ih =>
    rw [List.flatMap_cons, List.length_append, List.length_append, List.length_cons]
    have h1 : (if k = x.a then [(x.b : Int)] else []).length ≤ 1 := by split <;> simp
    have h2 : (if k = x.b then [(x.a : Int)] else []).length ≤ 1 := by split <;> simp
    omega
theorem mem_nbrs {L : List Lnk} {k : Nat} {u : Int} : u ∈ nbrs L k ↔ ∃ i : Nat, u = i ∧ Nbr L k i := by
  unfold nbrs
  rw [List.mem_flatMap]
  constructor
  · rintro ⟨x, hx, h⟩
    rcases List.mem_append.1 h with h | h
    · split at h
      · rename_i e
        exact ⟨x.b, by simpa using h, x, hx, Or.inl ⟨e.symm, rfl⟩⟩
      · cases h
    · split at h
      · rename_i e
        exact ⟨x.a, by simpa using h, x, hx, Or.inr ⟨e.symm, rfl⟩⟩
      · cases h
  · rintro ⟨i, rfl, x, hx, ⟨h1, h2⟩ | ⟨h1, h2⟩⟩
    · exact ⟨x, hx, List.mem_append.2 (Or.inl (by rw [if_pos h1.symm, h2]; simp))⟩
    · exact ⟨x, hx, List.mem_append.2 (Or.inr (by rw [if_pos h1.symm, h2]; simp))⟩
theorem RowsO.far {w : World} {T n : Nat} {vs : Nat → Value} {f : Nat → List Int} (h : RowsO w T n vs f) {g : Nat} {t : TypeId} {cs : Array Value} (hb : Blk w g t cs) (ht : t ≠ 3) {p : Addr} (hp : p.block = g) (u : Value) : RowsO (w.setCell p u) T n vs f := by
  have ho : Only (fun b => b = g) w (w.setCell p u) := (Only.refl _ _).setCell (fun _ => hp) _
  refine ⟨fun k hk => own_only (h.row k hk) ho fun r hr e => ?_, h.sep⟩
  subst e
  obtain ⟨cs', h'⟩ := own_typed (h.row k hk) hr
  exact ht (hb.types h')
theorem infoInts : (Tryz.prog.info? 41).map (fun i => (i.zero, i.size, i.bytes)) = some (some (.slice none 0 0), 1, 24) := by kernel_rfl
theorem infoInt2 : (Tryz.prog.info? 3).map (fun i => (i.zero, i.size, i.bytes)) = some (some (.int .i64 0), 1, 8) := by kernel_rfl
theorem make_rows (n : Nat) (hn : n ≤ 1000) (w : World) : (Instr.makeSlice 82 (.int .i64 (n : Int)) (.int .i64 (n : Int))).run Tryz.prog w = .ok (.slice (some ⟨w.heap.size, 0, none⟩) n n) (w.alloc (.cells (vsA n fun _ => nilV) 41)) := by
  obtain ⟨i0, hi, hz0, hz1, hz2⟩ := info_parts infoInts
  have h := run_make (P := Tryz.prog) w 82 41 i0 (.slice none 0 0) Tryz.underlying82 hi hz0 .i64 .i64 (n : Int) (n : Int) (by omega) (Int.le_refl _) (by rw [hz2]; omega) (by omega)
  rw [h]
  have e : madeCells (Value.cells (.slice none 0 0)) ((n : Int).toNat * i0.size) = vsA n fun _ => nilV := by
    rw [hz1, Int.toNat_natCast]
    exact vsA_made n
  rw [e]
  simp
theorem flat_one (n : Nat) (v : Value) : (List.replicate n [v]).flatten = List.replicate n v := by
  induction n with
  | zero => rfl
  | succ n ih => rw [List.replicate_succ, List.flatten_cons, ih, List.replicate_succ]; rfl
/-- The block of new numbers: all 0. -/
def zeroA (n : Nat) : Array Value := ((List.replicate n (0 : Int)).map numC).toArray
theorem make_nums (n : Nat) (hn : n ≤ 1000) (w : World) : (Instr.makeSlice 41 (.int .i64 (n : Int)) (.int .i64 (n : Int))).run Tryz.prog w = .ok (.slice (some ⟨w.heap.size, 0, none⟩) n n) (w.alloc (.cells (zeroA n) 3)) := by
  obtain ⟨i0, hi, hz0, hz1, hz2⟩ := info_parts infoInt2
  have h := run_make (P := Tryz.prog) w 41 3 i0 (.int .i64 0) Tryz.underlying41 hi hz0 .i64 .i64 (n : Int) (n : Int) (by omega) (Int.le_refl _) (by rw [hz2]; omega) (by omega)
  rw [h]
  have e : madeCells (Value.cells (.int .i64 0)) ((n : Int).toNat * i0.size) = zeroA n := by
    rw [hz1, Int.toNat_natCast, rowsA_made (sz := 1) rfl (by omega)]
    unfold rowsA zeroA
    rw [List.map_replicate]
    exact congrArg List.toArray (flat_one n (numC 0))
  rw [e]
  simp
theorem num_zero {w : World} {g n : Nat} (h : Blk w g 3 (zeroA n)) : NumX w g (List.replicate n 0) := ⟨#[], by rw [Array.append_empty]; exact h⟩
/-- The numbers when the first t are set to -1. -/
def negL (n t : Nat) : List Int := List.replicate t (-1) ++ List.replicate (n - t) 0
theorem negL_zero (n : Nat) : negL n 0 = List.replicate n 0 := by simp [negL]
theorem negL_all (n : Nat) : negL n n = List.replicate n (-1) := by simp [negL]
theorem negL_len {n t : Nat} (h : t ≤ n) : (negL n t).length = n := by simp [negL]; omega
theorem negL_at {n t : Nat} (h : t < n) : (negL n t)[t]? = some 0 := by
  unfold negL
  rw [List.getElem?_append_right (by simp), List.length_replicate, Nat.sub_self, List.getElem?_replicate, if_pos (by omega)]
theorem negL_set {n t : Nat} (h : t < n) : (negL n t).set t (-1) = negL n (t + 1) := by
  unfold negL
  rw [List.set_append_right _ _ (by simp), List.length_replicate, Nat.sub_self, show n - t = (n - (t + 1)) + 1 by omega, List.replicate_succ, List.set_cons_zero, List.replicate_succ', List.append_assoc]
  rfl
end Go.Proofs.YtaaeapjnjjbglaaGreatDoor.Lat
namespace Go.Proofs.YtaaeapjnjjbglaaGreatDoor.Lat
open Go.RowKit

theorem oddS_in {s : Int} (h : 1 ≤ s ∧ s ≤ 6) : 1 ≤ oddS s ∧ oddS s ≤ 5 := by
  unfold oddS
  omega
theorem oppD_xor {d : Nat} (hd : d < 6) : bits BinOp.xor IntKind.u8 (d : Int) 1 = oppD d := by
  have e1 : d = 0 ∨ d = 1 ∨ d = 2 ∨ d = 3 ∨ d = 4 ∨ d = 5 := by omega
  rcases e1 with rfl | rfl | rfl | rfl | rfl | rfl <;> rfl
end Go.Proofs.YtaaeapjnjjbglaaGreatDoor.Lat
namespace Go.Proofs.YtaaeapjnjjbglaaGreatDoor.Lat
open Go.RowKit

/-- A face: a place and a direction. -/
def encF (x : Pt × Int) : Value := .agg #[.int .i64 x.1.x, .int .i64 x.1.y, .int .i64 x.1.z, .int .u8 x.2]
def evE (x : Nat × Nat) : Value := .agg #[.int .i64 x.1, .int .i64 x.2]
theorem pt_equalIn (w : World) (n : Nat) (a b c d e f : Int) : (Op.equalIn (n + 3) 53 (.agg #[.int .i64 a, .int .i64 b, .int .i64 c]) (.agg #[.int .i64 d, .int .i64 e, .int .i64 f])).run Tryz.prog w = .ok (decide (a = d) && (decide (b = e) && decide (c = f))) w := by
  have u3 := Tryz.underlying3
  have hS : Tryz.prog.underlying 53 = some (.struct (Tryz.prog.fieldsOf 53)) := by kernel_rfl
  have hp : Tryz.prog.stoodInHeld 53 = false := by kernel_rfl
  rw [run_equalIn_agg w (n + 2) _ _ _ hS hp]
  simp only [Program.fieldsOf, Tryz.underlying53]
  go_simp
  by_cases h1 : a = d <;> by_cases h2 : b = e <;> by_cases h3 : c = f <;> simp [h1, h2, h3]
theorem face_equalIn (w : World) (n : Nat) (a b c d a' b' c' d' : Int) : (Op.equalIn (n + 4) 125 (.agg #[.int .i64 a, .int .i64 b, .int .i64 c, .int .u8 d]) (.agg #[.int .i64 a', .int .i64 b', .int .i64 c', .int .u8 d'])).run Tryz.prog w = .ok (decide (a = a') && (decide (b = b') && (decide (c = c') && decide (d = d')))) w := by
  have u5 := Tryz.underlying5
  have hS : Tryz.prog.underlying 125 = some (.struct (Tryz.prog.fieldsOf 125)) := by kernel_rfl
  have hp : Tryz.prog.stoodInHeld 125 = false := by kernel_rfl
  have hc := fun w => pt_equalIn w n a b c a' b' c'
  rw [run_equalIn_agg w (n + 3) _ _ _ hS hp]
  simp only [Program.fieldsOf, Tryz.underlying125]
  go_simp
  by_cases h1 : a = a' <;> by_cases h2 : b = b' <;> by_cases h3 : c = c' <;> by_cases h4 : d = d' <;> simp [h1, h2, h3, h4]
theorem face_equal (w : World) (a b c d a' b' c' d' : Int) : (Op.equal 125 (.agg #[.int .i64 a, .int .i64 b, .int .i64 c, .int .u8 d]) (.agg #[.int .i64 a', .int .i64 b', .int .i64 c', .int .u8 d'])).run Tryz.prog w = .ok (decide (a = a') && (decide (b = b') && (decide (c = c') && decide (d = d')))) w := face_equalIn w 9996 a b c d a' b' c' d'
theorem faceKey : KeyEnc Tryz.prog 125 encF where
  wide := by kernel_rfl
  eq w x y := by
    obtain ⟨⟨a, b, c⟩, d⟩ := x
    obtain ⟨⟨a', b', c'⟩, d'⟩ := y
    rw [encF, encF, face_equal]
    simp [Pt.mk.injEq, Bool.and_assoc]
  check w em x := by
    obtain ⟨⟨a, b, c⟩, d⟩ := x
    show (Instr.checkKey em 10000 125 (.agg #[.int .i64 a, .int .i64 b, .int .i64 c, .int .u8 d])).run Tryz.prog w = .ok () w
    kernel_rfl
  same x := by
    obtain ⟨⟨a, b, c⟩, d⟩ := x
    simp [encF, Instr.sameBits]
section
variable {ks : List Knd} {bs : List Brk}
def klen (ks : List Knd) (bs : List Brk) (i : Nat) : Nat := (bknobs ks (brkAt bs i)).length
def faceAt (ks : List Knd) (bs : List Brk) (i k : Nat) : Pt × Int := ((knbAt (bknobs ks (brkAt bs i)) k).at_, (knbAt (bknobs ks (brkAt bs i)) k).dir)
/-- What the map holds: the knobs of which P. -/
structure Faces (ks : List Knd) (bs : List Brk) (m : List ((Pt × Int) × (Nat × Nat))) (P : Nat → Nat → Prop) : Prop where
  s : ∀ F i k, getK m F = some (i, k) → P i k ∧ faceAt ks bs i k = F
  a : ∀ i k, P i k → getK m (faceAt ks bs i k) = some (i, k)
theorem Faces.nil {P : Nat → Nat → Prop} (h : ∀ i k, ¬ P i k) : Faces ks bs [] P := ⟨(fun _ _ _ h => nomatch h), fun i k hp => (h i k hp).elim⟩
theorem Faces.congr {m : List ((Pt × Int) × (Nat × Nat))} {P Q : Nat → Nat → Prop} (h : Faces ks bs m P) (e : ∀ i k, Q i k ↔ P i k) : Faces ks bs m Q :=
  ⟨fun F i k hg => ⟨(e i k).2 (h.s F i k hg).1, (h.s F i k hg).2⟩, fun i k hq => h.a i k ((e i k).1 hq)⟩
/-- Bricks ahead of j, and the first q knobs of j. -/
def Upk (ks : List Knd) (bs : List Brk) (j q i k : Nat) : Prop := (i < j ∧ k < klen ks bs i) ∨ (i = j ∧ k < q)
theorem Faces.put (hf : Fit ks bs) {m : List ((Pt × Int) × (Nat × Nat))} {j q : Nat} (h : Faces ks bs m (Upk ks bs j q)) (hj : j < bs.length) (hq : q < klen ks bs j) : Faces ks bs (putK m (faceAt ks bs j q) (j, q)) (Upk ks bs j (q + 1)) := by
  have hlen : ∀ i k, Upk ks bs j q i k → i < bs.length ∧ k < klen ks bs i := fun i k h => by
    rcases h with ⟨h1, h2⟩ | ⟨rfl, h2⟩
    · exact ⟨by omega, h2⟩
    · exact ⟨hj, by omega⟩
  refine ⟨fun F i k hg => ?_, fun i k hp => ?_⟩
  · rw [getK_putK] at hg
    split at hg
    · rename_i e
      cases hg
      exact ⟨Or.inr ⟨rfl, Nat.lt_succ_self _⟩, e.symm⟩
    · obtain ⟨h1, h2⟩ := h.s F i k hg
      refine ⟨?_, h2⟩
      rcases h1 with h1 | ⟨h1, h3⟩
      · exact Or.inl h1
      · exact Or.inr ⟨h1, by omega⟩
  · rw [getK_putK]
    by_cases e : i = j ∧ k = q
    · obtain ⟨rfl, rfl⟩ := e
      rw [if_pos rfl]
    · have hu : Upk ks bs j q i k := by
        rcases hp with hp | ⟨h1, h2⟩
        · exact Or.inl hp
        · exact Or.inr ⟨h1, by omega⟩
      obtain ⟨l1, l2⟩ := hlen i k hu
      rw [if_neg, h.a i k hu]
      intro e1
      unfold faceAt at e1
      simp only [Prod.mk.injEq] at e1
      obtain ⟨e2, e3⟩ := hf.face l1 hj l2 hq e1.1 e1.2
      exact e ⟨e2, e3⟩
theorem Upk.next (i k j : Nat) : Upk ks bs (j + 1) 0 i k ↔ Upk ks bs j (klen ks bs j) i k := by
  unfold Upk
  constructor
  · rintro (⟨h1, h2⟩ | ⟨-, h2⟩)
    · by_cases e : i = j
      · subst e
        exact Or.inr ⟨rfl, h2⟩
      · exact Or.inl ⟨by omega, h2⟩
    · omega
  · rintro (⟨h1, h2⟩ | ⟨rfl, h2⟩)
    · exact Or.inl ⟨by omega, h2⟩
    · exact Or.inl ⟨by omega, h2⟩
/-- The face that a knob looks at. -/
def farAt (ks : List Knd) (bs : List Brk) (i k : Nat) : Pt × Int := (addP (knbAt (bknobs ks (brkAt bs i)) k).at_ (stepS (knbAt (bknobs ks (brkAt bs i)) k).dir.toNat), oppD (knbAt (bknobs ks (brkAt bs i)) k).dir)
theorem IsLnk.far {x : Lnk} (h : IsLnk ks bs x) : faceAt ks bs x.b x.other = farAt ks bs x.a x.knob := by
  have := meetB_iff.1 h.m
  unfold faceAt farAt
  rw [this.1, this.2.1]
theorem Faces.none_ {m : List ((Pt × Int) × (Nat × Nat))} (h : Faces ks bs m (Upk ks bs bs.length 0)) {a i : Nat} (hg : getK m (farAt ks bs a i) = none) : ∀ x, IsLnk ks bs x → x.a = a → x.knob = i → False := fun x hx ha hi => by
  have := h.a x.b x.other (Or.inl ⟨hx.b, hx.o⟩)
  rw [hx.far, ha, hi, hg] at this
  cases this
theorem Faces.some_ {m : List ((Pt × Int) × (Nat × Nat))} (h : Faces ks bs m (Upk ks bs bs.length 0)) {a i b k : Nat} (hg : getK m (farAt ks bs a i) = some (b, k)) : ∀ x, IsLnk ks bs x → x.a = a → x.knob = i → x.b = b ∧ x.other = k := fun x hx ha hi => by
  have := h.a x.b x.other (Or.inl ⟨hx.b, hx.o⟩)
  rw [hx.far, ha, hi, hg] at this
  cases this
  exact ⟨rfl, rfl⟩
def fitS (s t : Int) : Bool := decide ((s + 1) / 2 = (t + 1) / 2) && decide (s ≠ t)
theorem fitS_iff {s t : Int} (hs : 1 ≤ s ∧ s ≤ 6) (ht : 1 ≤ t ∧ t ≤ 6) : fitS s t = true ↔ s ≠ t ∧ oddS s = oddS t := by
  unfold fitS oddS
  simp only [Bool.and_eq_true, decide_eq_true_eq]
  omega
theorem fitS_min {s t : Int} (_ : 1 ≤ s ∧ s ≤ 6) (_ : 1 ≤ t ∧ t ≤ 6) (h : fitS s t = true) : min s t = oddS s := by
  unfold fitS at h
  unfold oddS
  simp only [Bool.and_eq_true, decide_eq_true_eq] at h
  omega
def sortAt (ks : List Knd) (bs : List Brk) (i k : Nat) : Int := (knbAt (bknobs ks (brkAt bs i)) k).sort
theorem Faces.skip1 {m : List ((Pt × Int) × (Nat × Nat))} (h : Faces ks bs m (Upk ks bs bs.length 0)) {a i b k : Nat} (hg : getK m (farAt ks bs a i) = some (b, k)) (hb : b ≤ a) : ∀ x, IsLnk ks bs x → x.a = a → x.knob = i → False := fun x hx ha hi => by
  have := (h.some_ hg x hx ha hi).1
  have := hx.ab
  omega
theorem Faces.skip2 (hf : Fit ks bs) {m : List ((Pt × Int) × (Nat × Nat))} (h : Faces ks bs m (Upk ks bs bs.length 0)) {a i b k : Nat} (ha : a < bs.length) (hi : i < klen ks bs a) (hg : getK m (farAt ks bs a i) = some (b, k)) (hs : fitS (sortAt ks bs a i) (sortAt ks bs b k) = false) : ∀ x, IsLnk ks bs x → x.a = a → x.knob = i → False := fun x hx hxa hxi => by
  obtain ⟨e1, e2⟩ := h.some_ hg x hx hxa hxi
  have hm := meetB_iff.1 hx.m
  have s1 := (hf.dir ha hi).2.2
  have s2 := (hf.dir hx.b hx.o).2.2
  rw [hxa, hxi] at hm
  have : fitS (sortAt ks bs a i) (sortAt ks bs b k) = true := by
    rw [← e1, ← e2]
    exact (fitS_iff s1 s2).2 hm.2.2
  rw [hs] at this
  cases this
theorem Faces.hit (hf : Fit ks bs) {m : List ((Pt × Int) × (Nat × Nat))} (h : Faces ks bs m (Upk ks bs bs.length 0)) {a i b k : Nat} (ha : a < bs.length) (hi : i < klen ks bs a) (hg : getK m (farAt ks bs a i) = some (b, k)) (hb : a < b) (hs : fitS (sortAt ks bs a i) (sortAt ks bs b k) = true) :
    IsLnk ks bs ⟨a, b, i, k, min (sortAt ks bs a i) (sortAt ks bs b k)⟩ := by
  obtain ⟨h1, h2⟩ := h.s _ _ _ hg
  have hbk : b < bs.length ∧ k < klen ks bs b := by
    rcases h1 with h1 | ⟨-, h1⟩
    · exact h1
    · omega
  have s1 := (hf.dir ha hi).2.2
  have s2 := (hf.dir hbk.1 hbk.2).2.2
  unfold faceAt farAt at h2
  simp only [Prod.mk.injEq] at h2
  exact ⟨hb, hbk.1, hi, hbk.2, meetB_iff.2 ⟨h2.1.symm, h2.2, (fitS_iff s1 s2).1 hs⟩, fitS_min s1 s2 hs⟩
theorem Faces.lt {m : List ((Pt × Int) × (Nat × Nat))} (h : Faces ks bs m (Upk ks bs bs.length 0)) {F : Pt × Int} {b k : Nat} (hg : getK m F = some (b, k)) : b < bs.length ∧ k < klen ks bs b := by
  rcases (h.s _ _ _ hg).1 with h1 | ⟨-, h1⟩
  · exact h1
  · omega
end
end Go.Proofs.YtaaeapjnjjbglaaGreatDoor.Lat
namespace Go.Proofs.YtaaeapjnjjbglaaGreatDoor.Lat
open Go.Shelf

def sortLinks_ren : Go.Shelf.Ren := ⟨fun | 6 => 54 | 15 => 77 | 14 => 76 | 28 => 102 | 29 => 103 | 20 => 94 | 21 => 95 | 22 => 96 | 23 => 97 | 24 => 98 | 25 => 99 | 26 => 100 | 27 => 101 | 46 => 114 | 47 => 115 | 48 => 116 | 49 => 117 | 50 => 118 | 57 => 130 | n => n, fun | 22 => 78 | 24 => 84 | 25 => 128 | 3 => 3 | 39 => 159 | 0 => 0 | 53 => 106 | 55 => 183 | 4 => 4 | 46 => 177 | 45 => 176 | 50 => 142 | 5 => 5 | 9 => 9 | 66 => 191 | 70 => 195 | 76 => 204 | 77 => 205 | n => n, fun | n => n⟩
theorem sortLinks : SlLaysF0.n6 Tryz.prog sortLinks_ren := {
  mixed := by kernel_rfl,
  f6 := ⟨Tryz.f54.name, by decide, Tryz.func54.trans (congrArg some (by kernel_rfl))⟩,
  f14 := ⟨Tryz.f76.name, by decide, Tryz.func76.trans (congrArg some (by kernel_rfl))⟩,
  f15 := Tryz.func77.trans (congrArg some (by kernel_rfl)),
  f20 := ⟨Tryz.f94.name, by decide, Tryz.func94.trans (congrArg some (by kernel_rfl))⟩,
  f21 := ⟨Tryz.f95.name, by decide, Tryz.func95.trans (congrArg some (by kernel_rfl))⟩,
  f22 := ⟨Tryz.f96.name, by decide, Tryz.func96.trans (congrArg some (by kernel_rfl))⟩,
  f23 := ⟨Tryz.f97.name, by decide, Tryz.func97.trans (congrArg some (by kernel_rfl))⟩,
  f24 := ⟨Tryz.f98.name, by decide, Tryz.func98.trans (congrArg some (by kernel_rfl))⟩,
  f25 := ⟨Tryz.f99.name, by decide, Tryz.func99.trans (congrArg some (by kernel_rfl))⟩,
  f26 := ⟨Tryz.f100.name, by decide, Tryz.func100.trans (congrArg some (by kernel_rfl))⟩,
  f27 := ⟨Tryz.f101.name, by decide, Tryz.func101.trans (congrArg some (by kernel_rfl))⟩,
  f28 := Tryz.func102.trans (congrArg some (by kernel_rfl)),
  f29 := Tryz.func103.trans (congrArg some (by kernel_rfl)),
  f46 := ⟨Tryz.f114.name, by decide, Tryz.func114.trans (congrArg some (by kernel_rfl))⟩,
  f47 := Tryz.func115.trans (congrArg some (by kernel_rfl)),
  f48 := Tryz.func116.trans (congrArg some (by kernel_rfl)),
  f49 := ⟨Tryz.f117.name, by decide, Tryz.func117.trans (congrArg some (by kernel_rfl))⟩,
  f50 := ⟨Tryz.f118.name, by decide, Tryz.func118.trans (congrArg some (by kernel_rfl))⟩,
  f57 := ⟨Tryz.f130.name, by decide, Tryz.func130.trans (congrArg some (by kernel_rfl))⟩,
  t0 := Tryz.underlying0,
  a0 := Tryz.isAgg0,
  z0 := Tryz.sizeOf0,
  v0 := Tryz.zeroValue0,
  t3 := Tryz.underlying3,
  a3 := Tryz.isAgg3,
  z3 := Tryz.sizeOf3,
  v3 := Tryz.zeroValue3,
  t4 := Tryz.underlying4,
  a4 := Tryz.isAgg4,
  z4 := Tryz.sizeOf4,
  v4 := Tryz.zeroValue4,
  t5 := Tryz.underlying5,
  a5 := Tryz.isAgg5,
  z5 := Tryz.sizeOf5,
  v5 := Tryz.zeroValue5,
  t9 := Tryz.underlying9,
  a9 := Tryz.isAgg9,
  z9 := Tryz.sizeOf9,
  v9 := Tryz.zeroValue9,
  t22 := Tryz.underlying78,
  a22 := Tryz.isAgg78,
  z22 := Tryz.sizeOf78,
  v22 := Tryz.zeroValue78,
  t25 := Tryz.underlying128,
  a25 := Tryz.isAgg128,
  z25 := Tryz.sizeOf128,
  v25 := Tryz.zeroValue128,
  t39 := Tryz.underlying159,
  a39 := Tryz.isAgg159,
  z39 := Tryz.sizeOf159,
  v39 := Tryz.zeroValue159,
  t45 := Tryz.underlying176,
  a45 := Tryz.isAgg176,
  z45 := Tryz.sizeOf176,
  v45 := Tryz.zeroValue176,
  t46 := Tryz.underlying177,
  a46 := Tryz.isAgg177,
  z46 := Tryz.sizeOf177,
  v46 := Tryz.zeroValue177,
  t50 := Tryz.underlying142,
  a50 := Tryz.isAgg142,
  z50 := Tryz.sizeOf142,
  v50 := Tryz.zeroValue142,
  t53 := Tryz.underlying106,
  a53 := Tryz.isAgg106,
  z53 := Tryz.sizeOf106,
  v53 := Tryz.zeroValue106,
  t55 := Tryz.underlying183,
  a55 := Tryz.isAgg183,
  z55 := Tryz.sizeOf183,
  v55 := Tryz.zeroValue183,
  t66 := Tryz.underlying191,
  a66 := Tryz.isAgg191,
  z66 := Tryz.sizeOf191,
  v66 := Tryz.zeroValue191,
  t70 := Tryz.underlying195,
  a70 := Tryz.isAgg195,
  z70 := Tryz.sizeOf195,
  v70 := Tryz.zeroValue195,
  t76 := Tryz.underlying204,
  a76 := Tryz.isAgg204,
  z76 := Tryz.sizeOf204,
  v76 := Tryz.zeroValue204,
  t77 := Tryz.underlying205,
  a77 := Tryz.isAgg205,
  z77 := Tryz.sizeOf205,
  v77 := Tryz.zeroValue205 }
end Go.Proofs.YtaaeapjnjjbglaaGreatDoor.Lat
namespace Go.Proofs.YtaaeapjnjjbglaaGreatDoor.Lat
open Go.RowKit

instance : Inhabited Lnk := ⟨⟨0, 0, 0, 0, 0⟩⟩
def ordK (x y : Lnk) : Int := orL [ordZ x.a y.a, ordZ x.b y.b, ordZ x.knob y.knob]
theorem ordK_neg (x y : Lnk) : ordK x y < 0 ↔ ltK x y = true := by
  rw [ltK_iff]
  unfold ordK orL ordZ
  simp only [orL]
  repeat' split
  all_goals (first | omega | (simp only [orL]; repeat' split) <;> omega)
theorem ltOf_ordK : ltOf ordK = ltK := by
  funext x y
  unfold ltOf
  rw [Bool.eq_iff_iff, decide_eq_true_eq, ordK_neg]
theorem swoK : Go.Sort.SWO ltK where
  irrefl x := by rw [ltK_not]; omega
  trans x y z h k := by rw [ltK_iff] at *; omega
  ntrans x y z h k := by rw [ltK_not] at *; omega
set_option maxHeartbeats 1600000 in
theorem lessK_g (x y : Lnk) (w : World) :
    Calls Tryz.prog 55 #[.agg #[.int .i64 x.a, .int .i64 x.b, .int .i64 x.knob, .int .i64 x.other, .int .u8 x.sort], .agg #[.int .i64 y.a, .int .i64 y.b, .int .i64 y.knob, .int .i64 y.other, .int .u8 y.sort]] w fun v w' => v = .returned (.int .i64 (ordK x y)) ∧ Grn w w' := by
  obtain ⟨a, b, c, d, s⟩ := x
  obtain ⟨a', b', c', d', s'⟩ := y
  have hG := ((Grn.refl w).alloc (.cells #[.int .i64 a, .int .i64 b, .int .i64 c, .int .i64 d, .int .u8 s] 84)).alloc (.cells #[.int .i64 a', .int .i64 b', .int .i64 c', .int .i64 d', .int .u8 s'] 84)
  obtain ⟨W1, hW1, E1, B1, hz1⟩ := mk_ w #[.int .i64 a, .int .i64 b, .int .i64 c, .int .i64 d, .int .u8 s] 84
  obtain ⟨W2, hW2, E2, B2, hz2⟩ := mk_ W1 #[.int .i64 a', .int .i64 b', .int .i64 c', .int .i64 d', .int .u8 s'] 84
  rw [hW1, hW2] at hG
  have B1' := B1.ext E2
  rw [hz1] at B2
  have a0 := Go.cell_grown B1'.lt (B1'.cell 0)
  have a1 := Go.cell_grown B1'.lt (B1'.cell 1)
  have a2 := Go.cell_grown B1'.lt (B1'.cell 2)
  have c0 := Go.cell_grown B2.lt (B2.cell 0)
  have c1 := Go.cell_grown B2.lt (B2.cell 1)
  have c2 := Go.cell_grown B2.lt (B2.cell 2)
  go_enter Tryz.func55, Tryz.ntmps55
  go_upto_region 1 with (fail)
  clear hW1 hW2 hz1 hz2 B1 E1 E2 B1' B2
  refine wp_region_tailG 15 (by kernel_rfl) (by kernel_rfl) ?_
  simp only [List.take_succ_cons, List.take_zero, List.drop_succ_cons, List.drop_zero]
  repeat (go_big_quiet_step ((go_at_call 47; exact (cmpZ_c _ _ _).mono fun _ _ ⟨he, hw⟩ => ⟨he, _, hw.symm⟩)))
  refine wpQuiet_nil ?_
  intro W3 hW3
  have hG3 : Grn w W3 := by
    obtain ⟨p, rfl⟩ := hW3
    exact hG.trans ⟨p.n, p.os, rfl⟩
  clear hW3 hG a0 a1 a2 c0 c1 c2
  go_wp2_with fail
  refine (or3_c _ _ _ _ _).mono ?_
  rintro v w4 ⟨rfl, rfl⟩
  go_wp2_with fail
  go_ret
  exact ⟨rfl, hG3.alloc _⟩
theorem flatK_lnk (l : List Lnk) : Go.Sort.flatK Lnk.cs 5 l.toArray = rowsA (l.map Lnk.cs) := by
  refine rowsA_ext (lnk_wide l) (by simp) fun i j r u hr hu => ?_
  rw [List.getElem?_map] at hr
  obtain ⟨p, hp, rfl⟩ := Option.map_eq_some_iff.1 hr
  obtain ⟨hi, hpi⟩ := List.getElem?_eq_some_iff.1 hp
  have hj : j < 5 := (List.getElem?_eq_some_iff.1 hu).1
  have hlt : i * 5 + j < l.toArray.size * 5 := by simp; omega
  rw [Array.getElem?_eq_getElem (by simpa using hlt), ← getElem!_pos, Go.Sort.get_flatK _ _ _ _ hlt, show (i * 5 + j) / 5 = i by omega, show (i * 5 + j) % 5 = j by omega, getElem!_pos l.toArray i (by simpa using hi)]
  have e1 : l.toArray[i]'(by simpa using hi) = p := by simpa using hpi
  rw [e1, ← hu]
  rw [List.getElem!_eq_getElem?_getD, hu]
  rfl
theorem putLnk {w : World} {g n : Nat} {os : Array Obj} {l l' : List Lnk} {t : TypeId} (hl : l'.length = l.length) (hb : RowX w g t (l.map Lnk.cs)) :
    RowX (sortWorldK Lnk.cs 5 w g 0 n l'.toArray os) g t (l'.map Lnk.cs) ∧ w.grownBy (sortWorldK Lnk.cs 5 w g 0 n l'.toArray os) (some g) := by
  obtain ⟨ex, hb⟩ := hb
  have hg := hb.lt
  constructor
  · refine ⟨ex, ?_⟩
    unfold sortWorldK Go.Sort.putRowK
    rw [flatK_lnk]
    show (Go.Sort.grow _ _).heap[g]? = _
    rw [Go.Sort.heap_grow_old _ _ (by simpa using hg)]
    have hb' : w.heap[g]? = some (.cells (rowsA (l.map Lnk.cs) ++ ex) t (0, 0)) := hb
    have hs : (rowsA (l'.map Lnk.cs)).size = (rowsA (l.map Lnk.cs)).size := by rw [rowsA_size (lnk_wide l), rowsA_size (lnk_wide l')]; simp [hl]
    have e : Go.Sort.putCells id 0 (rowsA (l'.map Lnk.cs)) (rowsA (l.map Lnk.cs) ++ ex) = rowsA (l'.map Lnk.cs) ++ ex := by
      apply Array.ext_getElem?
      intro k
      rcases Nat.lt_or_ge k (rowsA (l.map Lnk.cs)).size with hk | hk
      · have hk' : k < (rowsA (l'.map Lnk.cs)).size := by omega
        rw [Array.getElem?_append_left hk']
        have : k < (rowsA (l.map Lnk.cs) ++ ex).size := by simp; omega
        simp [Go.Sort.putCells, hk']
        exact ⟨_, Array.getElem?_eq_getElem this⟩
      · rw [Array.getElem?_append_right (by omega), hs]
        rcases Nat.lt_or_ge k (rowsA (l.map Lnk.cs) ++ ex).size with h2 | h2
        · have h3 : ¬ k < (rowsA (l'.map Lnk.cs)).size := by omega
          have h4 : (rowsA (l.map Lnk.cs) ++ ex)[k]? = ex[k - (rowsA (l.map Lnk.cs)).size]? := Array.getElem?_append_right hk
          rw [← h4]
          simp [Go.Sort.putCells, h3]
        · rw [Array.getElem?_eq_none (by simpa [Go.Sort.putCells] using h2), Array.getElem?_eq_none (by simp at h2; omega)]
    simp [Go.Sort.putRow, Go.Sort.mapBlock, Go.Sort.ahead, Array.getElem?_modify, hb', Go.Sort.onCells, e]
  · refine ⟨rfl, rfl, rfl, by simp [sortWorldK, Go.Sort.putRowK], fun k hk hne => ?_⟩
    unfold sortWorldK Go.Sort.putRowK
    rw [Go.Sort.heap_grow_old _ _ (by simpa using hk)]
    have : g ≠ k := fun e => hne (by rw [e])
    simp [Go.Sort.putRow, Go.Sort.mapBlock, Go.Sort.ahead, Array.getElem?_modify, this]
theorem sortK_c (l : List Lnk) (g cap : Nat) (w : World) (hB : RowX w g 84 (l.map Lnk.cs)) (hn : l.length ≤ 100000) :
    Calls Tryz.prog 54 #[.slice (some ⟨g, 0, none⟩) l.length cap, .func (.func 55) #[] #[]] w fun e w' => e = .returned (.tuple #[]) ∧ ∃ l' : List Lnk, l'.Perm l ∧ (l'.Pairwise fun x y => ltK y x = false) ∧ RowX w' g 84 (l'.map Lnk.cs) ∧ w.grownBy w' (some g) := by
  have hH : Go.Sort.HoldsK Lnk.cs 5 w g 0 l.toArray := by
    obtain ⟨ex, hb⟩ := hB
    unfold Go.Sort.HoldsK
    rw [flatK_lnk]
    intro j hj
    refine ⟨?_, by rw [Nat.zero_add]; exact hb.frozen j⟩
    rw [Nat.zero_add, hb.cell, Array.getElem?_append_left hj, Array.getElem?_eq_getElem hj, getElem!_pos (rowsA (l.map Lnk.cs)) j hj]
    rfl
  have hcmp : CmpLays Tryz.prog 55 #[] Lnk.cs 5 ordK g 0 l.toArray.size w := fun m os dk _ x y => (lessK_g x y _).mono fun _ _ ⟨he, q, os', hw⟩ => ⟨he, q, os', hw⟩
  have h := AnyQ.slices_SortFunc sortLinks 5 Tryz.isAgg84 Tryz.sizeOf84 Lnk.cs (fun _ => rfl) (fun x v hv => by
      simp only [Lnk.cs, List.mem_cons, List.not_mem_nil, or_false] at hv
      rcases hv with rfl | rfl | rfl | rfl | rfl <;> rfl) ordK (by rw [ltOf_ordK]; exact swoK) 55 #[] g 0 cap l.toArray w (enters_of Tryz.func55 (by kernel_rfl) rfl) hcmp hH hB.lt (by simp; omega)
  rw [ltOf_ordK] at h
  refine (show Calls Tryz.prog 54 _ _ _ from h).mono ?_
  rintro e w' ⟨rfl, d', n, os, hp, hs, rfl⟩
  obtain ⟨hsz, _, hperm⟩ := hp
  have e1 : d'.extract 0 l.toArray.size = d' := by rw [← hsz]; exact Array.extract_size
  rw [e1, Array.extract_size] at hperm
  have hperm' : d'.toList.Perm l := by simpa using hperm
  refine ⟨rfl, d'.toList, hperm', ?_, putLnk (by simpa using hperm'.length_eq) hB⟩
  rw [List.pairwise_iff_getElem]
  intro i j hi hj hij
  have hi' : i < d'.size := by simpa using hi
  have hj' : j < d'.size := by simpa using hj
  have := hs i j (by omega) hij (by omega)
  simpa [getElem!_pos d' i hi', getElem!_pos d' j hj'] using this
end Go.Proofs.YtaaeapjnjjbglaaGreatDoor.Lat
namespace Go.Proofs.YtaaeapjnjjbglaaGreatDoor.Lat
open Go.RowKit

theorem insNilK (v : Value) (w : World) : Calls Tryz.prog 94 #[.slice none 0 0, .int .i64 0, .int .i64 0, v] w fun e w' => e = .returned (.tuple #[]) ∧ w = w' := by
  go_enter Tryz.func94, Tryz.ntmps94
  go_wp2_with fail
  go_loopw [8] (fun i wr => i = .int .i64 1 ∧ wr = w) (fun _ _ => 0)
  case atStart => exact ⟨rfl, rfl⟩
  case round =>
    obtain ⟨rfl, rfl⟩ := hrel
    go_wp2_with fail
    go_end0
    exact ⟨rfl, rfl⟩
set_option maxRecDepth 100000 in
theorem pdqNilK (v : Value) (w : World) : Calls Tryz.prog 76 #[.slice none 0 0, .int .i64 0, .int .i64 0, .int .i64 0, v] w fun e w' => e = .returned (.tuple #[]) ∧ w = w' := by
  go_enter Tryz.func76, Tryz.ntmps76
  go_wp2_with fail
  go_loopw [1, 2] (fun a b wr => a = .int .i64 0 ∧ b = .int .i64 0 ∧ wr = w) (fun _ _ _ => 0)
  case atStart => exact ⟨rfl, rfl, rfl⟩
  case round =>
    obtain ⟨rfl, rfl, rfl⟩ := hrel
    go_wp2_with fail
    refine (insNilK v wr).mono ?_
    rintro e w1 ⟨rfl, rfl⟩
    go_wp2_with fail
    exact bodyPost_ret (v := .tuple #[]) (results_none rfl _ _ _) rfl ⟨rfl, rfl⟩
theorem sortNilK_c (v : Value) (w : World) : Calls Tryz.prog 54 #[.slice none 0 0, v] w fun e w' => e = .returned (.tuple #[]) ∧ w = w' := by
  have hl := Any.bits_Len (SlLaysF0.n15.bits (P := Tryz.prog) (ρ := sortLinks_ren) { sortLinks with }) 0 w (by omega) (by omega)
  go_enter Tryz.func54, Tryz.ntmps54
  have hl' : Calls Tryz.prog 77 #[.int .u64 0] w fun e w' => e = .returned (.int .i64 0) ∧ w' = w := hl
  clear hl
  go_wp2_with fail
  refine hl'.mono ?_
  rintro e w1 ⟨rfl, rfl⟩
  go_wp2_with fail
  refine (pdqNilK v w1).mono ?_
  rintro e w2 ⟨rfl, rfl⟩
  go_wp2_with fail
  go_end0
  exact ⟨rfl, rfl⟩
end Go.Proofs.YtaaeapjnjjbglaaGreatDoor.Lat
namespace Go.Proofs.YtaaeapjnjjbglaaGreatDoor.Lat
open Go.RowKit

structure Jnt where
  a : Nat
  b : Nat
  strength : Int
  axis : Int
  slides : Bool
deriving instance DecidableEq for Jnt
def Jnt.cs (x : Jnt) : List Value := [.int .i64 x.a, .int .i64 x.b, .int .i64 x.strength, .int .u8 x.axis, .bool x.slides]
def Jnts (w : World) (A : Option Addr) (cap : Nat) (l : List Jnt) : Prop := SliceIs w A l.length cap 5 (l.map Jnt.cs)
theorem Jnts.ext {w w' : World} {A : Option Addr} {cap : Nat} {l : List Jnt} (h : Jnts w A cap l) (e : Ext w w') : Jnts w' A cap l := SliceIs.ext h e
theorem Jnts.len {w : World} {A : Option Addr} {cap : Nat} {l : List Jnt} (h : Jnts w A cap l) : l.length ≤ maxLen := Nat.le_trans h.le h.small
theorem jnts_nil (w : World) : Jnts w none 0 [] := ⟨rfl, Nat.le_refl _, Nat.zero_le _, by simp, fun h => by cases h⟩
theorem jnt_wide (l : List Jnt) : ∀ r ∈ l.map Jnt.cs, r.length = 5 := fun r h => by
  obtain ⟨p, _, rfl⟩ := List.mem_map.1 h
  rfl
def strongS (s : Int) : Int := if s = 1 then 2 else if s = 3 then 3 else if s = 5 then 5 else 0
def lineB (a b : Knb) : Bool := decide (a.dir / 2 = b.dir / 2) && ((decide (a.dir / 2 = 0) || decide (a.at_.x = b.at_.x)) && ((decide (a.dir / 2 = 1) || decide (a.at_.y = b.at_.y)) && (decide (a.dir / 2 = 2) || decide (a.at_.z = b.at_.z))))
theorem lineB_iff {a b : Knb} : lineB a b = true ↔ a.dir / 2 = b.dir / 2 ∧ (a.dir / 2 = 0 ∨ a.at_.x = b.at_.x) ∧ (a.dir / 2 = 1 ∨ a.at_.y = b.at_.y) ∧ (a.dir / 2 = 2 ∨ a.at_.z = b.at_.z) := by
  simp only [lineB, Bool.and_eq_true, Bool.or_eq_true, decide_eq_true_eq]
/-- The program's key of a line: the axis, and the place with the coordinate along it at 0. -/
def lineK (k : Knb) : Pt := if k.dir / 2 = 0 then ⟨0, k.at_.y, k.at_.z⟩ else if k.dir / 2 = 1 then ⟨k.at_.x, 0, k.at_.z⟩ else ⟨k.at_.x, k.at_.y, 0⟩
theorem lineK_iff {a b : Knb} (ha : 0 ≤ a.dir ∧ a.dir ≤ 5) (hb : 0 ≤ b.dir ∧ b.dir ≤ 5) : lineB a b = true ↔ a.dir / 2 + 1 = b.dir / 2 + 1 ∧ lineK a = lineK b := by
  rw [lineB_iff]
  unfold lineK
  have h1 : a.dir / 2 = 0 ∨ a.dir / 2 = 1 ∨ a.dir / 2 = 2 := by omega
  have h2 : b.dir / 2 = 0 ∨ b.dir / 2 = 1 ∨ b.dir / 2 = 2 := by omega
  rcases h1 with h1 | h1 | h1 <;> rcases h2 with h2 | h2 | h2 <;> rw [h1, h2] <;> simp
section
variable (ks : List Knd) (bs : List Brk)
def knobAt (i k : Nat) : Knb := knbAt (bknobs ks (brkAt bs i)) k
def lineOk (x y : Lnk) : Bool := lineB (knobAt ks bs x.a x.knob) (knobAt ks bs x.a y.knob) && lineB (knobAt ks bs x.a x.knob) (knobAt ks bs x.b y.other)
/-- The joint of the first k of these links, ahead of its end. -/
def midJ (x : Lnk) (l : List Lnk) (k : Nat) : Jnt := ⟨x.a, x.b, ((l.take k).map fun y => strongS y.sort).sum, if (l.take k).all (lineOk ks bs x) then (knobAt ks bs x.a x.knob).dir / 2 + 1 else 0, (l.take k).all fun y => decide (y.sort = 3)⟩
def endJ (j : Jnt) : Jnt := ⟨j.a, j.b, j.strength, j.axis, j.slides && decide (j.axis ≠ 0)⟩
def lnkAt (l : List Lnk) (i : Nat) : Lnk := l.getD i ⟨0, 0, 0, 0, 0⟩
def joinJ (l : List Lnk) : Jnt := endJ (midJ ks bs (lnkAt l 0) l l.length)
def sameP (x y : Lnk) : Bool := decide (y.a = x.a) && decide (y.b = x.b)
/-- What the reference appends at link i. -/
def jntAt (L : List Lnk) (i : Nat) : Option Jnt := if 0 < i ∧ sameP (lnkAt L (i - 1)) (lnkAt L i) = true then none else some (joinJ ks bs (L.filter (sameP (lnkAt L i))))
def pj (L : List Lnk) (i : Nat) : List Jnt := (List.range i).filterMap (jntAt ks bs L)
def jointL : List Jnt := pj ks bs (linkL ks bs) (linkL ks bs).length
end
theorem sameP_iff {x y : Lnk} : sameP x y = true ↔ y.a = x.a ∧ y.b = x.b := by simp [sameP]
theorem lnkAt_eq {l : List Lnk} {k : Nat} {p : Lnk} (h : l[k]? = some p) : lnkAt l k = p := by simp [lnkAt, h]
theorem lnkAt_get {l : List Lnk} {k : Nat} (h : k < l.length) : l[k]? = some (lnkAt l k) := by
  have := List.getElem?_eq_getElem h
  rw [lnkAt_eq this, this]
theorem lnkAt_mem {l : List Lnk} {k : Nat} (h : k < l.length) : lnkAt l k ∈ l := List.mem_of_getElem? (lnkAt_get h)
section
variable {ks : List Knd} {bs : List Brk}
theorem pj_succ (L : List Lnk) (i : Nat) : pj ks bs L (i + 1) = pj ks bs L i ++ (jntAt ks bs L i).toList := by
  unfold pj
  rw [List.range_succ, List.filterMap_append]
  cases h : jntAt ks bs L i <;> simp [h]
theorem pj_len (L : List Lnk) (i : Nat) : (pj ks bs L i).length ≤ i := by
  unfold pj
  exact Nat.le_trans (List.length_filterMap_le _ _) (by simp)
theorem midJ_zero (x : Lnk) (l : List Lnk) : midJ ks bs x l 0 = ⟨x.a, x.b, 0, (knobAt ks bs x.a x.knob).dir / 2 + 1, true⟩ := by
  unfold midJ
  simp
theorem midJ_succ {x : Lnk} {l : List Lnk} {k : Nat} {y : Lnk} (h : l[k]? = some y) : midJ ks bs x l (k + 1) = ⟨x.a, x.b, (midJ ks bs x l k).strength + strongS y.sort, if lineOk ks bs x y then (midJ ks bs x l k).axis else 0, (midJ ks bs x l k).slides && decide (y.sort = 3)⟩ := by
  unfold midJ
  rw [List.take_add_one, h]
  simp only [Option.toList_some, List.map_append, List.sum_append, List.map_cons, List.map_nil, List.sum_cons, List.sum_nil, List.all_append, List.all_cons, List.all_nil, Bool.and_true, Int.add_zero, Jnt.mk.injEq, true_and, and_true]
  cases h1 : (l.take k).all (lineOk ks bs x) <;> cases h2 : lineOk ks bs x y <;> simp
theorem midJ_axis (x : Lnk) (l : List Lnk) (k : Nat) : (midJ ks bs x l k).axis = (knobAt ks bs x.a x.knob).dir / 2 + 1 ∨ (midJ ks bs x l k).axis = 0 := by
  unfold midJ
  simp only
  split
  · exact Or.inl rfl
  · exact Or.inr rfl
theorem midJ_strength (x : Lnk) (l : List Lnk) (k : Nat) : 0 ≤ (midJ ks bs x l k).strength ∧ (midJ ks bs x l k).strength ≤ 5 * k := by
  induction k with
  | zero => rw [midJ_zero]; simp
  | succ k ih =>
    cases h : l[k]? with
    | none =>
      have e : midJ ks bs x l (k + 1) = midJ ks bs x l k := by
        unfold midJ
        rw [List.take_add_one, h, Option.toList_none, List.append_nil]
      rw [e]
      omega
    | some y =>
      rw [midJ_succ h]
      simp only
      have : 0 ≤ strongS y.sort ∧ strongS y.sort ≤ 5 := by
        unfold strongS
        repeat' split
        all_goals omega
      omega
/-- A pair's links lie side by side. -/
theorem filter_group {L : List Lnk} (ha : L.Pairwise fun x y => ltK x y = true) {p n : Nat} (hp : p + n ≤ L.length) (hn : 0 < n) (hb : p = 0 ∨ sameP (lnkAt L (p - 1)) (lnkAt L p) = false) (hs : ∀ t, t < n → sameP (lnkAt L p) (lnkAt L (p + t)) = true) (he : p + n = L.length ∨ sameP (lnkAt L p) (lnkAt L (p + n)) = false) :
    L.filter (sameP (lnkAt L p)) = (L.drop p).take n := by
  have asc : ∀ i j, i < j → j < L.length → ltK (lnkAt L i) (lnkAt L j) = true := fun i j hij hj => by
    have := List.pairwise_iff_getElem.1 ha i j (by omega) hj hij
    rwa [← lnkAt_eq (List.getElem?_eq_getElem (show i < L.length by omega)), ← lnkAt_eq (List.getElem?_eq_getElem hj)] at this
  have e : L = L.take p ++ ((L.drop p).take n ++ L.drop (p + n)) := by
    rw [← List.drop_drop, List.take_append_drop, List.take_append_drop]
  have f1 : (L.take p).filter (sameP (lnkAt L p)) = [] := by
    rw [List.filter_eq_nil_iff]
    intro y hy h
    obtain ⟨k, hk⟩ := List.getElem?_of_mem hy
    have hkp : k < p := by
      have := (List.getElem?_eq_some_iff.1 hk).1
      rw [List.length_take] at this
      omega
    rw [List.getElem?_take_of_lt hkp] at hk
    rw [← lnkAt_eq hk, sameP_iff] at h
    rcases hb with hb | hb
    · omega
    · rw [← Bool.not_eq_true, sameP_iff] at hb
      have h2 := ltK_iff.1 (asc (p - 1) p (by omega) (by omega))
      rcases Nat.lt_or_ge k (p - 1) with h3 | h3
      · have h4 := ltK_iff.1 (asc k (p - 1) h3 (by omega))
        omega
      · obtain rfl : k = p - 1 := by omega
        omega
  have f2 : ((L.drop p).take n).filter (sameP (lnkAt L p)) = (L.drop p).take n := by
    rw [List.filter_eq_self]
    intro y hy
    obtain ⟨k, hk⟩ := List.getElem?_of_mem hy
    have hkn : k < n := by
      have := (List.getElem?_eq_some_iff.1 hk).1
      rw [List.length_take] at this
      omega
    rw [List.getElem?_take_of_lt hkn, List.getElem?_drop] at hk
    rw [← lnkAt_eq hk]
    exact hs k hkn
  have f3 : (L.drop (p + n)).filter (sameP (lnkAt L p)) = [] := by
    rw [List.filter_eq_nil_iff]
    intro y hy h
    obtain ⟨k, hk⟩ := List.getElem?_of_mem hy
    have hlt := (List.getElem?_eq_some_iff.1 hk).1
    rw [List.length_drop] at hlt
    rw [List.getElem?_drop] at hk
    rw [← lnkAt_eq hk, sameP_iff] at h
    rcases he with he | he
    · omega
    · rw [← Bool.not_eq_true, sameP_iff] at he
      have h2 := ltK_iff.1 (asc p (p + n) (by omega) (by omega))
      rcases Nat.eq_zero_or_pos k with rfl | h3
      · exact he h
      · have h4 := ltK_iff.1 (asc (p + n) (p + n + k) (by omega) (by omega))
        omega
  refine (congrArg (List.filter (sameP (lnkAt L p))) e).trans ?_
  rw [List.filter_append, List.filter_append, f1, f2, f3, List.nil_append, List.append_nil]
theorem pj_group {L : List Lnk} (ha : L.Pairwise fun x y => ltK x y = true) {p n : Nat} (hp : p + n ≤ L.length) (hn : 0 < n) (hb : p = 0 ∨ sameP (lnkAt L (p - 1)) (lnkAt L p) = false) (hs : ∀ t, t < n → sameP (lnkAt L p) (lnkAt L (p + t)) = true) (he : p + n = L.length ∨ sameP (lnkAt L p) (lnkAt L (p + n)) = false) :
    pj ks bs L (p + n) = pj ks bs L p ++ [joinJ ks bs ((L.drop p).take n)] := by
  rw [← filter_group ha hp hn hb hs he]
  have key : ∀ t, t < n → pj ks bs L (p + (t + 1)) = pj ks bs L p ++ [joinJ ks bs (L.filter (sameP (lnkAt L p)))] := by
    intro t
    induction t with
    | zero =>
      intro _
      rw [Nat.zero_add, pj_succ]
      unfold jntAt
      rw [if_neg (by
        rintro ⟨h1, h2⟩
        rcases hb with hb | hb
        · omega
        · rw [hb] at h2
          cases h2)]
      rfl
    | succ t ih =>
      intro ht
      rw [show p + (t + 1 + 1) = p + (t + 1) + 1 by omega, pj_succ, ih (by omega)]
      unfold jntAt
      rw [if_pos]
      · simp
      · refine ⟨by omega, ?_⟩
        have h1 := sameP_iff.1 (hs t (by omega))
        have h2 := sameP_iff.1 (hs (t + 1) ht)
        rw [show p + (t + 1) - 1 = p + t by omega, sameP_iff]
        omega
  have := key (n - 1) (by omega)
  rwa [show n - 1 + 1 = n by omega] at this
/-- The links of one pair of bricks. -/
structure OfPair (ks : List Knd) (bs : List Brk) (l : List Lnk) : Prop where
  ne : 0 < l.length
  m : ∀ y ∈ l, IsLnk ks bs y ∧ y.a = (lnkAt l 0).a ∧ y.b = (lnkAt l 0).b
theorem ofPair_filter {x : Lnk} (hx : x ∈ linkL ks bs) : OfPair ks bs ((linkL ks bs).filter (sameP x)) := by
  have hne : 0 < ((linkL ks bs).filter (sameP x)).length := List.length_pos_iff.2 fun e => by
    have : x ∈ (linkL ks bs).filter (sameP x) := List.mem_filter.2 ⟨hx, sameP_iff.2 ⟨rfl, rfl⟩⟩
    rw [e] at this
    cases this
  refine ⟨hne, fun y hy => ?_⟩
  obtain ⟨h1, h2⟩ := List.mem_filter.1 hy
  obtain ⟨-, h3⟩ := List.mem_filter.1 (lnkAt_mem hne)
  rw [sameP_iff] at h2 h3
  exact ⟨mem_linkL.1 h1, by omega, by omega⟩
/-- The other knob of a link lies on the same line. -/
theorem lineOk_iff (hf : Fit ks bs) {x y : Lnk} (hx : IsLnk ks bs x) (hy : IsLnk ks bs y) (ha : y.a = x.a) (hb : y.b = x.b) : lineOk ks bs x y = lineB (knobAt ks bs x.a x.knob) (knobAt ks bs x.a y.knob) := by
  obtain ⟨xa, xb, xk, xo, xs⟩ := x
  obtain ⟨ya, yb, yk, yo, ys⟩ := y
  simp only at ha hb
  subst ha hb
  have hm := meetB_iff.1 hy.m
  have hd := hf.dir (show ya < bs.length from by have := hy.ab; have := hy.b; simp only at *; omega) hy.k
  simp only at hm hd
  unfold lineOk
  cases h : lineB (knobAt ks bs ya xk) (knobAt ks bs ya yk)
  · rfl
  · rw [Bool.true_and, lineB_iff]
    rw [lineB_iff] at h
    unfold knobAt at *
    obtain ⟨d, hdn⟩ : ∃ d : Nat, (knbAt (bknobs ks (brkAt bs ya)) yk).dir = d := ⟨(knbAt (bknobs ks (brkAt bs ya)) yk).dir.toNat, by omega⟩
    rw [← hm.1, hm.2.1]
    rw [hdn] at h hd ⊢
    rw [Int.toNat_natCast]
    unfold addP oppD
    simp only
    have e1 : d = 0 ∨ d = 1 ∨ d = 2 ∨ d = 3 ∨ d = 4 ∨ d = 5 := by omega
    rcases e1 with rfl | rfl | rfl | rfl | rfl | rfl <;> simp only [stepS] <;> omega
end
end Go.Proofs.YtaaeapjnjjbglaaGreatDoor.Lat
namespace Go.Proofs.YtaaeapjnjjbglaaGreatDoor.Lat
open Go.RowKit

theorem Knb.meets.nat {x : Knb} (h : x.meets) : ∃ (a b c : Int) (d : Nat) (s : Int), x = ⟨⟨a, b, c⟩, d, s⟩ ∧ Knb.meets ⟨⟨a, b, c⟩, d, s⟩ := by
  obtain ⟨⟨a, b, c⟩, d, s⟩ := x
  have h0 := h.d0
  simp only at h0
  have e : d = (d.toNat : Int) := by omega
  rw [e] at h ⊢
  exact ⟨a, b, c, d.toNat, s, rfl, h⟩
theorem infoLnk : (Tryz.prog.info? 84).map (fun i => (i.zero, i.size, i.bytes)) = some (some (.agg #[.int .i64 0, .int .i64 0, .int .i64 0, .int .i64 0, .int .u8 0]), 5, 40) := by kernel_rfl
theorem links_cell {w : World} {A : Option Addr} {cap : Nat} {l : List Lnk} (h : Links w A cap l) {k : Nat} (hk : k < l.length) {g off : Nat} (hA : A = some ⟨g, off, none⟩) : w.cell? ⟨g, off + k * 5, none⟩ = some (.int .i64 (lnkAt l k).a) ∧ w.cell? ⟨g, off + k * 5 + 1, none⟩ = some (.int .i64 (lnkAt l k).b) ∧ w.cell? ⟨g, off + k * 5 + 2, none⟩ = some (.int .i64 (lnkAt l k).knob) ∧ w.cell? ⟨g, off + k * 5 + 3, none⟩ = some (.int .i64 (lnkAt l k).other) ∧ w.cell? ⟨g, off + k * 5 + 4, none⟩ = some (.int .u8 (lnkAt l k).sort) := by
  obtain ⟨b, o, p, hA', hp, -, c0, c1, c2, c3, c4⟩ := h.at_ hk
  rw [hA'] at hA
  cases hA
  rw [lnkAt_eq hp]
  exact ⟨c0, c1, c2, c3, c4⟩
theorem five_put {w w0 : World} {g : Nat} {t : TypeId} {x y z p q : Value} (h : Blk w g t #[x, y, z, p, q]) (E : Ext w0 w) (hg : w0.heap.size ≤ g) (a b c d e : Value) :
    ∃ V, ((((w.setCell ⟨g, 0, none⟩ a).setCell ⟨g, 1, none⟩ b).setCell ⟨g, 2, none⟩ c).setCell ⟨g, 3, none⟩ d).setCell ⟨g, 4, none⟩ e = V ∧ Blk V g t #[a, b, c, d, e] ∧ Ext w0 V ∧ V.heap.size = w.heap.size :=
  ⟨_, rfl, ((((h.set_ 0 a).set_ 1 b).set_ 2 c).set_ 3 d).set_ 4 e, ((((E.setCell hg a).setCell hg b).setCell hg c).setCell hg d).setCell hg e, by simp [World.setCell]⟩
def natZ (l : List Nat) : List Int := l.map fun (g : Nat) => (g : Int)
theorem natZ_len (l : List Nat) : (natZ l).length = l.length := List.length_map _
theorem natZ_at {l : List Nat} {i : Nat} (h : i < l.length) : (natZ l)[i]? = some ((l.getD i 0 : Nat) : Int) := by
  unfold natZ
  rw [List.getElem?_map, List.getD_eq_getElem?_getD, List.getElem?_eq_getElem h]
  rfl
theorem natZ_set (l : List Nat) (i v : Nat) : natZ (l.set i v) = (natZ l).set i (v : Int) := by
  unfold natZ
  rw [List.map_set]
theorem linkL_within {ks : List Knd} {bs : List Brk} : Within (linkL ks bs) bs.length := fun x hx => by
  have h := mem_linkL.1 hx
  have := h.ab
  have := h.b
  omega
end Go.Proofs.YtaaeapjnjjbglaaGreatDoor.Lat
