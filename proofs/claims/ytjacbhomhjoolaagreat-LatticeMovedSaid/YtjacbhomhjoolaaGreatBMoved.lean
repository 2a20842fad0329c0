/- LatticeMoved, plain: a model turned and moved has the same links, the same joints but for their axes, and the same groups; its cells are where turning and moving brings them. Joints whose axes are made zero one by one, plain and in memory. -/
import Derived.Test.YtjacbhomhjoolaaGreatBTouch
import Derived.Test.YtjacbhomhjoolaaGreatBGrp
import Derived.Test.YtjacbhomhjoolaaGreatBMoveR
import Derived.Test.YtjacbhomhjoolaaGreatBJointsP
import Derived.Test.YtjacbhomhjoolaaGreatBLib
import Derived.Test.YtjacbhomhjoolaaGreatBJntC
namespace Go.Proofs.YtjacbhomhjoolaaGreat
open Go.RowKit

theorem flat_congr {α β : Type} {f g : α → List β} : ∀ {l : List α}, (∀ x ∈ l, f x = g x) → l.flatMap f = l.flatMap g
  | [], _ => rfl
  | x :: l, h => by
    rw [List.flatMap_cons, List.flatMap_cons, h x List.mem_cons_self, flat_congr fun y hy => h y (List.mem_cons_of_mem _ hy)]
theorem filterMap_same {α β : Type} {f g : α → Option β} : ∀ {l : List α}, (∀ x ∈ l, f x = g x) → l.filterMap f = l.filterMap g
  | [], _ => rfl
  | x :: l, h => by
    rw [List.filterMap_cons, List.filterMap_cons, h x List.mem_cons_self, filterMap_same fun y hy => h y (List.mem_cons_of_mem _ hy)]
def mvP (t : Nat) (s c : Pt) : Pt := addP (turnS c t) s
theorem addP_cancel {a b s : Pt} (h : addP a s = addP b s) : a = b := by
  obtain ⟨a1, a2, a3⟩ := a
  obtain ⟨b1, b2, b3⟩ := b
  unfold addP at h
  simp only [Pt.mk.injEq] at h ⊢
  omega
theorem turnS_injM {t : Nat} (ht : t < 24) {a b : Pt} (h : turnS a t = turnS b t) : a = b := by
  rw [← turnS_inv ht a, ← turnS_inv ht b, h]
theorem mvP_inj {t : Nat} (ht : t < 24) {s a b : Pt} (h : mvP t s a = mvP t s b) : a = b := turnS_injM ht (addP_cancel h)
theorem dirT_opp : ∀ d, d < 6 → ∀ e, e < 6 → ∀ n, n < 24 → (((dirT e n : Nat) : Int) = oppD ((dirT d n : Nat) : Int) ↔ (e : Int) = oppD (d : Int)) := by decide +kernel
theorem dirT_half : ∀ d, d < 6 → ∀ e, e < 6 → ∀ n, n < 24 → (dirT d n / 2 = dirT e n / 2 ↔ d / 2 = e / 2) := by decide +kernel
theorem dirT_even : ∀ d, d < 6 → ∀ n, n < 24 → dirT (2 * (d / 2)) n / 2 = dirT d n / 2 := by decide +kernel
def Knb.six (x : Knb) : Prop := 0 ≤ x.dir ∧ x.dir < 6
theorem Knb.six.nat {x : Knb} (h : x.six) : ∃ (d : Nat), x.dir = d ∧ d < 6 := ⟨x.dir.toNat, by have := h.1; omega, by have := h.1; have := h.2; omega⟩
theorem meetB_move {t : Nat} (ht : t < 24) (s : Pt) {a b : Knb} (ha : a.six) (hb : b.six) : meetB (knobT t s a) (knobT t s b) = meetB a b := by
  obtain ⟨d, hd, hd6⟩ := ha.nat
  obtain ⟨e, he, he6⟩ := hb.nat
  have h1 : addP (addP (turnS a.at_ t) s) (stepS (dirT d t)) = addP (turnS b.at_ t) s ↔ addP a.at_ (stepS d) = b.at_ := by
    rw [← dirT_eq hd6 ht]
    have : addP (addP (turnS a.at_ t) s) (turnS (stepS d) t) = mvP t s (addP a.at_ (stepS d)) := by
      unfold mvP
      rw [turnS_add, addP_assoc, addP_comm s, addP_assoc]
    rw [this]
    exact ⟨fun h => mvP_inj ht h, fun h => by rw [h]; rfl⟩
  have h2 := dirT_opp d hd6 e he6 t ht
  rw [Bool.eq_iff_iff, meetB_iff, meetB_iff]
  unfold knobT
  simp only [hd, he, Int.toNat_natCast]
  rw [h1, h2]
/-- Along the axis of a direction. -/
def par (d : Nat) (D : Pt) : Prop := (d / 2 = 0 ∨ D.x = 0) ∧ (d / 2 = 1 ∨ D.y = 0) ∧ (d / 2 = 2 ∨ D.z = 0)
theorem par_iff {d : Nat} (hd : d < 6) {D : Pt} : par d D ↔ ∃ k, D = sclP k (stepS d) := by
  obtain ⟨x, y, z⟩ := D
  have h6 : d = 0 ∨ d = 1 ∨ d = 2 ∨ d = 3 ∨ d = 4 ∨ d = 5 := by omega
  unfold par
  constructor
  · rintro ⟨h1, h2, h3⟩
    simp only at h1 h2 h3
    rcases h6 with rfl | rfl | rfl | rfl | rfl | rfl
    · exact ⟨x, by simp [sclP, stepS]; omega⟩
    · exact ⟨-x, by simp [sclP, stepS]; omega⟩
    · exact ⟨y, by simp [sclP, stepS]; omega⟩
    · exact ⟨-y, by simp [sclP, stepS]; omega⟩
    · exact ⟨z, by simp [sclP, stepS]; omega⟩
    · exact ⟨-z, by simp [sclP, stepS]; omega⟩
  · rintro ⟨k, h⟩
    unfold sclP at h
    simp only [Pt.mk.injEq] at h
    obtain ⟨e1, e2, e3⟩ := h
    simp only [e1, e2, e3]
    rcases h6 with rfl | rfl | rfl | rfl | rfl | rfl <;> simp [stepS]
theorem par_move {t d : Nat} (ht : t < 24) (hd : d < 6) {D : Pt} : par (dirT d t) (turnS D t) ↔ par d D := by
  rw [par_iff (dirT_lt hd ht), par_iff hd]
  constructor
  · rintro ⟨k, h⟩
    rw [← dirT_eq hd ht, ← turnS_scl] at h
    exact ⟨k, turnS_injM ht h⟩
  · rintro ⟨k, h⟩
    exact ⟨k, by rw [h, turnS_scl, dirT_eq hd ht]⟩
theorem lineB_par {a b : Knb} {d e : Nat} (hd : a.dir = d) (he : b.dir = e) : lineB a b = true ↔ d / 2 = e / 2 ∧ par d (subP a.at_ b.at_) := by
  rw [lineB_iff, hd, he]
  unfold par subP
  simp only
  omega
theorem subP_mv (p q s : Pt) (t : Nat) : subP (addP (turnS p t) s) (addP (turnS q t) s) = turnS (subP p q) t := by
  have h : subP p q = addP p (sclP (-1) q) := by
    unfold subP addP sclP
    simp only [Pt.mk.injEq]
    omega
  rw [h, turnS_add, turnS_scl]
  unfold subP addP sclP
  simp only [Pt.mk.injEq]
  omega
theorem lineB_move {t : Nat} (ht : t < 24) (s : Pt) {a b : Knb} (ha : a.six) (hb : b.six) : lineB (knobT t s a) (knobT t s b) = lineB a b := by
  obtain ⟨d, hd, hd6⟩ := ha.nat
  obtain ⟨e, he, he6⟩ := hb.nat
  have h1 : (knobT t s a).dir = ((dirT d t : Nat) : Int) := by
    unfold knobT
    simp only [hd, Int.toNat_natCast]
  have h2 : (knobT t s b).dir = ((dirT e t : Nat) : Int) := by
    unfold knobT
    simp only [he, Int.toNat_natCast]
  rw [Bool.eq_iff_iff, lineB_par h1 h2, lineB_par hd he, dirT_half d hd6 e he6 t ht]
  show _ ∧ par (dirT d t) (subP (addP (turnS a.at_ t) s) (addP (turnS b.at_ t) s)) ↔ _
  rw [subP_mv, par_move ht hd6]
theorem knbAt_map {f : Knb → Knb} {l : List Knb} {i : Nat} (h : i < l.length) : knbAt (l.map f) i = f (knbAt l i) := by
  have hg : l[i]? = some l[i] := List.getElem?_eq_getElem h
  rw [knbAt_eq hg]
  refine knbAt_eq ?_
  rw [List.getElem?_map, hg]
  rfl
theorem placeK_comp {l : List Knb} {a b : Nat} (ha : a < 24) (hb : b < 24) (hl : ∀ x ∈ l, 0 ≤ x.dir ∧ x.dir ≤ 5) (p q : Pt) : (placeK l a p).map (knobT b q) = placeK l (compT a b) (addP (turnS p b) q) := by
  unfold placeK
  rw [List.map_map]
  exact List.map_congr_left fun c hc => knobT_comp ha hb (hl c hc) p q
section
variable {ks : List Knd} {bs : List Brk}
theorem brkAt_mv (t : Nat) (s : Pt) {i : Nat} (hi : i < bs.length) : brkAt (movedL t s bs) i = moveB t s (brkAt bs i) := by
  have hg : bs[i]? = some bs[i] := List.getElem?_eq_getElem hi
  rw [brkAt_eq (movedL_at hg), brkAt_eq hg]
theorem bknobs_mv (hf : Fit ks bs) {t : Nat} (ht : t < 24) (s : Pt) {i : Nat} (hi : i < bs.length) : bknobs ks (brkAt (movedL t s bs) i) = (bknobs ks (brkAt bs i)).map (knobT t s) := by
  obtain ⟨n, tn, k, e1, e2, htn, hk, hv, hfi, hp, h1, h2⟩ := hf.b i hi
  rw [brkAt_mv t s hi]
  unfold bknobs moveB
  simp only [e1, e2, Int.toNat_natCast]
  have : kindAt ks n = k := by unfold kindAt; rw [List.getD_eq_getElem?_getD, hk]; rfl
  rw [this, placeK_comp htn ht fun x hx => (hfi.kok x hx).2]
theorem bcells_mv (hf : Fit ks bs) {t : Nat} (ht : t < 24) (s : Pt) {i : Nat} (hi : i < bs.length) : bcells ks (brkAt (movedL t s bs) i) = sortP ((bcells ks (brkAt bs i)).map (mvP t s)) := by
  obtain ⟨n, tn, k, e1, e2, htn, hk, hv, hfi, hp, h1, h2⟩ := hf.b i hi
  rw [brkAt_mv t s hi]
  unfold bcells moveB
  simp only [e1, e2, Int.toNat_natCast]
  rw [sortP_eq]
  have h3 := placeP_comp (l := (kindAt ks n).cells) htn ht (brkAt bs i).at_ s
  rw [← h3]
  exact ((sortP_perm _).map _).symm
theorem mem_mv (hf : Fit ks bs) {t : Nat} (ht : t < 24) (s : Pt) {i : Nat} (hi : i < bs.length) {p : Pt} : p ∈ bcells ks (brkAt (movedL t s bs) i) ↔ ∃ c ∈ bcells ks (brkAt bs i), mvP t s c = p := by
  rw [bcells_mv hf ht s hi, (sortP_perm _).mem_iff, List.mem_map]
theorem len_mv (hf : Fit ks bs) {t : Nat} (ht : t < 24) (s : Pt) {i : Nat} (hi : i < bs.length) : (bcells ks (brkAt (movedL t s bs) i)).length = (bcells ks (brkAt bs i)).length := by
  rw [bcells_mv hf ht s hi, sortP_len, List.length_map]
theorem check_mv (hf : Fit ks bs) (h : checkErr ks bs = 0) {t : Nat} (ht : t < 24) (s : Pt) (hB : bricksB ks.length (movedL t s bs) = true) : checkErr ks (movedL t s bs) = 0 := by
  have hm := check_model h
  have hk : kindsErr ks = 0 := by
    by_cases h0 : kindsErr ks = 0
    · exact h0
    · rw [modelErr_kinds h0] at hm
      exact hm
  refine checkErr_nil ?_ ?_
  · rw [modelErr, if_pos hk, if_neg (by rw [movedL_len]; have := hf.n; omega), if_pos hB]
  · rw [List.eq_nil_iff_forall_not_mem]
    intro p hp
    obtain ⟨i, k, -, hik, hkl, hc⟩ := mem_overL.1 hp
    rw [movedL_len] at hkl
    obtain ⟨c, h1, h2⟩ := commonB_iff.1 hc
    obtain ⟨c1, m1, e1⟩ := (mem_mv hf ht s (by omega)).1 h1
    obtain ⟨c2, m2, e2⟩ := (mem_mv hf ht s hkl).1 h2
    have := mvP_inj ht (e1.trans e2.symm)
    subst this
    have := hf.o i k (by omega) hkl c1 m1 m2
    omega
theorem Fit.six (hf : Fit ks bs) {j q : Nat} (hj : j < bs.length) (hq : q < (bknobs ks (brkAt bs j)).length) : (knbAt (bknobs ks (brkAt bs j)) q).six := ⟨(hf.dir hj hq).1, (hf.dir hj hq).2.1⟩
theorem linkL_mv (hf : Fit ks bs) {t : Nat} (ht : t < 24) (s : Pt) : linkL ks (movedL t s bs) = linkL ks bs := by
  unfold linkL lkA
  rw [movedL_len]
  refine flat_congr fun a ha => ?_
  have ha := List.mem_range.1 ha
  unfold lkB
  refine flat_congr fun b hb => ?_
  have hb := List.mem_range.1 hb
  rw [bknobs_mv hf ht s ha, bknobs_mv hf ht s hb, List.length_map]
  split
  · unfold lkI
    rw [List.length_map]
    refine flat_congr fun i hi => ?_
    have hi := List.mem_range.1 hi
    unfold lkC
    refine filterMap_same fun k hk => ?_
    have hk := List.mem_range.1 hk
    rw [knbAt_map hi, knbAt_map hk, meetB_move ht s (hf.six ha hi) (hf.six hb hk)]
    rfl
  · rfl
theorem knobAt_mv (hf : Fit ks bs) {t : Nat} (ht : t < 24) (s : Pt) {i q : Nat} (hi : i < bs.length) (hq : q < (bknobs ks (brkAt bs i)).length) : knobAt ks (movedL t s bs) i q = knobT t s (knobAt ks bs i q) := by
  unfold knobAt
  rw [bknobs_mv hf ht s hi, knbAt_map hq]
/-- A joint, turned: only its axis changes. -/
def turnA (t : Nat) (a : Int) : Int := if a = 0 then 0 else ((dirT (2 * a - 2).toNat t / 2 : Nat) : Int) + 1
def turnJ (t : Nat) (j : Jnt) : Jnt := ⟨j.a, j.b, j.strength, turnA t j.axis, j.slides⟩
theorem turnA_zero {t : Nat} {a : Int} : turnA t a = 0 ↔ a = 0 := by
  unfold turnA
  split
  · omega
  · constructor
    · intro h
      omega
    · intro h
      omega
theorem turnA_dir {t d : Nat} (ht : t < 24) (hd : d < 6) : turnA t ((d : Int) / 2 + 1) = ((dirT d t : Nat) : Int) / 2 + 1 := by
  unfold turnA
  rw [if_neg (by omega), show (2 * ((d : Int) / 2 + 1) - 2).toNat = 2 * (d / 2) by omega, dirT_even d hd t ht]
  omega
theorem joinJ_mv (hf : Fit ks bs) {t : Nat} (ht : t < 24) (s : Pt) {l : List Lnk} (ho : OfPair ks bs l) : joinJ ks (movedL t s bs) l = turnJ t (joinJ ks bs l) := by
  have hx := ho.m _ (lnkAt_mem ho.ne)
  obtain ⟨x, hxe⟩ : ∃ x, lnkAt l 0 = x := ⟨_, rfl⟩
  have hm := ho.m
  rw [hxe] at hx hm
  have hxa : x.a < bs.length := Nat.lt_trans hx.1.ab hx.1.b
  have hxk := knobAt_mv hf ht s hxa hx.1.k
  have h6 := hf.six hxa hx.1.k
  have hall : (l.take l.length).all (lineOk ks (movedL t s bs) x) = (l.take l.length).all (lineOk ks bs x) := by
    rw [Bool.eq_iff_iff, List.all_eq_true, List.all_eq_true]
    have key : ∀ y ∈ l, lineOk ks (movedL t s bs) x y = lineOk ks bs x y := fun y hy => by
      obtain ⟨hy1, hy2, hy3⟩ := hm y hy
      unfold lineOk
      have k1 := hy1.k
      have k2 := hy1.o
      have k3 := hy1.b
      rw [hy2] at k1
      rw [hy3] at k2 k3
      rw [hxk, knobAt_mv hf ht s hxa k1, knobAt_mv hf ht s k3 k2]
      unfold knobAt at *
      rw [lineB_move ht s h6 (hf.six hxa k1), lineB_move ht s h6 (hf.six k3 k2)]
    rw [List.take_length]
    exact ⟨fun h y hy => (key y hy).symm.trans (h y hy), fun h y hy => (key y hy).trans (h y hy)⟩
  obtain ⟨d, hd, hd6⟩ := Knb.six.nat (x := knobAt ks bs x.a x.knob) h6
  unfold joinJ
  rw [hxe]
  have hmid : midJ ks (movedL t s bs) x l l.length = turnJ t (midJ ks bs x l l.length) := by
    unfold midJ turnJ
    simp only [Jnt.mk.injEq, true_and, and_true]
    rw [hall, hxk]
    split
    · unfold knobT
      simp only [hd, Int.toNat_natCast]
      rw [turnA_dir ht hd6]
    · rfl
  rw [hmid]
  unfold endJ turnJ
  simp only [Jnt.mk.injEq, true_and]
  have : (turnA t (midJ ks bs x l l.length).axis ≠ 0) ↔ (midJ ks bs x l l.length).axis ≠ 0 := not_congr turnA_zero
  rw [decide_eq_decide.2 this]
theorem jointL_mv (hf : Fit ks bs) {t : Nat} (ht : t < 24) (s : Pt) : jointL ks (movedL t s bs) = (jointL ks bs).map (turnJ t) := by
  unfold jointL
  rw [linkL_mv hf ht s]
  unfold pj
  rw [List.map_filterMap]
  refine filterMap_same fun i hi => ?_
  have hi := List.mem_range.1 hi
  unfold jntAt
  split
  · rfl
  · show some _ = some _
    rw [joinJ_mv hf ht s (ofPair_filter (lnkAt_mem hi))]
end
end Go.Proofs.YtjacbhomhjoolaaGreat
namespace Go.Proofs.YtjacbhomhjoolaaGreat
open Go.RowKit

theorem SliceIs.setA {w : World} {g : Nat} {t : TypeId} {cs : Array Value} {n cap sz : Nat} {rows : List (List Value)} (h : SliceIs w (some ⟨g, 0, none⟩) n cap sz rows) (hB : Blk w g t cs) {i j : Nat} {r : List Value} (hr : rows[i]? = some r) (hj : j < sz) (u : Value) :
    SliceIs (w.setCell ⟨g, i * sz + j, none⟩ u) (some ⟨g, 0, none⟩) n cap sz (rows.set i (r.set j u)) := by
  have hB' := hB.set_ (i * sz + j) u
  refine ⟨by rw [List.length_set]; exact h.len, h.le, h.small, fun q hq => ?_, fun hn => ⟨g, 0, rfl, hB'.lt, fun i' r' hr' j' u' hu' => ?_⟩⟩
  · rcases List.mem_or_eq_of_mem_set hq with h' | rfl
    · exact h.wide q h'
    · rw [List.length_set]
      exact h.wide r (List.mem_of_getElem? hr)
  · obtain ⟨b, off, hA, _, hc⟩ := h.cells hn
    cases hA
    rw [Nat.zero_add, hB'.cell]
    have hlt : i < rows.length := (List.getElem?_eq_some_iff.1 hr).1
    have hold : ∀ {i' : Nat} {r' : List Value}, rows[i']? = some r' → ∀ {j' : Nat} {u' : Value}, r'[j']? = some u' → cs[i' * sz + j']? = some u' := fun {i'} {r'} hr' {j'} {u'} hu' => by
      have := hc i' r' hr' j' u' hu'
      rw [Nat.zero_add, hB.cell] at this
      exact this
    have hwr := h.wide r (List.mem_of_getElem? hr)
    rw [List.getElem?_set] at hr'
    by_cases hi : i = i'
    · subst hi
      rw [if_pos rfl, if_pos hlt] at hr'
      cases hr'
      rw [List.getElem?_set] at hu'
      by_cases hjj : j = j'
      · subst hjj
        rw [if_pos rfl, if_pos (by omega)] at hu'
        cases hu'
        have hz := hold hr (List.getElem?_eq_getElem (show j < r.length by omega))
        have hin := (Array.getElem?_eq_some_iff.1 hz).1
        simp [hin]
      · rw [if_neg hjj] at hu'
        rw [Array.getElem?_setIfInBounds, if_neg (by omega)]
        exact hold hr hu'
    · rw [if_neg hi] at hr'
      have hw' := h.wide r' (List.mem_of_getElem? hr')
      have hj' : j' < sz := by rw [← hw']; exact (List.getElem?_eq_some_iff.1 hu').1
      rw [Array.getElem?_setIfInBounds, if_neg]
      · exact hold hr' hu'
      · intro e
        rcases Nat.lt_or_gt_of_ne hi with h1 | h1
        · have : (i + 1) * sz ≤ i' * sz := Nat.mul_le_mul_right _ h1
          rw [Nat.succ_mul] at this
          omega
        · have : (i' + 1) * sz ≤ i * sz := Nat.mul_le_mul_right _ h1
          rw [Nat.succ_mul] at this
          omega
/-- A joint without its axis. -/
def zeroJ (j : Jnt) : Jnt := ⟨j.a, j.b, j.strength, 0, j.slides⟩
def zeroed (J : List Jnt) (k : Nat) : List Jnt := (J.take k).map zeroJ ++ J.drop k
theorem zeroed_zero (J : List Jnt) : zeroed J 0 = J := rfl
theorem zeroed_len (J : List Jnt) (k : Nat) : (zeroed J k).length = J.length := by
  unfold zeroed
  rw [List.length_append, List.length_map, List.length_take, List.length_drop]
  omega
theorem zeroed_all (J : List Jnt) : zeroed J J.length = J.map zeroJ := by
  unfold zeroed
  rw [List.take_length, List.drop_length, List.append_nil]
theorem zeroed_at {J : List Jnt} {k : Nat} (hk : k < J.length) : (zeroed J k)[k]? = some (jntGet J k) := by
  unfold zeroed
  have hl : ((J.take k).map zeroJ).length = k := by rw [List.length_map, List.length_take]; omega
  rw [List.getElem?_append_right (by omega), hl, Nat.sub_self, List.getElem?_drop, Nat.add_zero]
  exact jntGet_get hk
theorem zeroed_next {J : List Jnt} {k : Nat} (hk : k < J.length) : (zeroed J k).set k (zeroJ (jntGet J k)) = zeroed J (k + 1) := by
  unfold zeroed
  have hl : ((J.take k).map zeroJ).length = k := by rw [List.length_map, List.length_take]; omega
  have h1 : J.drop k = jntGet J k :: J.drop (k + 1) := by
    rw [List.drop_eq_getElem_cons hk]
    have := jntGet_get hk
    rw [List.getElem?_eq_getElem hk] at this
    rw [Option.some.inj this]
  rw [List.set_append_right _ _ (by omega), hl, Nat.sub_self, h1, List.set_cons_zero, List.take_add_one, jntGet_get hk, Option.toList_some, List.map_append, List.append_assoc]
  rfl
theorem zeroed_cs {J : List Jnt} {k : Nat} (hk : k < J.length) : ((zeroed J k).map Jnt.cs).set k ((jntGet J k).cs.set 3 (.int .u8 0)) = (zeroed J (k + 1)).map Jnt.cs := by
  rw [← zeroed_next hk, List.map_set]
  rfl
theorem zeroed_get {J : List Jnt} {k : Nat} (hk : k < J.length) : jntGet (zeroed J k) k = jntGet J k := by
  have h := jntGet_get (l := zeroed J k) (i := k) (by rw [zeroed_len]; exact hk)
  rw [zeroed_at hk] at h
  exact (Option.some.inj h).symm
theorem zero_turn (t : Nat) (J : List Jnt) : (J.map (turnJ t)).map zeroJ = J.map zeroJ := by
  rw [List.map_map]
  rfl
theorem turn_get {t : Nat} {J : List Jnt} {k : Nat} (hk : k < J.length) : jntGet (J.map (turnJ t)) k = turnJ t (jntGet J k) := by
  have h := jntGet_get (l := J.map (turnJ t)) (i := k) (by rw [List.length_map]; exact hk)
  rw [List.getElem?_map, jntGet_get hk] at h
  exact (Option.some.inj h).symm
/-- A row of joints in a block of its own, of which the first k have no axis. -/
structure ZRow (w : World) (g n cap : Nat) (l : List Jnt) : Prop where
  s : Jnts w (some ⟨g, 0, none⟩) cap l
  b : ∃ cs, Blk w g 44 cs
  n : l.length = n
theorem ZRow.next {w : World} {g n cap : Nat} {J : List Jnt} {k : Nat} (h : ZRow w g n cap (zeroed J k)) (hk : k < J.length) : ZRow (w.setCell ⟨g, k * 5 + 3, none⟩ (.int .u8 0)) g n cap (zeroed J (k + 1)) := by
  obtain ⟨cs, hb⟩ := h.b
  have hr : ((zeroed J k).map Jnt.cs)[k]? = some (jntGet J k).cs := by rw [List.getElem?_map, zeroed_at hk]; rfl
  have h1 := SliceIs.setA h.s hb hr (j := 3) (by omega) (.int .u8 0)
  rw [zeroed_cs hk, zeroed_len] at h1
  have hn := h.n
  rw [zeroed_len] at hn
  refine ⟨?_, ⟨_, hb.set_ _ _⟩, by rw [zeroed_len]; exact hn⟩
  show SliceIs _ _ _ _ _ _
  rw [zeroed_len]
  exact h1
theorem ZRow.far {w : World} {g n cap : Nat} {l : List Jnt} (h : ZRow w g n cap l) {p : Addr} (hp : g ≠ p.block) (u : Value) : ZRow (w.setCell p u) g n cap l := by
  obtain ⟨cs, hb⟩ := h.b
  exact ⟨SliceIs.only h.s ((Only.refl (fun k => k = p.block) w).setCell (fun _ => rfl) u) (fun q hq => by cases hq; exact hp), ⟨cs, hb.far hp u⟩, h.n⟩
theorem ZRow.ext {w w' : World} {g n cap : Nat} {l : List Jnt} (h : ZRow w g n cap l) (E : Ext w w') : ZRow w' g n cap l := ⟨h.s.ext E, let ⟨cs, hb⟩ := h.b; ⟨cs, hb.ext E⟩, h.n⟩
end Go.Proofs.YtjacbhomhjoolaaGreat
