/- Texts of another chapter in a namespace of their own (printed by lat.py). -/
import Derived.Test.YtaaeapjnjjbglaaGreatDoorCd16
import Derived.Test.YtaaeapjnjjbglaaGreatDoorCd17
import Derived.Test.YtaaeapjnjjbglaaGreatDoorCd19
import Derived.Test.YtaaeapjnjjbglaaGreatDoorCd20
import Derived.Test.YtaaeapjnjjbglaaGreatDoorCd23
import Derived.Test.YtaaeapjnjjbglaaGreatDoorCd24
import Derived.Test.YtaaeapjnjjbglaaGreatDoorCd25
import Derived.Shelf.SlLaysF0
import Derived.Test.YtaaeapjnjjbglaaGreatDoorProg

-- holds: Api1 BrickB BrickM CellsP CheckKind CheckM Compose Composed GroupS Has Inverse KindS KnobsP Like LikeS LinkS Near NumX Ord OvM OvN OvWalk Overlaps Ovl OvlS PairKey RKind RKnobbed RLikeW ROver RPlaced RSorted RValidKind SameI SameL SameM Sort2 Sort2Laid SortC SortLaid SortNil Step Turn TurnD Turned Turners Which
namespace Go.Proofs.YtaaeapjnjjbglaaGreatDoor.Lat
open Go.RowKit

theorem rotZ_inj {p q : Pt} (h : rotZ p = rotZ q) : p = q := by
  obtain ⟨a, b, c⟩ := p
  obtain ⟨d, e, f⟩ := q
  unfold rotZ at h
  simp only [Pt.mk.injEq] at h ⊢
  omega
theorem rotZn_inj {p q : Pt} : ∀ n, rotZn p n = rotZn q n → p = q
  | 0, h => h
  | n + 1, h => rotZn_inj n (rotZ_inj h)
theorem turnQ_inj {p q : Pt} (n : Nat) (h : turnQ p n = turnQ q n) : p = q := by
  obtain ⟨a, b, c⟩ := p
  obtain ⟨d, e, f⟩ := q
  unfold turnQ at h
  split at h <;> simp only [Pt.mk.injEq] at h ⊢ <;> omega
theorem turnS_inj {p q : Pt} (n : Nat) (h : turnS p n = turnS q n) : p = q := rotZn_inj _ (turnQ_inj _ h)
theorem addP_inj {p q r : Pt} (h : addP p r = addP q r) : p = q := by
  obtain ⟨a, b, c⟩ := p
  obtain ⟨d, e, f⟩ := q
  unfold addP at h
  simp only [Pt.mk.injEq] at h ⊢
  omega
theorem placeP_nodup {l : List Pt} (h : l.Nodup) (n : Nat) (p : Pt) : (placeP l n p).Nodup := by
  unfold placeP
  rw [List.Nodup, List.pairwise_map]
  exact h.imp fun hne e => hne (turnS_inj n (addP_inj e))
theorem cells_nodup {l : List Pt} (h : cellsB l = true) : l.Nodup := by
  have step : ∀ i, i + 1 < l.length → ltP (ptAt l i) (ptAt l (i + 1)) = true := fun i hi => by
    have := allR_at h hi
    unfold cellOk at this
    rw [Bool.and_eq_true, Bool.or_eq_true] at this
    rcases this.2 with h' | h'
    · exact absurd (of_decide_eq_true h') (by omega)
    · exact h'
  have far : ∀ d i, i + d + 1 < l.length → ltP (ptAt l i) (ptAt l (i + d + 1)) = true := by
    intro d
    induction d with
    | zero => exact fun i hi => step i hi
    | succ d ih => exact fun i hi => ltP_trans (ih i (by omega)) (step (i + d + 1) hi)
  rw [List.Nodup, List.pairwise_iff_getElem]
  intro i j hi hj hij e
  have := far (j - i - 1) i (by omega)
  rw [show i + (j - i - 1) + 1 = j by omega, ptAt_eq (List.getElem?_eq_getElem hi), ptAt_eq (List.getElem?_eq_getElem hj), e, ltP_irrefl] at this
  cases this
theorem bcells_nodup {w : World} {QA : Option Addr} {qc : Nat} {qs : List (Knd × KAt)} (hk : Kinds w QA qc qs) {bs : List Brk} (hb : ∀ b ∈ bs, b.byte) (h : modelErr (qs.map (·.1)) bs = 0) {b : Brk} (hm : b ∈ bs) : (bcells (qs.map (·.1)) b).Nodup := by
  have hf := mfine_of hk hb h
  obtain ⟨i, tn, k, p, e1, e2, -, hi, -, -, -⟩ := hf.b b hm
  rw [bcells_is e1 e2 hi]
  have h0 : kindsErr (qs.map (·.1)) = 0 := by
    by_cases h0 : kindsErr (qs.map (·.1)) = 0
    · exact h0
    · rw [modelErr_kinds h0] at h
      exact h
  have hv := kindsErr_valid h0 (List.mem_map.2 ⟨_, List.mem_of_getElem? hi, rfl⟩)
  unfold Knd.valid at hv
  simp only [Bool.and_eq_true] at hv
  exact (sortP_perm _).nodup_iff.2 (placeP_nodup (cells_nodup hv.2.1) _ _)
/-- The bricks before j that hold a cell. -/
def inA (ks : List Knd) (bs : List Brk) (j : Nat) (c : Pt) : List Int := ((List.range j).filter fun i => hasP (bcells ks (brkAt bs i)) c).map fun (i : Nat) => (i : Int)
/-- The same, with j itself where c is among its first q cells. -/
def inF (ks : List Knd) (bs : List Brk) (j q : Nat) (c : Pt) : List Int := inA ks bs j c ++ if hasP ((bcells ks (brkAt bs j)).take q) c then [(j : Int)] else []
theorem inF_zero (ks : List Knd) (bs : List Brk) (j : Nat) (c : Pt) : inF ks bs j 0 c = inA ks bs j c := by
  unfold inF
  rw [List.take_zero, if_neg (by rw [hasP_iff]; simp), List.append_nil]
theorem inF_all (ks : List Knd) (bs : List Brk) (j : Nat) (c : Pt) : inF ks bs j (bcells ks (brkAt bs j)).length c = inA ks bs (j + 1) c := by
  unfold inF inA
  rw [List.take_length, List.range_succ, List.filter_append, List.map_append]
  congr 1
  cases h : hasP (bcells ks (brkAt bs j)) c
  · simp [h]
  · simp [h]
theorem inF_step {ks : List Knd} {bs : List Brk} {j q : Nat} {c : Pt} (hc : (bcells ks (brkAt bs j))[q]? = some c) (hn : (bcells ks (brkAt bs j)).Nodup) (d : Pt) : inF ks bs j (q + 1) d = if d = c then inF ks bs j q c ++ [(j : Int)] else inF ks bs j q d := by
  unfold inF
  rw [List.take_add_one, hc]
  by_cases hd : d = c
  · subst hd
    have h0 : hasP ((bcells ks (brkAt bs j)).take q) d = false := by
      rw [← Bool.not_eq_true, hasP_iff]
      intro hm
      obtain ⟨i, hi⟩ := List.getElem?_of_mem hm
      have hiq : i < q := by
        have := (List.getElem?_eq_some_iff.1 hi).1
        rw [List.length_take] at this
        omega
      rw [List.getElem?_take_of_lt hiq] at hi
      obtain ⟨h1, e1⟩ := List.getElem?_eq_some_iff.1 hi
      obtain ⟨h2, e2⟩ := List.getElem?_eq_some_iff.1 hc
      exact List.pairwise_iff_getElem.1 hn i q h1 h2 hiq (by rw [e1, e2])
    have h1 : hasP ((bcells ks (brkAt bs j)).take q ++ (some d).toList) d = true := by
      rw [hasP_iff]
      simp
    rw [if_pos rfl, h0, h1]
    simp
  · rw [if_neg hd]
    congr 2
    rw [Bool.eq_iff_iff, hasP_iff, hasP_iff]
    simp [hd]
theorem inA_mem {ks : List Knd} {bs : List Brk} {j : Nat} {c : Pt} {x : Int} : x ∈ inA ks bs j c ↔ ∃ k : Nat, x = k ∧ k < j ∧ c ∈ bcells ks (brkAt bs k) := by
  unfold inA
  rw [List.mem_map]
  constructor
  · rintro ⟨k, hk, rfl⟩
    obtain ⟨h1, h2⟩ := List.mem_filter.1 hk
    exact ⟨k, rfl, List.mem_range.1 h1, hasP_iff.1 h2⟩
  · rintro ⟨k, rfl, h1, h2⟩
    exact ⟨k, List.mem_filter.2 ⟨List.mem_range.2 h1, hasP_iff.2 h2⟩, rfl⟩
theorem inA_len (ks : List Knd) (bs : List Brk) (j : Nat) (c : Pt) : (inA ks bs j c).length ≤ j := by
  unfold inA
  rw [List.length_map]
  exact Nat.le_trans (List.length_filter_le _ _) (by simp)
theorem inF_len (ks : List Knd) (bs : List Brk) (j q : Nat) (c : Pt) : (inF ks bs j q c).length ≤ j + 1 := by
  unfold inF
  rw [List.length_append]
  have := inA_len ks bs j c
  split <;> simp <;> omega
/-! Which pairs are there. -/
def P0 (ks : List Knd) (bs : List Brk) (j : Nat) (p : Int × Int) : Prop := ∃ k i : Nat, p = ((k : Int), (i : Int)) ∧ k < i ∧ i < j ∧ overB ks bs k i = true
def P1 (ks : List Knd) (bs : List Brk) (j q : Nat) (p : Int × Int) : Prop := P0 ks bs j p ∨ ∃ k : Nat, p = ((k : Int), (j : Int)) ∧ k < j ∧ ∃ c, c ∈ (bcells ks (brkAt bs j)).take q ∧ c ∈ bcells ks (brkAt bs k)
def P2 (ks : List Knd) (bs : List Brk) (j q : Nat) (l : List Int) (t : Nat) (p : Int × Int) : Prop := P1 ks bs j q p ∨ ∃ x, x ∈ l.take t ∧ p = (x, (j : Int))
theorem P1_zero {ks : List Knd} {bs : List Brk} {j : Nat} {p : Int × Int} : P1 ks bs j 0 p ↔ P0 ks bs j p := by
  unfold P1
  constructor
  · rintro (h | ⟨k, -, -, c, hc, -⟩)
    · exact h
    · simp at hc
  · exact Or.inl
theorem P1_all {ks : List Knd} {bs : List Brk} {j : Nat} {p : Int × Int} : P1 ks bs j (bcells ks (brkAt bs j)).length p ↔ P0 ks bs (j + 1) p := by
  unfold P1 P0
  rw [List.take_length]
  constructor
  · rintro (⟨k, i, h1, h2, h3, h4⟩ | ⟨k, h1, h2, c, h3, h4⟩)
    · exact ⟨k, i, h1, h2, by omega, h4⟩
    · exact ⟨k, j, h1, h2, by omega, commonB_iff.2 ⟨c, h4, h3⟩⟩
  · rintro ⟨k, i, h1, h2, h3, h4⟩
    rcases Nat.lt_or_ge i j with h5 | h5
    · exact Or.inl ⟨k, i, h1, h2, h5, h4⟩
    · obtain rfl : i = j := by omega
      obtain ⟨c, h6, h7⟩ := commonB_iff.1 h4
      exact Or.inr ⟨k, h1, h2, c, h7, h6⟩
theorem P2_zero {ks : List Knd} {bs : List Brk} {j q : Nat} {l : List Int} {p : Int × Int} : P2 ks bs j q l 0 p ↔ P1 ks bs j q p := by
  unfold P2
  simp
theorem P2_succ {ks : List Knd} {bs : List Brk} {j q : Nat} {l : List Int} {t : Nat} {x : Int} (hx : l[t]? = some x) {p : Int × Int} : P2 ks bs j q l (t + 1) p ↔ P2 ks bs j q l t p ∨ p = (x, (j : Int)) := by
  unfold P2
  rw [List.take_add_one, hx]
  constructor
  · rintro (h | ⟨y, h1, h2⟩)
    · exact Or.inl (Or.inl h)
    · simp only [Option.toList_some, List.mem_append, List.mem_singleton] at h1
      rcases h1 with h1 | rfl
      · exact Or.inl (Or.inr ⟨y, h1, h2⟩)
      · exact Or.inr h2
  · rintro ((h | ⟨y, h1, h2⟩) | h)
    · exact Or.inl h
    · exact Or.inr ⟨y, List.mem_append.2 (Or.inl h1), h2⟩
    · exact Or.inr ⟨x, List.mem_append.2 (Or.inr (by simp)), h⟩
theorem P2_all {ks : List Knd} {bs : List Brk} {j q : Nat} {c : Pt} (hc : (bcells ks (brkAt bs j))[q]? = some c) {l : List Int} (hl : l = inA ks bs j c) {p : Int × Int} : P2 ks bs j q l l.length p ↔ P1 ks bs j (q + 1) p := by
  unfold P2 P1
  rw [List.take_length, List.take_add_one, hc]
  constructor
  · rintro ((h | ⟨k, h1, h2, d, h3, h4⟩) | ⟨x, h1, h2⟩)
    · exact Or.inl h
    · exact Or.inr ⟨k, h1, h2, d, List.mem_append.2 (Or.inl h3), h4⟩
    · rw [hl] at h1
      obtain ⟨k, rfl, h3, h4⟩ := inA_mem.1 h1
      exact Or.inr ⟨k, h2, h3, c, List.mem_append.2 (Or.inr (by simp)), h4⟩
  · rintro (h | ⟨k, h1, h2, d, h3, h4⟩)
    · exact Or.inl (Or.inl h)
    · simp only [Option.toList_some, List.mem_append, List.mem_singleton] at h3
      rcases h3 with h3 | rfl
      · exact Or.inl (Or.inr ⟨k, h1, h2, d, h3, h4⟩)
      · exact Or.inr ⟨k, by rw [hl]; exact inA_mem.2 ⟨k, rfl, h2, h4⟩, h1⟩
theorem mem_overL {ks : List Knd} {bs : List Brk} {p : Int × Int} : p ∈ overL ks bs bs.length ↔ P0 ks bs bs.length p := by
  unfold overL P0 rowO
  rw [List.mem_flatMap]
  constructor
  · rintro ⟨k, h1, h2⟩
    obtain ⟨i, h3, rfl⟩ := List.mem_map.1 h2
    obtain ⟨h4, h5⟩ := List.mem_filter.1 h3
    rw [Bool.and_eq_true, decide_eq_true_eq] at h5
    exact ⟨k, i, rfl, h5.1, List.mem_range.1 h4, h5.2⟩
  · rintro ⟨k, i, rfl, h1, h2, h3⟩
    exact ⟨k, List.mem_range.2 (by omega), List.mem_map.2 ⟨i, List.mem_filter.2 ⟨List.mem_range.2 h2, by rw [Bool.and_eq_true, decide_eq_true_eq]; exact ⟨h1, h3⟩⟩, rfl⟩⟩
end Go.Proofs.YtaaeapjnjjbglaaGreatDoor.Lat
namespace Go.Proofs.YtaaeapjnjjbglaaGreatDoor.Lat
open Go.Shelf

def sortPairs_ren : Go.Shelf.Ren := ⟨fun | 6 => 58 | 15 => 77 | 14 => 80 | 28 => 102 | 29 => 103 | 20 => 105 | 21 => 106 | 22 => 107 | 23 => 108 | 24 => 109 | 25 => 110 | 26 => 111 | 27 => 112 | 46 => 127 | 47 => 115 | 48 => 116 | 49 => 128 | 50 => 129 | 57 => 134 | n => n, fun | 22 => 86 | 24 => 133 | 25 => 136 | 3 => 3 | 39 => 159 | 0 => 0 | 53 => 106 | 55 => 183 | 4 => 4 | 46 => 177 | 45 => 176 | 50 => 142 | 5 => 5 | 9 => 9 | 66 => 191 | 70 => 195 | 76 => 204 | 77 => 205 | n => n, fun | n => n⟩
theorem sortPairs : SlLaysF0.n6 Tryz.prog sortPairs_ren := {
  mixed := by kernel_rfl,
  f6 := ⟨Tryz.f58.name, by decide, Tryz.func58.trans (congrArg some (by kernel_rfl))⟩,
  f14 := ⟨Tryz.f80.name, by decide, Tryz.func80.trans (congrArg some (by kernel_rfl))⟩,
  f15 := Tryz.func77.trans (congrArg some (by kernel_rfl)),
  f20 := ⟨Tryz.f105.name, by decide, Tryz.func105.trans (congrArg some (by kernel_rfl))⟩,
  f21 := ⟨Tryz.f106.name, by decide, Tryz.func106.trans (congrArg some (by kernel_rfl))⟩,
  f22 := ⟨Tryz.f107.name, by decide, Tryz.func107.trans (congrArg some (by kernel_rfl))⟩,
  f23 := ⟨Tryz.f108.name, by decide, Tryz.func108.trans (congrArg some (by kernel_rfl))⟩,
  f24 := ⟨Tryz.f109.name, by decide, Tryz.func109.trans (congrArg some (by kernel_rfl))⟩,
  f25 := ⟨Tryz.f110.name, by decide, Tryz.func110.trans (congrArg some (by kernel_rfl))⟩,
  f26 := ⟨Tryz.f111.name, by decide, Tryz.func111.trans (congrArg some (by kernel_rfl))⟩,
  f27 := ⟨Tryz.f112.name, by decide, Tryz.func112.trans (congrArg some (by kernel_rfl))⟩,
  f28 := Tryz.func102.trans (congrArg some (by kernel_rfl)),
  f29 := Tryz.func103.trans (congrArg some (by kernel_rfl)),
  f46 := ⟨Tryz.f127.name, by decide, Tryz.func127.trans (congrArg some (by kernel_rfl))⟩,
  f47 := Tryz.func115.trans (congrArg some (by kernel_rfl)),
  f48 := Tryz.func116.trans (congrArg some (by kernel_rfl)),
  f49 := ⟨Tryz.f128.name, by decide, Tryz.func128.trans (congrArg some (by kernel_rfl))⟩,
  f50 := ⟨Tryz.f129.name, by decide, Tryz.func129.trans (congrArg some (by kernel_rfl))⟩,
  f57 := ⟨Tryz.f134.name, by decide, Tryz.func134.trans (congrArg some (by kernel_rfl))⟩,
  t0 := Tryz.underlying0,
  a0 := Tryz.isAgg0,
  z0 := Tryz.sizeOf0,
  v0 := Tryz.zeroValue0,
  t3 := Tryz.underlying3,
  a3 := Tryz.isAgg3,
  z3 := Tryz.sizeOf3,
  v3 := Tryz.zeroValue3,
  t4 := Tryz.underlying4,
  a4 := Tryz.isAgg4,
  z4 := Tryz.sizeOf4,
  v4 := Tryz.zeroValue4,
  t5 := Tryz.underlying5,
  a5 := Tryz.isAgg5,
  z5 := Tryz.sizeOf5,
  v5 := Tryz.zeroValue5,
  t9 := Tryz.underlying9,
  a9 := Tryz.isAgg9,
  z9 := Tryz.sizeOf9,
  v9 := Tryz.zeroValue9,
  t22 := Tryz.underlying86,
  a22 := Tryz.isAgg86,
  z22 := Tryz.sizeOf86,
  v22 := Tryz.zeroValue86,
  t25 := Tryz.underlying136,
  a25 := Tryz.isAgg136,
  z25 := Tryz.sizeOf136,
  v25 := Tryz.zeroValue136,
  t39 := Tryz.underlying159,
  a39 := Tryz.isAgg159,
  z39 := Tryz.sizeOf159,
  v39 := Tryz.zeroValue159,
  t45 := Tryz.underlying176,
  a45 := Tryz.isAgg176,
  z45 := Tryz.sizeOf176,
  v45 := Tryz.zeroValue176,
  t46 := Tryz.underlying177,
  a46 := Tryz.isAgg177,
  z46 := Tryz.sizeOf177,
  v46 := Tryz.zeroValue177,
  t50 := Tryz.underlying142,
  a50 := Tryz.isAgg142,
  z50 := Tryz.sizeOf142,
  v50 := Tryz.zeroValue142,
  t53 := Tryz.underlying106,
  a53 := Tryz.isAgg106,
  z53 := Tryz.sizeOf106,
  v53 := Tryz.zeroValue106,
  t55 := Tryz.underlying183,
  a55 := Tryz.isAgg183,
  z55 := Tryz.sizeOf183,
  v55 := Tryz.zeroValue183,
  t66 := Tryz.underlying191,
  a66 := Tryz.isAgg191,
  z66 := Tryz.sizeOf191,
  v66 := Tryz.zeroValue191,
  t70 := Tryz.underlying195,
  a70 := Tryz.isAgg195,
  z70 := Tryz.sizeOf195,
  v70 := Tryz.zeroValue195,
  t76 := Tryz.underlying204,
  a76 := Tryz.isAgg204,
  z76 := Tryz.sizeOf204,
  v76 := Tryz.zeroValue204,
  t77 := Tryz.underlying205,
  a77 := Tryz.isAgg205,
  z77 := Tryz.sizeOf205,
  v77 := Tryz.zeroValue205 }
end Go.Proofs.YtaaeapjnjjbglaaGreatDoor.Lat
namespace Go.Proofs.YtaaeapjnjjbglaaGreatDoor.Lat
open Go.RowKit

def ltR (x y : Int × Int) : Bool := decide (x.1 < y.1) || (decide (x.1 = y.1) && decide (x.2 < y.2))
def ordR (x y : Int × Int) : Int := if ordZ x.1 y.1 = 0 then ordZ x.2 y.2 else ordZ x.1 y.1
theorem ltR_iff {x y : Int × Int} : ltR x y = true ↔ x.1 < y.1 ∨ (x.1 = y.1 ∧ x.2 < y.2) := by
  simp [ltR]
theorem ltR_not {x y : Int × Int} : ltR x y = false ↔ ¬ (x.1 < y.1 ∨ (x.1 = y.1 ∧ x.2 < y.2)) := by
  rw [← Bool.not_eq_true, ltR_iff]
theorem ordR_neg (x y : Int × Int) : ordR x y < 0 ↔ ltR x y = true := by
  rw [ltR_iff]
  unfold ordR ordZ
  repeat' split
  all_goals omega
theorem ltOf_ordR : ltOf ordR = ltR := by
  funext x y
  unfold ltOf
  rw [Bool.eq_iff_iff, decide_eq_true_eq, ordR_neg]
theorem swoR : Go.Sort.SWO ltR where
  irrefl x := by rw [ltR_not]; omega
  trans x y z h k := by rw [ltR_iff] at *; omega
  ntrans x y z h k := by rw [ltR_not] at *; omega
theorem ltR_total (x y : Int × Int) (h : ltR x y = false) (k : ltR y x = false) : x = y := by
  rw [ltR_not] at h k
  exact Prod.ext (by omega) (by omega)
set_option maxHeartbeats 1600000 in
theorem compare2_c (g h : Nat) (a b c d : Int) (w : World) (a0 : w.cell? ⟨g, 0, none⟩ = some (.int .i64 a)) (a1 : w.cell? ⟨g, 1, none⟩ = some (.int .i64 b)) (c0 : w.cell? ⟨h, 0, none⟩ = some (.int .i64 c)) (c1 : w.cell? ⟨h, 1, none⟩ = some (.int .i64 d)) :
    Calls Tryz.prog 60 #[.slice (some ⟨g, 0, none⟩) 2 2, .slice (some ⟨h, 0, none⟩) 2 2] w fun e w' => e = .returned (.int .i64 (ordR (a, b) (c, d))) ∧ w = w' := by
  have C1 := cmpZ_c a c w
  have C2 := cmpZ_c b d w
  obtain ⟨r, hr⟩ : ∃ r, ordZ a c = r := ⟨_, rfl⟩
  obtain ⟨s, hs⟩ : ∃ s, ordZ b d = s := ⟨_, rfl⟩
  have Hres := Lib.hid (show ordR (a, b) (c, d) = if r = 0 then s else r by unfold ordR; rw [hr, hs])
  rw [hr] at C1
  rw [hs] at C2
  clear hr hs
  go_enter Tryz.func60, Tryz.ntmps60
  go_wp2_with fail
  go_loopw [11] (fun i wr => ∃ k : Nat, k ≤ 2 ∧ i = .int .i64 k ∧ wr = w ∧ (0 < k → r = 0) ∧ (1 < k → s = 0)) (fun i _ => 2 - (intOf i).toNat)
  case atStart => exact ⟨0, by omega, rfl, rfl, fun h => absurd h (by omega), fun h => absurd h (by omega)⟩
  case round =>
    obtain ⟨k, hk, rfl, rfl, h1, h2⟩ := hrel
    have hk3 : k = 0 ∨ k = 1 ∨ k = 2 := by omega
    rcases hk3 with rfl | rfl | rfl
    · clear h1 h2
      by_cases h0 : r = 0
      · have hb : (r != 0) = false := by simpa using h0
        go_wp2_with fail
        refine C1.mono ?_
        rintro e w1 ⟨rfl, rfl⟩
        go_wp2_with fail
        go_roundw
        case rel => exact ⟨1, by omega, by go_num, trivial, fun _ => h0, fun h => absurd h (by omega)⟩
        case measure => simp only [intOf]; omega
      · have hb : (r != 0) = true := by simpa using h0
        have Hv := Lib.hid (Hres.out.trans (if_neg h0))
        clear h0
        go_wp2_with fail
        refine C1.mono ?_
        rintro e w1 ⟨rfl, rfl⟩
        go_wp2_with fail
        go_ret
        exact ⟨by rw [Hv.out]; rfl, rfl⟩
    · have hr0 := h1 (by omega)
      have Hs := Lib.hid (Hres.out.trans (if_pos hr0))
      clear h1 h2
      by_cases h0 : s = 0
      · have hb : (s != 0) = false := by simpa using h0
        go_wp2_with fail
        refine C2.mono ?_
        rintro e w1 ⟨rfl, rfl⟩
        go_wp2_with fail
        go_roundw
        case rel => exact ⟨2, by omega, by go_num, trivial, fun _ => hr0, fun _ => h0⟩
        case measure => simp only [intOf]; omega
      · have hb : (s != 0) = true := by simpa using h0
        clear h0 hr0
        go_wp2_with fail
        refine C2.mono ?_
        rintro e w1 ⟨rfl, rfl⟩
        go_wp2_with fail
        go_ret
        exact ⟨by rw [Hs.out]; rfl, rfl⟩
    · have Hv := Lib.hid (Hres.out.trans ((if_pos (h1 (by omega))).trans (h2 (by omega))))
      clear h1 h2
      go_wp2_with fail
      go_ret
      exact ⟨by rw [Hv.out]; rfl, rfl⟩
set_option maxHeartbeats 1600000 in
theorem less_g (a b c d : Int) (w : World) :
    Calls Tryz.prog 59 #[.agg #[.int .i64 a, .int .i64 b], .agg #[.int .i64 c, .int .i64 d]] w fun v w' => v = .returned (.int .i64 (ordR (a, b) (c, d))) ∧ Grn w w' := by
  have hG := ((Grn.refl w).alloc (.cells #[.int .i64 a, .int .i64 b] 133)).alloc (.cells #[.int .i64 c, .int .i64 d] 133)
  obtain ⟨W1, hW1, E1, B1, hz1⟩ := mk_ w #[.int .i64 a, .int .i64 b] 133
  obtain ⟨W2, hW2, E2, B2, hz2⟩ := mk_ W1 #[.int .i64 c, .int .i64 d] 133
  rw [hW1, hW2] at hG
  have B1' := B1.ext E2
  rw [hz1] at B2
  have a0 := Go.cell_grown B1'.lt (B1'.cell 0)
  have a1 := Go.cell_grown B1'.lt (B1'.cell 1)
  have c0 := Go.cell_grown B2.lt (B2.cell 0)
  have c1 := Go.cell_grown B2.lt (B2.cell 1)
  go_enter Tryz.func59, Tryz.ntmps59
  go_upto_region 1 with (fail)
  clear hW1 hW2 hz1 hz2 B1 E1 E2 B1' B2
  refine wp_region_tailG 2 (by kernel_rfl) (by kernel_rfl) ?_
  simp only [List.take_succ_cons, List.take_zero, List.drop_succ_cons, List.drop_zero]
  repeat (go_big_quiet_step (fail))
  refine wpQuiet_nil ?_
  intro W3 hW3
  obtain ⟨p, hp⟩ := hW3
  have hG3 : Grn w W3 := by
    subst hp
    exact hG.trans ⟨p.n, p.os, rfl⟩
  have CC := compare2_c w.heap.size (w.heap.size + 1) a b c d W3 (by rw [hp, a0]; rfl) (by rw [hp, a1]; rfl) (by rw [hp, c0]; rfl) (by rw [hp, c1]; rfl)
  clear hp hG a0 a1 c0 c1
  go_wp2_with fail
  refine CC.mono ?_
  rintro e w4 ⟨rfl, rfl⟩
  go_wp2_with fail
  go_ret
  exact ⟨rfl, hG3⟩
theorem prs_wide (l : List (Int × Int)) : ∀ r ∈ l.map prC, r.length = 2 := fun r h => by
  obtain ⟨p, _, rfl⟩ := List.mem_map.1 h
  rfl
def sortR (l : List (Int × Int)) : List (Int × Int) := l.mergeSort fun x y => !ltR y x
theorem flatK_prs (l : List (Int × Int)) : Go.Sort.flatK prC 2 l.toArray = rowsA (l.map prC) := by
  refine rowsA_ext (prs_wide l) (by simp) fun i j r u hr hu => ?_
  rw [List.getElem?_map] at hr
  obtain ⟨p, hp, rfl⟩ := Option.map_eq_some_iff.1 hr
  obtain ⟨hi, hpi⟩ := List.getElem?_eq_some_iff.1 hp
  have hj : j < 2 := (List.getElem?_eq_some_iff.1 hu).1
  have hlt : i * 2 + j < l.toArray.size * 2 := by simp; omega
  rw [Array.getElem?_eq_getElem (by simpa using hlt), ← getElem!_pos, Go.Sort.get_flatK _ _ _ _ hlt, show (i * 2 + j) / 2 = i by omega, show (i * 2 + j) % 2 = j by omega, getElem!_pos l.toArray i (by simpa using hi)]
  have e1 : l.toArray[i]'(by simpa using hi) = p := by simpa using hpi
  rw [e1, ← hu]
  rw [List.getElem!_eq_getElem?_getD, hu]
  rfl
theorem putPrs {w : World} {g n : Nat} {os : Array Obj} {l l' : List (Int × Int)} {t : TypeId} (hl : l'.length = l.length) (hb : RowX w g t (l.map prC)) :
    RowX (sortWorldK prC 2 w g 0 n l'.toArray os) g t (l'.map prC) ∧ w.grownBy (sortWorldK prC 2 w g 0 n l'.toArray os) (some g) := by
  obtain ⟨ex, hb⟩ := hb
  have hg := hb.lt
  constructor
  · refine ⟨ex, ?_⟩
    unfold sortWorldK Go.Sort.putRowK
    rw [flatK_prs]
    show (Go.Sort.grow _ _).heap[g]? = _
    rw [Go.Sort.heap_grow_old _ _ (by simpa using hg)]
    have hb' : w.heap[g]? = some (.cells (rowsA (l.map prC) ++ ex) t (0, 0)) := hb
    have hs : (rowsA (l'.map prC)).size = (rowsA (l.map prC)).size := by rw [rowsA_size (prs_wide l), rowsA_size (prs_wide l')]; simp [hl]
    have e : Go.Sort.putCells id 0 (rowsA (l'.map prC)) (rowsA (l.map prC) ++ ex) = rowsA (l'.map prC) ++ ex := by
      apply Array.ext_getElem?
      intro k
      rcases Nat.lt_or_ge k (rowsA (l.map prC)).size with hk | hk
      · have hk' : k < (rowsA (l'.map prC)).size := by omega
        rw [Array.getElem?_append_left hk']
        have : k < (rowsA (l.map prC) ++ ex).size := by simp; omega
        simp [Go.Sort.putCells, hk']
        exact ⟨_, Array.getElem?_eq_getElem this⟩
      · rw [Array.getElem?_append_right (by omega), hs]
        rcases Nat.lt_or_ge k (rowsA (l.map prC) ++ ex).size with h2 | h2
        · have h3 : ¬ k < (rowsA (l'.map prC)).size := by omega
          have h4 : (rowsA (l.map prC) ++ ex)[k]? = ex[k - (rowsA (l.map prC)).size]? := Array.getElem?_append_right hk
          rw [← h4]
          simp [Go.Sort.putCells, h3]
        · rw [Array.getElem?_eq_none (by simpa [Go.Sort.putCells] using h2), Array.getElem?_eq_none (by simp at h2; omega)]
    simp [Go.Sort.putRow, Go.Sort.mapBlock, Go.Sort.ahead, Array.getElem?_modify, hb', Go.Sort.onCells, e]
  · refine ⟨rfl, rfl, rfl, by simp [sortWorldK, Go.Sort.putRowK], fun k hk hne => ?_⟩
    unfold sortWorldK Go.Sort.putRowK
    rw [Go.Sort.heap_grow_old _ _ (by simpa using hk)]
    have : g ≠ k := fun e => hne (by rw [e])
    simp [Go.Sort.putRow, Go.Sort.mapBlock, Go.Sort.ahead, Array.getElem?_modify, this]
theorem sort2_c (l : List (Int × Int)) (g cap : Nat) (w : World) (hB : RowX w g 133 (l.map prC)) (hn : l.length ≤ 100000) :
    Calls Tryz.prog 58 #[.slice (some ⟨g, 0, none⟩) l.length cap, .func (.func 59) #[] #[]] w fun e w' => e = .returned (.tuple #[]) ∧ RowX w' g 133 ((sortR l).map prC) ∧ w.grownBy w' (some g) := by
  have hH : Go.Sort.HoldsK prC 2 w g 0 l.toArray := by
    obtain ⟨ex, hb⟩ := hB
    unfold Go.Sort.HoldsK
    rw [flatK_prs]
    intro j hj
    refine ⟨?_, by rw [Nat.zero_add]; exact hb.frozen j⟩
    rw [Nat.zero_add, hb.cell, Array.getElem?_append_left hj, Array.getElem?_eq_getElem hj, getElem!_pos (rowsA (l.map prC)) j hj]
    rfl
  have hcmp : CmpLays Tryz.prog 59 #[] prC 2 ordR g 0 l.toArray.size w := fun m os dk _ x y => (less_g x.1 x.2 y.1 y.2 _).mono fun _ _ ⟨he, q, os', hw⟩ => ⟨he, q, os', hw⟩
  have h := AnyQ.slices_SortFunc sortPairs 2 Tryz.isAgg133 Tryz.sizeOf133 prC (fun _ => rfl) (fun x v hv => by
      simp only [prC, List.mem_cons, List.not_mem_nil, or_false] at hv
      rcases hv with rfl | rfl <;> rfl) ordR (by rw [ltOf_ordR]; exact swoR) 59 #[] g 0 cap l.toArray w (enters_of Tryz.func59 (by kernel_rfl) rfl) hcmp hH hB.lt (by simp; omega)
  rw [ltOf_ordR] at h
  refine (show Calls Tryz.prog 58 _ _ _ from h).mono ?_
  rintro e w' ⟨rfl, d', n, os, hp, hs, rfl⟩
  obtain rfl : d' = (sortR l).toArray := Array.ext' (Go.Sort.sorted_unique_holds swoR ltR_total l.toArray d' hp hs)
  exact ⟨rfl, putPrs (List.length_mergeSort l) hB⟩
end Go.Proofs.YtaaeapjnjjbglaaGreatDoor.Lat
namespace Go.Proofs.YtaaeapjnjjbglaaGreatDoor.Lat
open Go.RowKit

theorem ownMap {K V : Type} {enc : K → Value} {ev : V → Value} {w : World} {b : Nat} {e : TypeId} {sz : Nat} {v : Value} {n : Nat} {xs : List Value} {M : Nat} {m : List (K × V)} (h : w.ownsRow b e sz v n xs) (h' : MapOf enc ev w M m) : some M ≠ v.ownBlock := by
  intro e1
  rcases h.2 with ⟨rfl, _⟩ | ⟨g, cap, cur, rfl, _, hg, _⟩
  · cases e1
  · simp only [Value.ownBlock, Option.some.injEq] at e1
    subst e1
    obtain ⟨es, clock, hm, _⟩ := h'
    rw [hg] at hm
    cases hm
theorem _root_.Go.Proofs.YtaaeapjnjjbglaaGreatDoor.MapOf.far2 {K V : Type} {enc : K → Value} {ev : V → Value} {w : World} {M : Nat} {m : List (K × V)} (h : MapOf enc ev w M m) {p : Addr} (hp : M ≠ p.block) (u : Value) : MapOf enc ev (w.setCell p u) M m := by
  obtain ⟨es, clock, hm, r⟩ := h
  exact ⟨es, clock, by rw [Below.heap_setCell _ _ _ _ hp]; exact hm, r⟩
theorem _root_.Go.Proofs.YtaaeapjnjjbglaaGreatDoor.MapOf.blk_ne {K V : Type} {enc : K → Value} {ev : V → Value} {w : World} {M : Nat} {m : List (K × V)} (h : MapOf enc ev w M m) {g : Nat} {t : TypeId} {cs : Array Value} (hb : Blk w g t cs) : M ≠ g := by
  rintro rfl
  obtain ⟨es, clock, hm, _⟩ := h
  unfold Blk at hb
  rw [hm] at hb
  cases hb
def numC (x : Int) : Value := .int .i64 x
abbrev nilV : Value := .slice none 0 0
/-- The map of rows: block M, each key's row is its own. -/
structure InM (w : World) (T M : Nat) (m : List (Pt × Value)) (f : Pt → List Int) : Prop where
  map : MapOf encPt id w M m
  row : ∀ c v, getK m c = some v → w.ownsRow T 3 1 v (f c).length ((f c).map numC)
  nil : ∀ c, getK m c = none → f c = []
  sep : ∀ c d u v, c ≠ d → getK m c = some u → getK m d = some v → ∀ r, u.ownBlock = some r → v.ownBlock ≠ some r
theorem InM.own {w : World} {T M : Nat} {m : List (Pt × Value)} {f : Pt → List Int} (h : InM w T M m f) (c : Pt) : w.ownsRow T 3 1 ((getK m c).getD nilV) (f c).length ((f c).map numC) := by
  cases hc : getK m c with
  | none =>
    rw [h.nil c hc]
    exact World.ownsRow_nil _ _ _ _
  | some v => exact h.row c v hc
theorem InM.ext {w w' : World} {T M : Nat} {m : List (Pt × Value)} {f : Pt → List Int} (h : InM w T M m f) (E : Ext w w') : InM w' T M m f :=
  ⟨h.map.ext E, fun c v hc => own_ext (h.row c v hc) E, h.nil, h.sep⟩
/-- A change of one block that is neither the map nor a row. -/
theorem InM.grown {w w' : World} {T M : Nat} {m : List (Pt × Value)} {f : Pt → List Int} (h : InM w T M m f) {row : Option Nat} (g : w.grownBy w' row) (h1 : some M ≠ row) (h2 : ∀ c v, getK m c = some v → v.ownBlock = none ∨ v.ownBlock ≠ row) : InM w' T M m f :=
  ⟨h.map.grown g h1, fun c v hc => ownGrown (h.row c v hc) g (h2 c v hc), h.nil, h.sep⟩
theorem InM.other {K V : Type} {enc : K → Value} {ev : V → Value} {w w' : World} {T M M2 : Nat} {m : List (Pt × Value)} {f : Pt → List Int} {m2 : List (K × V)} (h : InM w T M m f) (h' : MapOf enc ev w M2 m2) (hne : M ≠ M2) (g : w.grownBy w' (some M2)) : InM w' T M m f :=
  h.grown g (by simpa using hne) (fun c v hc => Or.inr fun e => ownMap (h.row c v hc) h' e.symm)
theorem InM.made (w : World) (T : Nat) : InM (w.alloc (.map #[] 0)) T w.heap.size [] (fun _ => []) :=
  ⟨MapOf.made w, fun _ v hc => (nomatch (show (none : Option Value) = some v from hc)), fun _ _ => rfl, fun _ _ u _ _ hc _ => (nomatch (show (none : Option Value) = some u from hc))⟩
theorem InM.congr {w : World} {T M : Nat} {m : List (Pt × Value)} {f f' : Pt → List Int} (h : InM w T M m f) (e : ∀ c, f' c = f c) : InM w T M m f' := by
  have : f' = f := funext e
  subst this
  exact h
/-- One more number behind one row. -/
theorem InM.step {wa wb wc wd : World} {T M : Nat} {m : List (Pt × Value)} {f : Pt → List Int} {c : Pt} {j : Int} {v' : Value} (h : InM wa T M m f) (g1 : wa.grownBy wb (some M))
    (hf : Fate wb wc T 3 1 ((getK m c).getD nilV) v' (f c).length ((f c).map numC) [numC j]) (g2 : wc.grownBy wd (some M)) (hM : MapOf encPt id wd M (putK m c v')) (hMb : ∃ m', MapOf encPt (id : Value → Value) wb M m') (hMc : ∃ m', MapOf encPt (id : Value → Value) wc M m') :
    InM wd T M (putK m c v') (fun d => if d = c then f c ++ [j] else f d) := by
  obtain ⟨mb, hMb⟩ := hMb
  obtain ⟨mc, hMc⟩ := hMc
  have rb : ∀ d v, getK m d = some v → wb.ownsRow T 3 1 v (f d).length ((f d).map numC) := fun d v hd => ownGrown (h.row d v hd) g1 (Or.inr fun e => ownMap (h.row d v hd) h.map e.symm)
  have key : ∀ d v, d ≠ c → getK m d = some v → ∀ r, v.ownBlock = some r → v'.ownBlock ≠ some r := by
    intro d v hd hv r hr
    obtain ⟨-, g, cap, rfl, hh⟩ := hf
    intro e
    simp only [Value.ownBlock, Option.some.injEq] at e
    subst e
    rcases hh with ⟨hu, -⟩ | ⟨hu, -⟩
    · cases hc : getK m c with
      | none =>
        rw [hc] at hu
        cases hu
      | some u =>
        rw [hc] at hu
        change u = _ at hu
        subst hu
        exact h.sep d c _ _ hd hv hc g hr rfl
    · have := (own_typed (rb d v hv) hr)
      obtain ⟨cs, hb⟩ := this
      have := hb.lt
      omega
  have rc : ∀ d v, d ≠ c → getK m d = some v → wc.ownsRow T 3 1 v (f d).length ((f d).map numC) := by
    intro d v hd hv
    have k := key d v hd hv
    obtain ⟨-, g, cap, rfl, hh⟩ := hf
    rcases hh with ⟨-, hg⟩ | ⟨-, hg⟩
    · refine ownGrown (rb d v hv) hg ?_
      cases ho : v.ownBlock with
      | none => exact Or.inl rfl
      | some r =>
        right
        intro e
        exact k r ho e.symm
    · refine ownGrown (rb d v hv) hg ?_
      cases ho : v.ownBlock with
      | none => exact Or.inl rfl
      | some r =>
        right
        intro e
        cases e
  refine ⟨hM, ?_, ?_, ?_⟩
  · intro d v hd
    rw [getK_putK] at hd
    by_cases e : d = c
    · rw [if_pos e] at hd ⊢
      cases hd
      have := hf.1
      have o2 := ownGrown this g2 (Or.inr fun e1 => ownMap this hMc e1.symm)
      rw [List.length_append, List.map_append]
      exact o2
    · rw [if_neg e] at hd ⊢
      have := rc d v e hd
      exact ownGrown this g2 (Or.inr fun e1 => ownMap this hMc e1.symm)
  · intro d hd
    rw [getK_putK] at hd
    by_cases e : d = c
    · rw [if_pos e] at hd
      cases hd
    · rw [if_neg e] at hd ⊢
      exact h.nil d hd
  · intro a b u v hab hu hv r hr
    rw [getK_putK] at hu hv
    by_cases ea : a = c
    · rw [if_pos ea] at hu
      cases hu
      have eb : b ≠ c := fun e => hab (ea.trans e.symm)
      rw [if_neg eb] at hv
      intro e
      exact key b v eb hv r e hr
    · rw [if_neg ea] at hu
      by_cases eb : b = c
      · rw [if_pos eb] at hv
        cases hv
        exact key a u ea hu r hr
      · rw [if_neg eb] at hv
        exact h.sep a b u v hab hu hv r hr
/-! ### the pairs that are keys -/
def Keys (m : List ((Int × Int) × Bool)) (p : Int × Int → Prop) : Prop := (m.map (·.1)).Nodup ∧ ∀ x, x ∈ m.map (·.1) ↔ p x
theorem getK_mem {K V : Type} [DecidableEq K] (m : List (K × V)) (x : K) : x ∈ m.map (·.1) ↔ (getK m x).isSome = true := by
  induction m with
  | nil => simp [getK]
  | cons p m ih =>
    rw [List.map_cons, List.mem_cons]
    unfold getK
    by_cases h : x = p.1
    · simp [h]
    · rw [if_neg h, ← ih]
      simp [h]
theorem Keys.nil {p : Int × Int → Prop} (h : ∀ x, ¬ p x) : Keys [] p := ⟨List.nodup_nil, fun x => by simp [h x]⟩
theorem Keys.put {m : List ((Int × Int) × Bool)} {p q : Int × Int → Prop} (h : Keys m p) (x : Int × Int) (b : Bool) (hq : ∀ y, q y ↔ p y ∨ y = x) : Keys (putK m x b) q := by
  refine ⟨putK_keys m x b h.1, fun y => ?_⟩
  rw [getK_mem, getK_putK, hq]
  by_cases e : y = x
  · simp [e]
  · rw [if_neg e, ← getK_mem, h.2]
    simp [e]
theorem Keys.congr {m : List ((Int × Int) × Bool)} {p q : Int × Int → Prop} (h : Keys m p) (hq : ∀ y, q y ↔ p y) : Keys m q := ⟨h.1, fun y => by rw [h.2, hq]⟩
/-- The listed pairs lie strictly ascending. -/
theorem overL_asc (ks : List Knd) (bs : List Brk) (n : Nat) : (overL ks bs n).Pairwise fun x y => ltR x y = true := by
  have inner : ∀ k m, (rowO ks bs k m).Pairwise fun x y => ltR x y = true := by
    intro k m
    unfold rowO
    rw [List.pairwise_map]
    refine List.Pairwise.imp ?_ (List.Pairwise.filter _ List.pairwise_lt_range)
    intro a b hab
    rw [ltR_iff]
    exact Or.inr ⟨rfl, Int.ofNat_lt.2 hab⟩
  unfold overL
  rw [List.pairwise_flatMap]
  refine ⟨fun k _ => inner _ _, ?_⟩
  refine List.Pairwise.imp ?_ List.pairwise_lt_range
  intro a b hab x hx y hy
  unfold rowO at hx hy
  obtain ⟨i, -, rfl⟩ := List.mem_map.1 hx
  obtain ⟨j, -, rfl⟩ := List.mem_map.1 hy
  rw [ltR_iff]
  exact Or.inl (Int.ofNat_lt.2 hab)
theorem sortR_keys {ks : List Knd} {bs : List Brk} {m : List ((Int × Int) × Bool)} (h : Keys m (P0 ks bs bs.length)) {l : List (Int × Int)} (hl : l.Perm (m.map (·.1))) : sortR l = overL ks bs bs.length := by
  have hnd : (overL ks bs bs.length).Nodup := (overL_asc ks bs _).imp fun hxy e => by
    subst e
    rw [swoR.irrefl] at hxy
    cases hxy
  have hp : (sortR l).Perm (overL ks bs bs.length) := by
    refine (List.mergeSort_perm _ _).trans (hl.trans ?_)
    exact (List.perm_ext_iff_of_nodup h.1 hnd).2 fun x => by rw [h.2, mem_overL]
  have h1 : (sortR l).Pairwise fun x y => (!ltR y x) = true := List.pairwise_mergeSort (fun a b c h k => by
      rw [Bool.not_eq_true'] at *
      exact swoR.ntrans c b a k h) (fun a b => by
      rw [Bool.or_eq_true, Bool.not_eq_true', Bool.not_eq_true']
      cases e : ltR b a
      · exact Or.inl rfl
      · right
        rw [ltR_not]
        rw [ltR_iff] at e
        omega) l
  have h2 : (overL ks bs bs.length).Pairwise fun x y => (!ltR y x) = true := (overL_asc ks bs _).imp fun {a b} e => by
    rw [Bool.not_eq_true', ltR_not]
    rw [ltR_iff] at e
    omega
  refine List.Perm.eq_of_pairwise (le := fun x y => (!ltR y x) = true) ?_ h1 h2 hp
  intro a b _ _ h k
  rw [Bool.not_eq_true'] at h k
  exact ltR_total a b k h
theorem keys_len {ks : List Knd} {bs : List Brk} {m : List ((Int × Int) × Bool)} (h : Keys m (P0 ks bs bs.length)) (hn : bs.length ≤ 40) : m.length ≤ 1600 := by
  have h0 := sortR_keys h (List.Perm.refl _)
  have := congrArg List.length h0
  unfold sortR at this
  rw [List.length_mergeSort, List.length_map] at this
  rw [this]
  exact Nat.le_trans (overL_len ks bs _) (Nat.le_trans (Nat.mul_le_mul hn hn) (by omega))
end Go.Proofs.YtaaeapjnjjbglaaGreatDoor.Lat
namespace Go.Proofs.YtaaeapjnjjbglaaGreatDoor.Lat
open Go.RowKit

def IntsZ (w : World) (A : Option Addr) (cap : Nat) (l : List Int) : Prop := SliceIs w A l.length cap 1 (l.map fun n => [.int .i64 n])
theorem IntsZ.ext {w w' : World} {A : Option Addr} {cap : Nat} {l : List Int} (h : IntsZ w A cap l) (e : Ext w w') : IntsZ w' A cap l := SliceIs.ext h e
theorem IntsZ.len {w : World} {A : Option Addr} {cap : Nat} {l : List Int} (h : IntsZ w A cap l) : l.length ≤ maxLen := Nat.le_trans h.le h.small
theorem IntsZ.at_ {w : World} {A : Option Addr} {cap : Nat} {l : List Int} (h : IntsZ w A cap l) {k : Nat} (hk : k < l.length) :
    ∃ b off p, A = some ⟨b, off, none⟩ ∧ l[k]? = some p ∧ b < w.heap.size ∧ w.cell? ⟨b, off + k, none⟩ = some (.int .i64 p) := by
  obtain ⟨b, off, hA, hb, hc⟩ := SliceIs.cells h (by omega)
  have hget : l[k]? = some l[k] := List.getElem?_eq_getElem hk
  have hr : (l.map fun n => [Value.int .i64 n])[k]? = some [.int .i64 l[k]] := by rw [List.getElem?_map, hget]; rfl
  have := hc k _ hr 0 _ rfl
  rw [Nat.mul_one, Nat.add_zero] at this
  exact ⟨b, off, l[k], hA, hget, hb, this⟩
def intAt (l : List Int) (k : Nat) : Int := l.getD k 0
theorem intAt_eq {l : List Int} {k : Nat} {p : Int} (h : l[k]? = some p) : intAt l k = p := by simp [intAt, h]
def eqI (a b : List Int) : Bool := decide (a.length = b.length) && allR a.length fun i => intAt a i == intAt b i
theorem eqI_iff {a b : List Int} : eqI a b = true ↔ a = b := by
  unfold eqI
  rw [Bool.and_eq_true, decide_eq_true_eq]
  constructor
  · rintro ⟨h1, h2⟩
    refine List.ext_getElem h1 fun i hi hj => ?_
    have := allR_at h2 hi
    unfold intAt at this
    simpa [hi, hj] using this
  · rintro rfl
    exact ⟨rfl, allR_good fun j _ => by simp⟩
theorem eqI_len {a b : List Int} (h : ¬ a.length = b.length) : eqI a b = false := by rw [eqI, decide_eq_false h]; rfl
theorem eqI_bad {a b : List Int} {k : Nat} (hk : k < a.length) (h : (intAt a k == intAt b k) = false) : eqI a b = false := by rw [eqI, allR_bad hk h, Bool.and_false]
theorem eqI_good {a b : List Int} (hl : a.length = b.length) (h : ∀ j, j < a.length → (intAt a j == intAt b j) = true) : eqI a b = true := by rw [eqI, decide_eq_true hl, allR_good h]; rfl
end Go.Proofs.YtaaeapjnjjbglaaGreatDoor.Lat
namespace Go.Proofs.YtaaeapjnjjbglaaGreatDoor.Lat
open Go.RowKit

/-- The block's first cells are these numbers. -/
def NumX (w : World) (g : Nat) (l : List Int) : Prop := ∃ ex, Blk w g 3 ((l.map numC).toArray ++ ex)
section
variable {w w' : World} {g : Nat} {l : List Int}
theorem NumX.ext (h : NumX w g l) (E : Ext w w') : NumX w' g l := by
  obtain ⟨ex, h⟩ := h
  exact ⟨ex, h.ext E⟩
theorem NumX.lt (h : NumX w g l) : g < w.heap.size := by
  obtain ⟨ex, h⟩ := h
  exact h.lt
theorem NumX.frozen (h : NumX w g l) (i : Nat) : w.frozen? ⟨g, i, none⟩ = false := by
  obtain ⟨ex, h⟩ := h
  exact h.frozen i
theorem NumX.cell (h : NumX w g l) {i : Nat} {v : Int} (hv : l[i]? = some v) : w.cell? ⟨g, i, none⟩ = some (.int .i64 v) := by
  obtain ⟨ex, h⟩ := h
  have hl := (List.getElem?_eq_some_iff.1 hv).1
  rw [h.cell, Array.getElem?_append_left (by simpa using hl)]
  simp [hv, numC]
theorem NumX.set_ (h : NumX w g l) {i : Nat} (hi : i < l.length) (v : Int) : NumX (w.setCell ⟨g, i, none⟩ (.int .i64 v)) g (l.set i v) := by
  obtain ⟨ex, h⟩ := h
  refine ⟨ex, ?_⟩
  have := h.set_ i (.int .i64 v)
  rw [Array.setIfInBounds_append, if_pos (by simpa using hi)] at this
  have e : (l.map numC).toArray.setIfInBounds i (.int .i64 v) = ((l.set i v).map numC).toArray := by
    rw [List.setIfInBounds_toArray, List.map_set]
    rfl
  rwa [e] at this
theorem NumX.far (h : NumX w g l) {p : Addr} (hp : g ≠ p.block) (v : Value) : NumX (w.setCell p v) g l := by
  obtain ⟨ex, h⟩ := h
  exact ⟨ex, h.far hp v⟩
theorem num_rows (l : List Int) : (l.map fun n => [Value.int .i64 n]).flatten = l.map numC := by
  induction l with
  | nil => rfl
  | cons x l ih => rw [List.map_cons, List.flatten_cons, ih]; rfl
theorem NumX.of_own {b n cap : Nat} (h : w.ownsRow b 3 1 (.slice (some ⟨g, 0, none⟩) n cap) n (l.map numC)) : NumX w g l ∧ b ≤ g ∧ n ≤ cap ∧ cap ≤ maxLen := by
  rw [← num_rows] at h
  obtain ⟨⟨ex, h1⟩, h2⟩ := RowX.of_own (rows := l.map fun n => [Value.int .i64 n]) h
  refine ⟨⟨ex, ?_⟩, h2⟩
  unfold rowsA at h1
  rwa [num_rows] at h1
theorem NumX.slice (h : NumX w g l) {cap : Nat} (h1 : l.length ≤ cap) (h2 : cap ≤ maxLen) : IntsZ w (some ⟨g, 0, none⟩) cap l :=
  ⟨by rw [List.length_map], h1, h2, fun r hr => by obtain ⟨y, -, rfl⟩ := List.mem_map.1 hr; rfl, fun _ => ⟨g, 0, rfl, h.lt, fun i r hr j u hu => by
    rw [List.getElem?_map] at hr
    obtain ⟨v, hv, rfl⟩ := Option.map_eq_some_iff.1 hr
    have hj : j = 0 := by
      have := (List.getElem?_eq_some_iff.1 hu).1
      simpa using this
    subst hj
    simp only [List.getElem?_cons_zero, Option.some.injEq] at hu
    subst hu
    rw [Nat.zero_add, Nat.mul_one, Nat.add_zero]
    exact h.cell hv⟩⟩
end
end Go.Proofs.YtaaeapjnjjbglaaGreatDoor.Lat
namespace Go.Proofs.YtaaeapjnjjbglaaGreatDoor.Lat
open Go.RowKit

theorem insNil (v : Value) (w : World) : Calls Tryz.prog 105 #[.slice none 0 0, .int .i64 0, .int .i64 0, v] w fun e w' => e = .returned (.tuple #[]) ∧ w = w' := by
  go_enter Tryz.func105, Tryz.ntmps105
  go_wp2_with fail
  go_loopw [8] (fun i wr => i = .int .i64 1 ∧ wr = w) (fun _ _ => 0)
  case atStart => exact ⟨rfl, rfl⟩
  case round =>
    obtain ⟨rfl, rfl⟩ := hrel
    go_wp2_with fail
    go_end0
    exact ⟨rfl, rfl⟩
set_option maxRecDepth 100000 in
theorem pdqNil (v : Value) (w : World) : Calls Tryz.prog 80 #[.slice none 0 0, .int .i64 0, .int .i64 0, .int .i64 0, v] w fun e w' => e = .returned (.tuple #[]) ∧ w = w' := by
  go_enter Tryz.func80, Tryz.ntmps80
  go_wp2_with fail
  go_loopw [1, 2] (fun a b wr => a = .int .i64 0 ∧ b = .int .i64 0 ∧ wr = w) (fun _ _ _ => 0)
  case atStart => exact ⟨rfl, rfl, rfl⟩
  case round =>
    obtain ⟨rfl, rfl, rfl⟩ := hrel
    go_wp2_with fail
    refine (insNil v wr).mono ?_
    rintro e w1 ⟨rfl, rfl⟩
    go_wp2_with fail
    exact bodyPost_ret (v := .tuple #[]) (results_none rfl _ _ _) rfl ⟨rfl, rfl⟩
theorem sortNil_c (v : Value) (w : World) : Calls Tryz.prog 58 #[.slice none 0 0, v] w fun e w' => e = .returned (.tuple #[]) ∧ w = w' := by
  have hl := Any.bits_Len (SlLaysF0.n15.bits (P := Tryz.prog) (ρ := sortPairs_ren) { sortPairs with }) 0 w (by omega) (by omega)
  go_enter Tryz.func58, Tryz.ntmps58
  have hl' : Calls Tryz.prog 77 #[.int .u64 0] w fun e w' => e = .returned (.int .i64 0) ∧ w' = w := hl
  clear hl
  go_wp2_with fail
  refine hl'.mono ?_
  rintro e w1 ⟨rfl, rfl⟩
  go_wp2_with fail
  refine (pdqNil v w1).mono ?_
  rintro e w2 ⟨rfl, rfl⟩
  go_wp2_with fail
  go_end0
  exact ⟨rfl, rfl⟩
end Go.Proofs.YtaaeapjnjjbglaaGreatDoor.Lat
namespace Go.Proofs.YtaaeapjnjjbglaaGreatDoor.Lat
open Go.RowKit

theorem modelErr_zero {ks : List Knd} {bs : List Brk} (h : modelErr ks bs = 0) : kindsErr ks = 0 ∧ ¬ 40 < bs.length ∧ askedErr ks bs = 0 := by
  have h0 : kindsErr ks = 0 := by
    by_cases h0 : kindsErr ks = 0
    · exact h0
    · rw [modelErr_kinds h0] at h
      exact h
  have h1 : ¬ 40 < bs.length := fun h1 => by
    rw [modelErr_many h0 h1] at h
    cases h
  exact ⟨h0, h1, by rw [← modelErr_few h0 h1, h]⟩
theorem prsBad {ks : List Knd} {bs : List Brk} {r : Int} (h : modelErr ks bs = r) (h0 : r ≠ 0) {w w' : World} (E : Ext w w') : PrsRes (ovRes ks bs) (modelErr ks bs) w (.returned (.tuple #[.slice none 0 0, .int .i64 r])) w' := by
  have Ho : ovRes ks bs = [] := by rw [ovRes, if_neg (by rw [h]; exact h0)]
  unfold PrsRes
  rw [Ho, h]
  exact ⟨none, 0, rfl, prs_nil _, E⟩
set_option maxHeartbeats 1600000 in
theorem overlapsE_c (qs : List (Knd × KAt)) (QA : Option Addr) (qc : Nat) (bs : List Brk) (B : Option Addr) (cb : Nat) (w : World) (hk : Kinds w QA qc qs) (hb : Bricks w B cb bs) (h0 : modelErr (qs.map (·.1)) bs ≠ 0) :
    Calls Tryz.prog 27 #[.slice QA qs.length qc, .agg #[.slice B bs.length cb]] w (PrsRes (ovRes (qs.map (·.1)) bs) (modelErr (qs.map (·.1)) bs) w) := by
  have hbn : bs.length ≤ 9223372036854775807 := by have := hb.len; unfold maxLen at this; omega
  obtain ⟨W1, hW1, E1, B1, hz1⟩ := mk_ w #[.slice B bs.length cb] 31
  have b1 := B1.cell
  have HE := Lib.hid E1
  clear hz1
  have CK := checkKinds_c qs QA qc W1 (hk.ext E1)
  have CC := Lib.hid (fun W (E : Ext w W) => check_c qs QA qc bs B cb W (hk.ext E) (hb.ext E))
  have HB := Lib.hid (fun (r : Int) (h : modelErr (qs.map (·.1)) bs = r) (h1 : r ≠ 0) W (E : Ext w W) => prsBad (w := w) (w' := W) h h1 E)
  have HK := Lib.hid (fun (r : Int) (h : kindsErr (qs.map (·.1)) = r) (h1 : r ≠ 0) => show modelErr (qs.map (·.1)) bs = r by rw [modelErr_kinds (by rw [h]; exact h1), h])
  have HM := Lib.hid (fun (h : kindsErr (qs.map (·.1)) = 0) (h1 : 40 < bs.length) => modelErr_many (bs := bs) h h1)
  have HF := Lib.hid (fun (h : kindsErr (qs.map (·.1)) = 0) (h1 : ¬ 40 < bs.length) => modelErr_few (bs := bs) h h1)
  have H0 := Lib.hid h0
  clear hk hb h0
  obtain ⟨G, hG⟩ : ∃ G : Ending → World → Prop, PrsRes (ovRes (qs.map (·.1)) bs) (modelErr (qs.map (·.1)) bs) w = G := ⟨_, rfl⟩
  rw [hG] at HB ⊢
  clear hG
  obtain ⟨r, hr⟩ : ∃ r, kindsErr (qs.map (·.1)) = r := ⟨_, rfl⟩
  rw [hr] at CK HM HF
  by_cases hr0 : r = 0
  · subst hr0
    by_cases hm : 40 < bs.length
    · have Hm := Lib.hid (HM.out rfl hm)
      have hm' : (40 : Int) < bs.length := by omega
      clear hm hr HK HF
      go_enter Tryz.func27, Tryz.ntmps27
      go_wp2_with fail
      refine CK.mono ?_
      rintro e W2 ⟨rfl, E2⟩
      have b2 := (B1.ext E2).cell
      go_wp2_with fail
      exact HB.out 4 Hm.out (by decide) _ (HE.out.trans E2)
    · have Hm := Lib.hid (HF.out rfl hm)
      obtain ⟨s, hs⟩ : ∃ s, askedErr (qs.map (·.1)) bs = s := ⟨_, rfl⟩
      rw [hs] at CC Hm
      have hs0 : s ≠ 0 := by
        rintro rfl
        exact H0.out Hm.out
      have Hs0 := Lib.hid hs0
      have hm' : ¬ (40 : Int) < bs.length := by omega
      have hs1 : (s != 0) = true := by simpa using hs0
      clear hm hr hs HK HF hs0
      go_enter Tryz.func27, Tryz.ntmps27
      go_wp2_with fail
      refine CK.mono ?_
      rintro e W2 ⟨rfl, E2⟩
      have b2 := (B1.ext E2).cell
      go_wp2_with fail
      refine (CC.out _ (HE.out.trans E2)).mono ?_
      rintro e W3 ⟨rfl, E3⟩
      go_wp2_with fail
      exact HB.out _ Hm.out Hs0.out _ ((HE.out.trans E2).trans E3)
  · have Hr := Lib.hid (HK.out r hr hr0)
    have Hr0 := Lib.hid hr0
    have h1 : (r != 0) = true := by simpa using hr0
    clear hr hr0 HM HF
    go_enter Tryz.func27, Tryz.ntmps27
    go_wp2_with fail
    refine CK.mono ?_
    rintro e W2 ⟨rfl, E2⟩
    go_wp2_with fail
    exact HB.out _ Hr.out Hr0.out _ (HE.out.trans E2)
end Go.Proofs.YtaaeapjnjjbglaaGreatDoor.Lat
namespace Go.Proofs.YtaaeapjnjjbglaaGreatDoor.Lat
open Go.RowKit

/-- A block of cells that a value points to. -/
def CellV (w : World) (v : Value) (n : Nat) (l : List Pt) : Prop := v = .slice (some ⟨bk v, 0, none⟩) n n ∧ Blk w (bk v) 53 (ptsA l)
theorem CellV.ext {w w' : World} {v : Value} {n : Nat} {l : List Pt} (h : CellV w v n l) (E : Ext w w') : CellV w' v n l := ⟨h.1, h.2.ext E⟩
structure Ov14 (W0 : World) (vQ vK : Value) (G : Nat) (p3 : Addr) (i xx yy zz : Int) (tn : Nat) (n : Nat) (Lc : List Pt) (L : Nat → Bool) (us : Nat → Value) (w : World) : Prop where
  x : Ext W0 w
  f0 : L 0 = true → us 0 = vQ
  f1 : L 1 = true → us 1 = .pointer (some ⟨G, 0, none⟩)
  f2 : L 2 = true → us 2 = .int .i64 i
  f3 : L 3 = true → us 3 = .pointer (some p3)
  f4 : L 4 = true → us 4 = vK
  f5 : L 5 = true → us 5 = .pointer (some ⟨G, 4, none⟩)
  f6 : L 6 = true → us 6 = .int .u8 tn
  f7 : L 7 = true → us 7 = .int .i64 tn
  f8 : L 8 = true → us 8 = .pointer (some ⟨G, 1, none⟩)
  f9 : L 9 = true → us 9 = .agg #[.int .i64 xx, .int .i64 yy, .int .i64 zz]
  f10 : L 10 = true → CellV w (us 10) n Lc
  f11 : L 11 = true → us 11 = .int .i64 n
  f12 : L 12 = true → us 12 = .int .i64 0
theorem look_row {w : World} {M : Nat} {m : List (Pt × Value)} (h : MapOf encPt id w M m) (x y z : Int) :
    (Instr.lookup 130 (.map (some M)) (.agg #[.int .i64 x, .int .i64 y, .int .i64 z]) false).run Tryz.prog w = .ok ((getK m ⟨x, y, z⟩).getD nilV) w := by
  have := lookup_run ptKey Tryz.underlying130 (w := w) (z := nilV) (by kernel_rfl) h ⟨x, y, z⟩ false
  rw [show Value.agg #[.int .i64 x, .int .i64 y, .int .i64 z] = encPt ⟨x, y, z⟩ from rfl, this]
  cases getK m ⟨x, y, z⟩ <;> rfl
theorem at_entry {P : Program} {ops : Array Oper} {Q : Exit → Act → World → Prop} {dst : Option Tmp} {t : TypeId} {mo xo : Operand} {ty : TypeId} {pos : String} {aft : Array Edge} {g : Option (Nat × Bool)} {rest : List Oper} {a : Act} {w : World}
    (h : wpList P ops Q (⟨dst, .mapEntry t mo xo, ty, pos, aft, g⟩ :: rest) a w) : wpList P ops Q (⟨dst, .mapEntry t mo xo, ty, pos, aft, g⟩ :: rest) a w := h
theorem at_estore {P : Program} {ops : Array Oper} {Q : Exit → Act → World → Prop} {dst : Option Tmp} {t : TypeId} {mo so vo : Operand} {ty : TypeId} {pos : String} {aft : Array Edge} {g : Option (Nat × Bool)} {rest : List Oper} {a : Act} {w : World}
    (h : wpList P ops Q (⟨dst, .entryStore t mo so vo, ty, pos, aft, g⟩ :: rest) a w) : wpList P ops Q (⟨dst, .entryStore t mo so vo, ty, pos, aft, g⟩ :: rest) a w := h
theorem wpList_append_fate {P : Program} {w : World} {ops : Array Oper} {o : Oper} {rest : List Oper} {a : Act} {Q : Exit → Act → World → Prop} (hgd : o.guard = none) (s x : Operand) (t : TypeId) (ho : o.op = .call { callee := .builtin .append, args := #[s, x], argTypes := #[t, t] })
    (base : Nat) (e : TypeId) (i : TypeInfo) (z : Value) (size bytes : Nat) (ht : P.underlying t = some (.slice e)) (hi : P.info? e = some i) (hz : i.zero = some z)
    (hsize : i.size = size) (hby : i.bytes = bytes) (hzs : z.cells.size = size) (hsz : 0 < size)
    (v : Value) (n : Nat) (xs : List Value) (hs : a.eval s = v) (hown : w.ownsRow base e size v n xs)
    (g c : Nat) (news : List Value) (hx : a.eval x = .slice (some ⟨g, 0, none⟩) 1 c) (hl : news.length = size) (hnews : ∀ j, w.cell? ⟨g, j, none⟩ = news[j]?) (h1 : ∀ u ∈ news, u.oneCell' = true)
    (h63 : n + 1 ≤ maxLen) (hbytes : (n + 1) * bytes ≤ 140737488355328) (hbase : base ≤ w.heap.size)
    (h : ∀ v' w', Fate w w' base e size v v' n xs news → wpList P ops Q rest (a.put o.dst v') w') : wpList P ops Q (o :: rest) a w :=
  wpList_plain hgd fun _ hK => by
    have := step_append_fate (P := P) (ops := ops) (o := o) (a := a) (Q := Q) (F := True) hgd s x t ho base e i z size bytes ht hi hz hsize hby hzs hsz v n xs hs hown g c news hx hl hnews h1 h63 hbytes hbase (fun v' w' h2 => hK _ _ (h v' w' h2))
    rwa [if_pos (by simp [Region.wanted, hgd])] at this
theorem _root_.Go.Proofs.YtaaeapjnjjbglaaGreatDoor.EntOf.map {K V : Type} {enc : K → Value} {ev : V → Value} [DecidableEq K] {w : World} {b : Nat} {m : List (K × V)} {x : K} {born : Nat} (h : EntOf enc ev w b m x born) : MapOf enc ev w b m := by
  obtain ⟨es, clock, h1, h2, h3, h4, -⟩ := h
  exact ⟨es, clock, h1, h2, h3, h4⟩
theorem _root_.Go.Proofs.YtaaeapjnjjbglaaGreatDoor.Fate.rest {W w' : World} {base : Nat} {e : TypeId} {size : Nat} {v v' : Value} {n : Nat} {xs news : List Value} (F : Fate W w' base e size v v' n xs news) (own : W.ownsRow base e size v n xs) :
    ∃ row, W.grownBy w' row ∧ (∀ g t cs, Blk W g t cs → t ≠ e → some g ≠ row) ∧ (∀ (K V : Type) (enc : K → Value) (ev : V → Value) M (m : List (K × V)), MapOf enc ev W M m → some M ≠ row) ∧ (∀ k, row = some k → base ≤ k) := by
  obtain ⟨-, g, cap, rfl, ⟨rfl, hg⟩ | ⟨-, hg⟩⟩ := F
  · refine ⟨_, hg, fun g' t cs hb ht e1 => ?_, fun K V enc ev M m hm => ownMap own hm, fun k hk => (own.lt k hk).1⟩
    cases e1
    obtain ⟨cs', hb'⟩ := own_typed own rfl
    exact ht (hb.types hb')
  · exact ⟨none, hg, (fun _ _ _ _ _ e1 => nomatch e1), (fun _ _ _ _ _ _ _ e1 => nomatch e1), (fun _ hk => nomatch hk)⟩
theorem _root_.Go.Proofs.YtaaeapjnjjbglaaGreatDoor.RngOf.ext {K V : Type} {enc : K → Value} {ev : V → Value} {w w' : World} {b r : Nat} {m : List (K × V)} {done left : List K} (h : RngOf enc ev w b r m done left) (E : Ext w w') : RngOf enc ev w' b r m done left := by
  obtain ⟨es, clock, since, seen, c0, hb, q1, q2, q3, hr, q⟩ := h
  exact ⟨es, clock, since, seen, c0, (Below.block E b (Array.getElem?_eq_some_iff.1 hb).1).trans hb, q1, q2, q3, (Below.block E r (Array.getElem?_eq_some_iff.1 hr).1).trans hr, q⟩
theorem ownRng {K V : Type} {enc : K → Value} {ev : V → Value} {w : World} {base : Nat} {e : TypeId} {sz : Nat} {v : Value} {n : Nat} {xs : List Value} {b r : Nat} {m : List (K × V)} {done left : List K} (h : w.ownsRow base e sz v n xs) (h' : RngOf enc ev w b r m done left) : some b ≠ v.ownBlock ∧ some r ≠ v.ownBlock := by
  obtain ⟨es, clock, since, seen, c0, hb, q1, q2, q3, hr, q⟩ := h'
  rcases h.2 with ⟨rfl, _⟩ | ⟨g, cap, cur, rfl, _, hg, _⟩
  · exact ⟨(fun e1 => nomatch e1), (fun e1 => nomatch e1)⟩
  · refine ⟨fun e1 => ?_, fun e1 => ?_⟩ <;> simp only [Value.ownBlock, Option.some.injEq] at e1 <;> subst e1
    · rw [hg] at hb
      cases hb
    · rw [hg] at hr
      cases hr
theorem infoInt : (Tryz.prog.info? 3).map (fun i => (i.zero, i.size, i.bytes)) = some (some (.int .i64 0), 1, 8) := by kernel_rfl
theorem inF_at {ks : List Knd} {bs : List Brk} {j q : Nat} {c : Pt} (hc : (bcells ks (brkAt bs j))[q]? = some c) (hn : (bcells ks (brkAt bs j)).Nodup) : inF ks bs j q c = inA ks bs j c := by
  unfold inF
  have h0 : hasP ((bcells ks (brkAt bs j)).take q) c = false := by
    rw [← Bool.not_eq_true, hasP_iff]
    intro hm
    obtain ⟨i, hi⟩ := List.getElem?_of_mem hm
    have hiq : i < q := by
      have := (List.getElem?_eq_some_iff.1 hi).1
      rw [List.length_take] at this
      omega
    rw [List.getElem?_take_of_lt hiq] at hi
    obtain ⟨h1, e1⟩ := List.getElem?_eq_some_iff.1 hi
    obtain ⟨h2, e2⟩ := List.getElem?_eq_some_iff.1 hc
    exact List.pairwise_iff_getElem.1 hn i q h1 h2 hiq (by rw [e1, e2])
  rw [h0]
  simp
theorem ownNum {w : World} {base n cap t : Nat} {A : Option Addr} {l : List Int} (h : w.ownsRow base 3 1 (.slice A n cap) n (l.map numC)) (hn : l.length = n) (ht : t < n) : ∃ g x, A = some ⟨g, 0, none⟩ ∧ l[t]? = some x ∧ w.cell? ⟨g, t, none⟩ = some (.int .i64 x) := by
  have hx : l[t]? = some (l[t]'(by omega)) := List.getElem?_eq_getElem _
  rcases h.2 with ⟨h0, rfl⟩ | ⟨g, cap', cur, hv, hg, hb, h1, h2, _, h4⟩
  · omega
  · simp only [Value.slice.injEq] at hv
    obtain ⟨rfl, -, -⟩ := hv
    refine ⟨g, _, rfl, hx, ?_⟩
    rw [Blk.cell hb]
    have h5 : (cur.toList.take (n * 1))[t]? = (l.map numC)[t]? := by rw [h4]
    rw [List.getElem?_take_of_lt (by omega), List.getElem?_map, hx] at h5
    rw [← Array.getElem?_toList]
    exact h5
set_option maxRecDepth 100000 in
set_option maxHeartbeats 16000000 in
theorem overlapsG_c (qs : List (Knd × KAt)) (QA : Option Addr) (qc : Nat) (bs : List Brk) (B : Option Addr) (cb : Nat) (w : World) (hk : Kinds w QA qc qs) (hb : Bricks w B cb bs) (h0 : modelErr (qs.map (·.1)) bs = 0) :
    Calls Tryz.prog 27 #[.slice QA qs.length qc, .agg #[.slice B bs.length cb]] w (PrsRes (overL (qs.map (·.1)) bs bs.length) 0 w) := by
  obtain ⟨e0, e1, e2⟩ := modelErr_zero h0
  have hmm := @run_makeMap Tryz.prog
  have hf := mfine_of hk hb.2 h0
  have hbn := hf.n
  have hqn := hk.len
  unfold maxLen at hqn
  obtain ⟨W1, hW1, E1, B1, hz1⟩ := mk_ w #[.slice B bs.length cb] 31
  have b1 := B1.cell
  have CK := checkKinds_c qs QA qc W1 (hk.ext E1)
  have CC := Lib.hid (fun W (E : Ext w W) => check_c qs QA qc bs B cb W (hk.ext E) (hb.ext E))
  rw [e0] at CK
  rw [e2] at CC
  obtain ⟨T, hT⟩ : ∃ T, w.heap.size = T := ⟨_, rfl⟩
  rw [hT] at B1 b1
  have HZ := Lib.hid (show W1.heap.size = T + 1 by omega)
  have HT := Lib.hid hT
  clear hz1
  have PL := Lib.hid (fun (b : Brk) (hm : b ∈ bs) => hf.b b hm)
  have ND := Lib.hid (fun (b : Brk) (hm : b ∈ bs) => bcells_nodup hk hb.2 h0 hm)
  have HKi := Lib.hid (fun (i : Nat) (hi : i < qs.length) => (hk.ext E1).at_ hi)
  have PLc := Lib.hid (fun (W : World) (E : Ext W1 W) (k : Knd) (p : KAt) (n : Nat) (x y z : Int) (hc : Cells W1 p.A p.ca k.cells) (hkf : k.Fine) (ht : n < 24) (hp : Pt.in_ 1000 ⟨x, y, z⟩) =>
    cells_c k.cells k.knobs.length p.cb k.weight p.A p.ca p.B n x y z W (hc.ext E) (Nat.le_trans hkf.len (by omega)) hkf.cok ht (hp.ok (by omega)))
  obtain ⟨nq, hnq⟩ : ∃ m, qs.length = m := ⟨_, rfl⟩
  obtain ⟨nb, hnb⟩ : ∃ m, bs.length = m := ⟨_, rfl⟩
  rw [hnq] at CK CC HKi hqn ⊢
  have HQ := Lib.hid hnq
  rw [hnb] at hbn B1 b1 CC hW1 ⊢
  have Hnb := Lib.hid hnb
  have HB := Lib.hid hb
  obtain ⟨ks, hks⟩ : ∃ ks, qs.map (·.1) = ks := ⟨_, rfl⟩
  have Hks := Lib.hid hks
  rw [hks] at ND ⊢
  have HE := Lib.hid E1
  have hb40 : ¬ (40 : Int) < nb := by omega
  clear hnq hnb hks hf hk hb hT e0 e1 e2 h0
  go_enter Tryz.func27, Tryz.ntmps27
  go_wp2_with fail
  rw [HT.out]
  clear hW1 b1
  refine CK.mono ?_
  rintro e W2 ⟨rfl, E2⟩
  have b2 := (B1.ext E2).cell
  go_wp2_with fail
  refine (CC.out _ (HE.out.trans E2)).mono ?_
  rintro e W3 ⟨rfl, E3⟩
  have hs3 := (E2.trans E3).size
  obtain ⟨M, hM⟩ : ∃ M, W3.heap.size = M := ⟨_, rfl⟩
  obtain ⟨W4, hW4, E4, -, hz4⟩ := mapbox_ encPt (id : Value → Value) W3
  have M4 : InM W4 (T + 1) M [] (fun _ => []) := by rw [← hW4, ← hM]; exact InM.made W3 (T + 1)
  rw [hM] at hz4
  obtain ⟨W5, hW5, E5, M5, hz5⟩ := mapbox_ encPr Value.bool W4
  rw [hz4] at M5 hz5
  have E15 := ((E2.trans E3).trans E4).trans E5
  have b5 := (B1.ext E15).cell
  have I5 := M4.ext E5
  have HMl : Hid (T + 1 ≤ M) := Lib.hid (by have := HZ.out; omega)
  go_wp2_with fail
  clear b5 hmm hW4 hW5 hs3 hM b2 CK
  go_loopw [39] (fun ii wr => ∃ (j : Nat) (m : List (Pt × Value)) (m2 : List ((Int × Int) × Bool)), j ≤ nb ∧ ii = .int .i64 j ∧ Ext W1 wr ∧ InM wr (T + 1) M m (inA ks bs j) ∧ MapOf encPr Value.bool wr (M + 1) m2 ∧ Keys m2 (P0 ks bs j)) (fun ii _ => nb - (intOf ii).toNat)
  case atStart => exact ⟨0, [], [], by omega, rfl, E15, I5.congr (fun c => rfl), M5, Keys.nil (fun x hx => by obtain ⟨k, i, -, -, h, -⟩ := hx; omega)⟩
  case round =>
    clear E15 I5 M5 E4 E5 hz4 hz5
    obtain ⟨j, m, m2, hj, rfl, Er, IM, M2, K2⟩ := hrel
    have b1 := (B1.ext Er).cell
    by_cases hlt : j < nb
    · obtain ⟨g, off, ⟨kd, ⟨x, y, z⟩, t, cl⟩, rfl, hq, hby, hg, d0, d1, d2, d3, d4, d5⟩ := ((HB.out.ext HE.out).ext Er).at_ (k := j) (by rw [Hnb.out]; exact hlt)
      obtain ⟨i, tn, kk, p, e1, e2, htn, hqi, hkf, hpt, -⟩ := PL.out _ (List.mem_of_getElem? hq)
      simp only at e1 e2 hpt d0 d1 d2 d3 d4 d5
      subst e1 e2
      have Hbc := Lib.hid (show bcells ks (brkAt bs j) = sortP (placeP kk.cells tn ⟨x, y, z⟩) by rw [brkAt_eq hq, ← Hks.out]; exact bcells_is rfl rfl hqi)
      have Hnd := Lib.hid (show (bcells ks (brkAt bs j)).Nodup by rw [brkAt_eq hq]; exact ND.out _ (List.mem_of_getElem? hq))
      obtain ⟨qb, qoff, k', p', hQ, hqi', hka, hqb, q0, q1, q2⟩ := HKi.out i (by have := (List.getElem?_eq_some_iff.1 hqi).1; have := HQ.out; omega)
      obtain ⟨rfl, rfl⟩ : k' = kk ∧ p' = p := by rw [hqi] at hqi'; cases hqi'; exact ⟨rfl, rfl⟩
      subst hQ
      obtain ⟨Lc, hLc⟩ : ∃ L, sortP (placeP k'.cells tn ⟨x, y, z⟩) = L := ⟨_, rfl⟩
      obtain ⟨n, hn⟩ : ∃ n, k'.cells.length = n := ⟨_, rfl⟩
      have Hln := Lib.hid (show Lc.length = n by rw [← hLc, sortP_len, placeP_len, hn])
      have Hw := Lib.hid (show IntKind.i64.wrap (tn : Int) = tn from IntWalk.i64_in _ (by omega))
      have Hn40 := Lib.hid (show n ≤ 100000 by have := hkf.len; omega)
      have CL := Lib.hid (fun W (E : Ext W1 W) => PLc.out W E k' p' tn x y z hka.c hkf htn hpt)
      rw [hLc, hn] at CL
      rw [hn] at q0
      rw [hLc] at Hbc
      obtain ⟨WB, hWB, EB, BB, hzB⟩ := mk_ wr #[.int .i64 i, .int .i64 x, .int .i64 y, .int .i64 z, .int .u8 tn, .int .u8 cl] 60
      have EX := Er.trans EB
      have IB := IM.ext EB
      have MB := M2.ext EB
      obtain ⟨G, hG⟩ : ∃ G, wr.heap.size = G := ⟨_, rfl⟩
      rw [hG] at BB
      have HG := Lib.hid hG
      have j0 : (0 : Int) ≤ j := by omega
      have j1 : (j : Int) < nb := by omega
      have i0 : (0 : Int) ≤ i := by omega
      have i1 : (i : Int) < nq := by have := (List.getElem?_eq_some_iff.1 hqi).1; have := HQ.out; omega
      have HEX := Lib.hid EX
      have HBB := Lib.hid BB
      have Hq := Lib.hid (And.intro q0 (And.intro q1 q2))
      clear hqi' hq hqi hkf htn hpt hka hn hLc hzB hG EX BB EB
      go_upto_region 14 with (fail)
      rw [HG.out]
      clear b1 d0 d1 d2 d3 d4 d5 q0 q1 q2
      refine wp_region_by (Ov14 WB (.slice (some ⟨qb, qoff, none⟩) nq qc) (.agg #[.slice p'.A n p'.ca, .slice p'.B k'.knobs.length p'.cb, .int .i64 k'.weight]) G ⟨qb, qoff + i * 3, none⟩ i x y z tn n Lc) (by kernel_rfl) (by kernel_rfl) (by kernel_rfl) (fun us => ⟨(Ext.refl _).drew, (nofun), (nofun), (nofun), (nofun), (nofun), (nofun), (nofun), (nofun), (nofun), (nofun), (nofun), (nofun), (nofun)⟩) ⟨?_, ?_, ?_, ?_, ?_, ?_, ?_, ?_, ?_, ?_, ?_, ?_, ?_, trivial⟩ ?_
      · intro L us wx K a ha hp hd hun hI hK
        have HX := hI.x
        clear hp HX
        replace hd := Lib.hid hd
        simp only [putAll, Act.put, List.setIfInBounds_toArray, List.set_cons_succ, List.set_cons_zero, Nat.reduceAdd] at ha
        subst ha
        simp only [Act.put, List.setIfInBounds_toArray, List.set_cons_succ, List.set_cons_zero] at hK
        go_simp
        refine hK _ _ ?_
        first
        | (refine ⟨hI.x, ?_, hI.f1, hI.f2, hI.f3, hI.f4, hI.f5, hI.f6, hI.f7, hI.f8, hI.f9, hI.f10, hI.f11, hI.f12⟩ <;> (first | exact fun _ => rfl | skip))
        | (refine ⟨?_, ?_, ?_, ?_, ?_, ?_, ?_, ?_, ?_, ?_, ?_, ?_, ?_, ?_⟩ <;> (first | exact hI.x | exact hI.f0 | exact hI.f1 | exact hI.f2 | exact hI.f3 | exact hI.f4 | exact hI.f5 | exact hI.f6 | exact hI.f7 | exact hI.f8 | exact hI.f9 | exact hI.f10 | exact hI.f11 | exact hI.f12 | exact fun _ => rfl | skip))
      · intro L us wx K a ha hp hd hun hI hK
        have HX := hI.x
        clear hp HX
        replace hd := Lib.hid hd
        simp only [putAll, Act.put, List.setIfInBounds_toArray, List.set_cons_succ, List.set_cons_zero, Nat.reduceAdd] at ha
        subst ha
        simp only [Act.put, List.setIfInBounds_toArray, List.set_cons_succ, List.set_cons_zero] at hK
        go_simp
        refine hK _ _ ?_
        first
        | (refine ⟨hI.x, hI.f0, ?_, hI.f2, hI.f3, hI.f4, hI.f5, hI.f6, hI.f7, hI.f8, hI.f9, hI.f10, hI.f11, hI.f12⟩ <;> (first | exact fun _ => rfl | skip))
        | (refine ⟨?_, ?_, ?_, ?_, ?_, ?_, ?_, ?_, ?_, ?_, ?_, ?_, ?_, ?_⟩ <;> (first | exact hI.x | exact hI.f0 | exact hI.f1 | exact hI.f2 | exact hI.f3 | exact hI.f4 | exact hI.f5 | exact hI.f6 | exact hI.f7 | exact hI.f8 | exact hI.f9 | exact hI.f10 | exact hI.f11 | exact hI.f12 | exact fun _ => rfl | skip))
      · intro L us wx K a ha hp hd hun hI hK
        have HX := hI.x
        have u1 := hI.f1 (hp 1 (by kernel_rfl))
        have bb := (HBB.out.ext HX).cell
        clear hp HX
        replace hd := Lib.hid hd
        simp only [putAll, Act.put, List.setIfInBounds_toArray, List.set_cons_succ, List.set_cons_zero, Nat.reduceAdd, u1] at ha
        subst ha
        simp only [Act.put, List.setIfInBounds_toArray, List.set_cons_succ, List.set_cons_zero] at hK
        go_simp
        refine hK _ _ ?_
        first
        | (refine ⟨hI.x, hI.f0, hI.f1, ?_, hI.f3, hI.f4, hI.f5, hI.f6, hI.f7, hI.f8, hI.f9, hI.f10, hI.f11, hI.f12⟩ <;> (first | exact fun _ => rfl | skip))
        | (refine ⟨?_, ?_, ?_, ?_, ?_, ?_, ?_, ?_, ?_, ?_, ?_, ?_, ?_, ?_⟩ <;> (first | exact hI.x | exact hI.f0 | exact hI.f1 | exact hI.f2 | exact hI.f3 | exact hI.f4 | exact hI.f5 | exact hI.f6 | exact hI.f7 | exact hI.f8 | exact hI.f9 | exact hI.f10 | exact hI.f11 | exact hI.f12 | exact fun _ => rfl | skip))
      · intro L us wx K a ha hp hd hun hI hK
        have HX := hI.x
        have u0 := hI.f0 (hp 0 (by kernel_rfl))
        have u2 := hI.f2 (hp 2 (by kernel_rfl))
        clear hp HX
        replace hd := Lib.hid hd
        simp only [putAll, Act.put, List.setIfInBounds_toArray, List.set_cons_succ, List.set_cons_zero, Nat.reduceAdd, u0, u2] at ha
        subst ha
        simp only [Act.put, List.setIfInBounds_toArray, List.set_cons_succ, List.set_cons_zero] at hK
        go_simp
        refine hK _ _ ?_
        first
        | (refine ⟨hI.x, hI.f0, hI.f1, hI.f2, ?_, hI.f4, hI.f5, hI.f6, hI.f7, hI.f8, hI.f9, hI.f10, hI.f11, hI.f12⟩ <;> (first | exact fun _ => rfl | skip))
        | (refine ⟨?_, ?_, ?_, ?_, ?_, ?_, ?_, ?_, ?_, ?_, ?_, ?_, ?_, ?_⟩ <;> (first | exact hI.x | exact hI.f0 | exact hI.f1 | exact hI.f2 | exact hI.f3 | exact hI.f4 | exact hI.f5 | exact hI.f6 | exact hI.f7 | exact hI.f8 | exact hI.f9 | exact hI.f10 | exact hI.f11 | exact hI.f12 | exact fun _ => rfl | skip))
      · intro L us wx K a ha hp hd hun hI hK
        have HX := hI.x
        have u3 := hI.f3 (hp 3 (by kernel_rfl))
        have EX := HEX.out.trans HX
        have q0 := EX.cell Hq.out.1
        have q1 := EX.cell Hq.out.2.1
        have q2 := EX.cell Hq.out.2.2
        clear EX
        clear hp HX
        replace hd := Lib.hid hd
        simp only [putAll, Act.put, List.setIfInBounds_toArray, List.set_cons_succ, List.set_cons_zero, Nat.reduceAdd, u3] at ha
        subst ha
        simp only [Act.put, List.setIfInBounds_toArray, List.set_cons_succ, List.set_cons_zero] at hK
        go_simp
        refine hK _ _ ?_
        first
        | (refine ⟨hI.x, hI.f0, hI.f1, hI.f2, hI.f3, ?_, hI.f5, hI.f6, hI.f7, hI.f8, hI.f9, hI.f10, hI.f11, hI.f12⟩ <;> (first | exact fun _ => rfl | skip))
        | (refine ⟨?_, ?_, ?_, ?_, ?_, ?_, ?_, ?_, ?_, ?_, ?_, ?_, ?_, ?_⟩ <;> (first | exact hI.x | exact hI.f0 | exact hI.f1 | exact hI.f2 | exact hI.f3 | exact hI.f4 | exact hI.f5 | exact hI.f6 | exact hI.f7 | exact hI.f8 | exact hI.f9 | exact hI.f10 | exact hI.f11 | exact hI.f12 | exact fun _ => rfl | skip))
      · intro L us wx K a ha hp hd hun hI hK
        have HX := hI.x
        clear hp HX
        replace hd := Lib.hid hd
        simp only [putAll, Act.put, List.setIfInBounds_toArray, List.set_cons_succ, List.set_cons_zero, Nat.reduceAdd] at ha
        subst ha
        simp only [Act.put, List.setIfInBounds_toArray, List.set_cons_succ, List.set_cons_zero] at hK
        go_simp
        refine hK _ _ ?_
        first
        | (refine ⟨hI.x, hI.f0, hI.f1, hI.f2, hI.f3, hI.f4, ?_, hI.f6, hI.f7, hI.f8, hI.f9, hI.f10, hI.f11, hI.f12⟩ <;> (first | exact fun _ => rfl | skip))
        | (refine ⟨?_, ?_, ?_, ?_, ?_, ?_, ?_, ?_, ?_, ?_, ?_, ?_, ?_, ?_⟩ <;> (first | exact hI.x | exact hI.f0 | exact hI.f1 | exact hI.f2 | exact hI.f3 | exact hI.f4 | exact hI.f5 | exact hI.f6 | exact hI.f7 | exact hI.f8 | exact hI.f9 | exact hI.f10 | exact hI.f11 | exact hI.f12 | exact fun _ => rfl | skip))
      · intro L us wx K a ha hp hd hun hI hK
        have HX := hI.x
        have u5 := hI.f5 (hp 5 (by kernel_rfl))
        have bb := (HBB.out.ext HX).cell
        clear hp HX
        replace hd := Lib.hid hd
        simp only [putAll, Act.put, List.setIfInBounds_toArray, List.set_cons_succ, List.set_cons_zero, Nat.reduceAdd, u5] at ha
        subst ha
        simp only [Act.put, List.setIfInBounds_toArray, List.set_cons_succ, List.set_cons_zero] at hK
        go_simp
        refine hK _ _ ?_
        first
        | (refine ⟨hI.x, hI.f0, hI.f1, hI.f2, hI.f3, hI.f4, hI.f5, ?_, hI.f7, hI.f8, hI.f9, hI.f10, hI.f11, hI.f12⟩ <;> (first | exact fun _ => rfl | skip))
        | (refine ⟨?_, ?_, ?_, ?_, ?_, ?_, ?_, ?_, ?_, ?_, ?_, ?_, ?_, ?_⟩ <;> (first | exact hI.x | exact hI.f0 | exact hI.f1 | exact hI.f2 | exact hI.f3 | exact hI.f4 | exact hI.f5 | exact hI.f6 | exact hI.f7 | exact hI.f8 | exact hI.f9 | exact hI.f10 | exact hI.f11 | exact hI.f12 | exact fun _ => rfl | skip))
      · intro L us wx K a ha hp hd hun hI hK
        have HX := hI.x
        have u6 := hI.f6 (hp 6 (by kernel_rfl))
        clear hp HX
        replace hd := Lib.hid hd
        simp only [putAll, Act.put, List.setIfInBounds_toArray, List.set_cons_succ, List.set_cons_zero, Nat.reduceAdd, u6] at ha
        subst ha
        simp only [Act.put, List.setIfInBounds_toArray, List.set_cons_succ, List.set_cons_zero] at hK
        go_simp
        refine hK _ _ ?_
        first
        | (refine ⟨hI.x, hI.f0, hI.f1, hI.f2, hI.f3, hI.f4, hI.f5, hI.f6, ?_, hI.f8, hI.f9, hI.f10, hI.f11, hI.f12⟩ <;> (first | exact fun _ => rfl | skip))
        | (refine ⟨?_, ?_, ?_, ?_, ?_, ?_, ?_, ?_, ?_, ?_, ?_, ?_, ?_, ?_⟩ <;> (first | exact hI.x | exact hI.f0 | exact hI.f1 | exact hI.f2 | exact hI.f3 | exact hI.f4 | exact hI.f5 | exact hI.f6 | exact hI.f7 | exact hI.f8 | exact hI.f9 | exact hI.f10 | exact hI.f11 | exact hI.f12 | exact fun _ => rfl | skip))
        exact fun _ => congrArg (Value.int .i64) Hw.out
      · intro L us wx K a ha hp hd hun hI hK
        have HX := hI.x
        clear hp HX
        replace hd := Lib.hid hd
        simp only [putAll, Act.put, List.setIfInBounds_toArray, List.set_cons_succ, List.set_cons_zero, Nat.reduceAdd] at ha
        subst ha
        simp only [Act.put, List.setIfInBounds_toArray, List.set_cons_succ, List.set_cons_zero] at hK
        go_simp
        refine hK _ _ ?_
        first
        | (refine ⟨hI.x, hI.f0, hI.f1, hI.f2, hI.f3, hI.f4, hI.f5, hI.f6, hI.f7, ?_, hI.f9, hI.f10, hI.f11, hI.f12⟩ <;> (first | exact fun _ => rfl | skip))
        | (refine ⟨?_, ?_, ?_, ?_, ?_, ?_, ?_, ?_, ?_, ?_, ?_, ?_, ?_, ?_⟩ <;> (first | exact hI.x | exact hI.f0 | exact hI.f1 | exact hI.f2 | exact hI.f3 | exact hI.f4 | exact hI.f5 | exact hI.f6 | exact hI.f7 | exact hI.f8 | exact hI.f9 | exact hI.f10 | exact hI.f11 | exact hI.f12 | exact fun _ => rfl | skip))
      · intro L us wx K a ha hp hd hun hI hK
        have HX := hI.x
        have u8 := hI.f8 (hp 8 (by kernel_rfl))
        have bb := (HBB.out.ext HX).cell
        clear hp HX
        replace hd := Lib.hid hd
        simp only [putAll, Act.put, List.setIfInBounds_toArray, List.set_cons_succ, List.set_cons_zero, Nat.reduceAdd, u8] at ha
        subst ha
        simp only [Act.put, List.setIfInBounds_toArray, List.set_cons_succ, List.set_cons_zero] at hK
        go_simp
        refine hK _ _ ?_
        first
        | (refine ⟨hI.x, hI.f0, hI.f1, hI.f2, hI.f3, hI.f4, hI.f5, hI.f6, hI.f7, hI.f8, ?_, hI.f10, hI.f11, hI.f12⟩ <;> (first | exact fun _ => rfl | skip))
        | (refine ⟨?_, ?_, ?_, ?_, ?_, ?_, ?_, ?_, ?_, ?_, ?_, ?_, ?_, ?_⟩ <;> (first | exact hI.x | exact hI.f0 | exact hI.f1 | exact hI.f2 | exact hI.f3 | exact hI.f4 | exact hI.f5 | exact hI.f6 | exact hI.f7 | exact hI.f8 | exact hI.f9 | exact hI.f10 | exact hI.f11 | exact hI.f12 | exact fun _ => rfl | skip))
      · intro L us wx K a ha hp hd hun hI hK
        have HX := hI.x
        have u4 := hI.f4 (hp 4 (by kernel_rfl))
        have u7 := hI.f7 (hp 7 (by kernel_rfl))
        have u9 := hI.f9 (hp 9 (by kernel_rfl))
        have EX := Lib.hid (HEX.out.trans HX)
        clear hp HX
        replace hd := Lib.hid hd
        simp only [putAll, Act.put, List.setIfInBounds_toArray, List.set_cons_succ, List.set_cons_zero, Nat.reduceAdd, u4, u7, u9] at ha
        subst ha
        simp only [Act.put, List.setIfInBounds_toArray, List.set_cons_succ, List.set_cons_zero] at hK
        go_simp
        go_at_call 57
        refine (CL.out _ EX.out).mono ?_
        rintro e wn ⟨g2, hg, rfl, q1, En⟩
        go_simp
        refine hK _ _ ?_
        first
        | (refine ⟨hI.x.trans En, hI.f0, hI.f1, hI.f2, hI.f3, hI.f4, hI.f5, hI.f6, hI.f7, hI.f8, hI.f9, ?_, hI.f11, hI.f12⟩ <;> (first | exact fun h => (hI.f10 h).ext En | exact fun h => own_ext (hI.f10 h) En | exact fun _ => rfl | skip))
        | (refine ⟨hI.x.trans En, ?_, ?_, ?_, ?_, ?_, ?_, ?_, ?_, ?_, ?_, ?_, ?_, ?_⟩ <;> (first | exact hI.f0 | exact hI.f1 | exact hI.f2 | exact hI.f3 | exact hI.f4 | exact hI.f5 | exact hI.f6 | exact hI.f7 | exact hI.f8 | exact hI.f9 | exact fun h => (hI.f10 h).ext En | exact hI.f11 | exact hI.f12 | exact fun _ => rfl | skip))
        all_goals exact fun _ => ⟨rfl, q1⟩
      · intro L us wx K a ha hp hd hun hI hK
        have HX := hI.x
        have u10 := hI.f10 (hp 10 (by kernel_rfl))
        have e10 := u10.1
        obtain ⟨gq, hgq⟩ : ∃ gq, bk (us 10) = gq := ⟨_, rfl⟩
        rw [hgq] at e10
        clear hgq u10
        clear hp HX
        replace hd := Lib.hid hd
        simp only [putAll, Act.put, List.setIfInBounds_toArray, List.set_cons_succ, List.set_cons_zero, Nat.reduceAdd, e10] at ha
        subst ha
        simp only [Act.put, List.setIfInBounds_toArray, List.set_cons_succ, List.set_cons_zero] at hK
        go_simp
        refine hK _ _ ?_
        first
        | (refine ⟨hI.x, hI.f0, hI.f1, hI.f2, hI.f3, hI.f4, hI.f5, hI.f6, hI.f7, hI.f8, hI.f9, hI.f10, ?_, hI.f12⟩ <;> (first | exact fun _ => rfl | skip))
        | (refine ⟨?_, ?_, ?_, ?_, ?_, ?_, ?_, ?_, ?_, ?_, ?_, ?_, ?_, ?_⟩ <;> (first | exact hI.x | exact hI.f0 | exact hI.f1 | exact hI.f2 | exact hI.f3 | exact hI.f4 | exact hI.f5 | exact hI.f6 | exact hI.f7 | exact hI.f8 | exact hI.f9 | exact hI.f10 | exact hI.f11 | exact hI.f12 | exact fun _ => rfl | skip))
      · intro L us wx K a ha hp hd hun hI hK
        have HX := hI.x
        clear hp HX
        replace hd := Lib.hid hd
        simp only [putAll, Act.put, List.setIfInBounds_toArray, List.set_cons_succ, List.set_cons_zero, Nat.reduceAdd] at ha
        subst ha
        simp only [Act.put, List.setIfInBounds_toArray, List.set_cons_succ, List.set_cons_zero] at hK
        go_simp
        refine hK _ _ ?_
        first
        | (refine ⟨hI.x, hI.f0, hI.f1, hI.f2, hI.f3, hI.f4, hI.f5, hI.f6, hI.f7, hI.f8, hI.f9, hI.f10, hI.f11, ?_⟩ <;> (first | exact fun _ => rfl | skip))
        | (refine ⟨?_, ?_, ?_, ?_, ?_, ?_, ?_, ?_, ?_, ?_, ?_, ?_, ?_, ?_⟩ <;> (first | exact hI.x | exact hI.f0 | exact hI.f1 | exact hI.f2 | exact hI.f3 | exact hI.f4 | exact hI.f5 | exact hI.f6 | exact hI.f7 | exact hI.f8 | exact hI.f9 | exact hI.f10 | exact hI.f11 | exact hI.f12 | exact fun _ => rfl | skip))
      intro L us wx hall hI
      obtain ⟨e10, BC⟩ := hI.f10 (hall 10 (by simp))
      have e11 := hI.f11 (hall 11 (by simp))
      have e12 := hI.f12 (hall 12 (by simp))
      have EX := hI.x
      obtain ⟨gc, hgc⟩ : ∃ gc, bk (us 10) = gc := ⟨_, rfl⟩
      rw [hgc] at e10 BC
      simp only [putAll, Act.put, List.setIfInBounds_toArray, List.set_cons_succ, List.set_cons_zero, Nat.reduceAdd, e10, e11, e12]
      have IX := IB.ext EX
      have MX := MB.ext EX
      have ErX := HEX.out.trans EX
      clear hall hI e10 e11 e12 hgc IB MB EX Er IM M2 hWB
      obtain ⟨i9, hi9, hz9, hz91, hz92⟩ := info_parts infoInt
      go_wp2_with fail
      go_loopw [56] (fun ii wr' => ∃ (q : Nat) (m : List (Pt × Value)) (m2 : List ((Int × Int) × Bool)), q ≤ n ∧ ii = .int .i64 q ∧ Ext W1 wr' ∧ Blk wr' gc 53 (ptsA Lc) ∧ InM wr' (T + 1) M m (inF ks bs j q) ∧ MapOf encPr Value.bool wr' (M + 1) m2 ∧ Keys m2 (P1 ks bs j q)) (fun ii _ => n - (intOf ii).toNat)
      case atStart => exact ⟨0, m, m2, by omega, rfl, ErX, BC, IX.congr (fun c => inF_zero ks bs j c), MX, K2.congr (fun y => P1_zero)⟩
      case round =>
        clear ErX BC IX MX K2
        obtain ⟨q, m, m2, hqn, rfl, Er, BC, IM, M2, K2⟩ := hrel
        by_cases hqt : q < n
        · obtain ⟨gc', o', ⟨x1, y1, z1⟩, ho, hc, -, c0, c1, c2⟩ := (cells_of_blk BC Hln.out Hn40.out).at_ (k := q) (by have := Hln.out; omega)
          obtain ⟨rfl, rfl⟩ : gc = gc' ∧ 0 = o' := by
            simp only [Option.some.injEq, Addr.mk.injEq] at ho
            exact ⟨ho.1, ho.2.1⟩
          clear ho
          simp only [Nat.zero_add] at c0 c1 c2
          rw [← Hbc.out] at hc
          have Hc := Lib.hid hc
          have Hfl := Lib.hid (inF_at hc Hnd.out)
          clear hc
          obtain ⟨WC, hWC, EC, BX, hzC⟩ := mk_ wr #[.int .i64 x1, .int .i64 y1, .int .i64 z1] 53
          obtain ⟨X, hX⟩ : ∃ X, wr.heap.size = X := ⟨_, rfl⟩
          have bx := BX.cell
          rw [hX] at BX
          have HX := Lib.hid hX
          have IC := IM.ext EC
          have MC := M2.ext EC
          have BCC := BC.ext EC
          have ErC := Er.trans EC
          have lk := look_row IC.map x1 y1 z1
          have own := IC.own ⟨x1, y1, z1⟩
          rw [Hfl.out] at own
          obtain ⟨l, hl⟩ : ∃ l, inA ks bs j ⟨x1, y1, z1⟩ = l := ⟨_, rfl⟩
          have Hl40 := Lib.hid (show l.length ≤ j by rw [← hl]; exact inA_len _ _ _ _)
          rw [hl] at own Hfl
          obtain ⟨ln, hln⟩ : ∃ n, l.length = n := ⟨_, rfl⟩
          rw [hln] at own Hl40
          obtain ⟨RA, rc, hv⟩ := ownForm own
          rw [hv] at own lk
          have Hl := Lib.hid hl
          have Hln2 := Lib.hid hln
          have Hv := Lib.hid hv
          have Hown := Lib.hid own
          clear hv hl hln hzC hX IM M2 BC Er
          go_wp2_with fail
          rw [HX.out]
          clear lk own c0 c1 c2 hWC bx EC
          go_loopw [64] (fun ii wr' => ∃ (t : Nat) (m2 : List ((Int × Int) × Bool)), t ≤ ln ∧ ii = .int .i64 t ∧ Ext W1 wr' ∧ Blk wr' gc 53 (ptsA Lc) ∧ Blk wr' X 53 #[.int .i64 x1, .int .i64 y1, .int .i64 z1] ∧ InM wr' (T + 1) M m (inF ks bs j q) ∧ MapOf encPr Value.bool wr' (M + 1) m2 ∧ Keys m2 (P2 ks bs j q l t)) (fun ii _ => ln - (intOf ii).toNat)
          case atStart => exact ⟨0, m2, by omega, rfl, ErC, BCC, BX, IC, MC, K2.congr (fun y => P2_zero)⟩
          case round =>
            clear ErC BCC BX IC MC K2 Hown
            obtain ⟨t, m2, htn, rfl, Er, BC, BX, IM, M2, K2⟩ := hrel
            have own := IM.own ⟨x1, y1, z1⟩
            rw [Hfl.out, Hln2.out, Hv.out] at own
            have hj40 := Hl40.out
            by_cases htt : t < ln
            · obtain ⟨gr, xv, rfl, hxv, cx⟩ := ownNum own Hln2.out htt
              have Hxv := Lib.hid hxv
              clear own hxv
              go_wp2_with (at_mapUpdate; refine wpList_put prKey rfl _ _ _ 131 rfl 4 Tryz.underlying131 (M + 1) m2 (xv, (j : Int)) true rfl M2 rfl rfl ?_; intro w6 M6 hg6 hz6)
              go_roundw
              case rel =>
                have hm1 := HMl.out
                refine ⟨t + 1, _, by omega, by go_num, Er.grown hg6 (fun r hr => by cases hr; have := HZ.out; omega), BC.grown hg6 (fun e => (M2.blk_ne BC) (by cases e; rfl)), BX.grown hg6 (fun e => (M2.blk_ne BX) (by cases e; rfl)), IM.other M2 (by omega) hg6, M6, K2.put _ _ (fun y => P2_succ Hxv.out)⟩
              case measure => simp only [intOf]; omega
            · obtain rfl : t = ln := by omega
              clear own
              obtain ⟨WS, hWS, ES, BS, hzS⟩ := mk_ wr #[.int .i64 j] 3
              obtain ⟨Y, hY⟩ : ∃ Y, wr.heap.size = Y := ⟨_, rfl⟩
              rw [hY] at BS
              have HY := Lib.hid hY
              have bx := BX.cell
              have IS := IM.ext ES
              have MS := M2.ext ES
              have BCS := BC.ext ES
              have ErS := Er.trans ES
              have hTS : T + 1 ≤ WS.heap.size := by have := ErS.size; have := HZ.out; omega
              have HTS := Lib.hid hTS
              have hgd := Lib.hid (show (getK m ⟨x1, y1, z1⟩).getD nilV = .slice RA t rc from Hv.out)
              have hn4 := Hn40.out
              clear hzS hY BX hTS
              have hjb : ((t + 1) * 8 ≤ 140737488355328) := by omega
              have htm : t + 1 ≤ maxLen := by unfold maxLen; omega
              go_wp2_with (first
                | (refine at_entry ?_; refine wpList_entry (ev := (id : Value → Value)) ptKey rfl _ _ _ rfl 41 Tryz.underlying130 nilV (by kernel_rfl) M m ⟨x1, y1, z1⟩ rfl IS.map rfl ?_; intro wE born EE gE zE; rw [id, hgd.out]; have BE := Lib.hid (BS.grown gE (fun e => (IS.map.blk_ne BS) (by cases e; rfl))); have BEc := BE.out.cell; have hTE : T + 1 ≤ wE.heap.size := (by rw [zE]; exact HTS.out); have ownE : wE.ownsRow (T + 1) 3 1 (.slice RA t rc) t (l.map numC) := (by have h1 := IS.own ⟨x1, y1, z1⟩; have h2 := ownGrown h1 gE (Or.inr (ownMap h1 IS.map).symm); rw [hgd.out, Hfl.out, Hln2.out] at h2; exact h2); clear zE)
                | (at_builtin; refine wpList_append_fate rfl (.tmp 75) (.tmp 77) 41 rfl (T + 1) 3 i9 _ 1 8 Tryz.underlying41 hi9 hz9 hz91 hz92 rfl (by decide) _ t (l.map numC) rfl ownE Y 1 [numC j] (by rw [← HY.out]; rfl) rfl (fun k => by rw [BE.out.cell]; rcases k with _ | _ <;> rfl) (by simp [numC, Value.oneCell']) htm hjb hTE ?_; intro v7 w7 F7; obtain ⟨row, hrow, n1, n2, n3⟩ := F7.rest ownE; obtain ⟨F1, g7, cap7, rfl, F2⟩ := F7; have E7 := EE.grown hrow (n2 _ _ _ _ _ _ EE.map))
                | (refine at_estore ?_; refine wpList_estore (ev := (id : Value → Value)) (enc := encPt) rfl _ _ _ _ rfl M _ ⟨x1, y1, z1⟩ born (.slice (some ⟨g7, 0, none⟩) (t + 1) cap7) rfl E7 rfl rfl ?_; intro w8 M8 g8 z8))
              go_roundw
              case rel =>
                have hm1 := HMl.out
                have hz := HZ.out
                have hMW : ∀ k, some M = some k → W1.heap.size ≤ k := fun k hk => by cases hk; omega
                have hneM : ∀ {w : World} {m : List (Pt × Value)} {g : Nat} {t : TypeId} {cs : Array Value}, MapOf encPt (id : Value → Value) w M m → Blk w g t cs → some g ≠ some M := fun hm hb e => hm.blk_ne hb (by cases e; rfl)
                have BCE := BCS.grown gE (hneM IS.map BCS)
                have BC7 := BCE.grown hrow (n1 _ _ _ BCE (by decide))
                have ME := MS.grown gE (by simp)
                have M7 := ME.grown hrow (n2 _ _ _ _ _ _ ME)
                have FF : Fate wE w7 (T + 1) 3 1 ((getK m ⟨x1, y1, z1⟩).getD nilV) (.slice (some ⟨g7, 0, none⟩) (t + 1) cap7) (inF ks bs j q ⟨x1, y1, z1⟩).length ((inF ks bs j q ⟨x1, y1, z1⟩).map numC) [numC j] := by
                  rw [hgd.out, Hfl.out, Hln2.out]
                  exact ⟨F1, g7, cap7, rfl, F2⟩
                have IN := IS.step gE FF g8 (by rw [putK_put] at M8; exact M8) ⟨_, EE.map⟩ ⟨_, E7.map⟩
                refine ⟨q + 1, _, m2, by omega, by go_num, ((ErS.grown gE hMW).grown hrow (fun k hk => by have := n3 k hk; omega)).grown g8 hMW, BC7.grown g8 (hneM E7.map BC7), IN.congr (fun d => inF_step Hc.out Hnd.out d), M7.grown g8 (by simp), K2.congr (fun y => ?_)⟩
                have := P2_all (p := y) Hc.out (l := l) Hl.out.symm
                rw [Hln2.out] at this
                exact this.symm
              case measure => simp only [intOf]; omega
        · obtain rfl : q = n := by omega
          go_wp2_with fail
          go_roundw
          case rel =>
            refine ⟨j + 1, m, m2, by omega, by go_num, Er, IM.congr (fun c => ?_), M2, K2.congr (fun y => ?_)⟩
            · have := inF_all ks bs j c
              rw [Hbc.out, Hln.out] at this
              exact this.symm
            · have := P1_all (ks := ks) (bs := bs) (j := j) (p := y)
              rw [Hbc.out, Hln.out] at this
              exact this.symm
          case measure => simp only [intOf]; omega
    · obtain rfl : j = nb := by omega
      obtain ⟨i9, hi9, hz9, hz91, hz92⟩ := info_parts info2
      rw [← Hnb.out] at K2
      have HKl := Lib.hid (keys_len K2 (by rw [Hnb.out]; exact hbn))
      have HK2 := Lib.hid K2
      obtain ⟨R, hR⟩ : ∃ R, wr.heap.size = R := ⟨_, rfl⟩
      have HR := Lib.hid hR
      have hTR : T + 1 ≤ R := by have := Er.size; have := HZ.out; omega
      clear hR b1 K2 IM
      go_wp2_with (at_range; refine wpList_rng (enc := encPr) (ev := Value.bool) rfl _ 131 rfl 4 Tryz.underlying131 (M + 1) m2 rfl M2 ?_; intro w6 R6 g6 z6; rw [HR.out] at R6 z6)
      rw [HR.out]
      simp only [Act.put, List.setIfInBounds_toArray, List.set_cons_succ, List.set_cons_zero]
      have E6 := Er.grown g6 (fun k hk => nomatch hk)
      clear M2 Er
      go_loopw [16] (fun u wr' => ∃ (done left : List (Int × Int)) (v : Value), u = v ∧ RngOf encPr Value.bool wr' (M + 1) R m2 done left ∧ Ext W1 wr' ∧ T + 1 ≤ wr'.heap.size ∧ wr'.ownsRow (T + 1) 133 2 v done.length (done.map prC).flatten) (fun _ wr' => wr'.rangeLeft (M + 1) R)
      case atStart => exact ⟨[], _, _, rfl, R6, E6, by omega, World.ownsRow_nil _ _ _ _⟩
      case round =>
        clear R6 E6 g6 z6
        obtain ⟨done, left, v, rfl, RR, Er, hTw, own⟩ := hrel
        have Hle := Lib.hid RR.left_eq
        obtain ⟨es, clock, since, seen, c0, -, -, -, -, -, -, -, -, hperm⟩ := id RR
        have hdl : done.length ≤ 1600 := by
          have h1 := hperm.length_eq
          rw [List.length_append, List.length_map] at h1
          have := HKl.out
          omega
        have Hperm := Lib.hid hperm
        clear hperm
        by_cases hle : left = []
        · subst hle
          rw [List.append_nil] at Hperm
          go_wp2_with (at_next; refine wpList_nxt (enc := encPr) (ev := Value.bool) rfl _ rfl (M + 1) R m2 done [] rfl RR (fun _ => ?_) (fun x u left' w' h1 h2 => absurd h2 (by simp)))
          have hs : sortR done = overL ks bs j := by
            have := sortR_keys HK2.out Hperm.out
            rwa [Hnb.out] at this
          have Hs := Lib.hid hs
          have HEr := Lib.hid Er
          rcases own.2 with ⟨rfl, hd0⟩ | ⟨g, cap, cur, rfl, -⟩
          · obtain rfl := List.eq_nil_of_length_eq_zero hd0
            clear hs Er own RR hd0 Hle hdl
            go_wp2_with fail
            refine (sortNil_c _ _).mono ?_
            rintro e w9 ⟨rfl, rfl⟩
            go_wp2_with fail
            go_ret2
            unfold PrsRes
            rw [← Hs.out, show sortR [] = [] from List.eq_nil_of_length_eq_zero (List.length_mergeSort _)]
            exact ⟨none, 0, rfl, prs_nil _, HE.out.trans HEr.out⟩
          · obtain ⟨RX, hg1, hc1, hc2⟩ := RowX.of_own (rows := done.map prC) own
            have SC := sort2_c done g cap wr RX (by omega)
            have Hg := Lib.hid hg1
            have Hc := Lib.hid (And.intro hc1 hc2)
            clear hs Er own RR hg1 hc1 hc2
            go_wp2_with fail
            refine SC.mono ?_
            rintro e w9 ⟨rfl, RY, g9⟩
            go_wp2_with fail
            go_ret2
            unfold PrsRes
            rw [← Hs.out]
            have hl : (sortR done).length = done.length := List.length_mergeSort _
            have h1 := Hg.out
            have h2 := HT.out
            refine ⟨some ⟨g, 0, none⟩, cap, by rw [hl]; rfl, RY.slice (prs_wide _) (by rw [List.length_map]) (by rw [hl]; exact Hc.out.1) Hc.out.2, (HE.out.trans HEr.out).grown g9 (fun k hk => by have := Option.some.inj hk; omega)⟩
        · have hlX : done.length + 1 ≤ maxLen := by unfold maxLen; omega
          have hby : (done.length + 1) * 16 ≤ 140737488355328 := by omega
          have hMT := HMl.out
          have hZ1 := HZ.out
          go_wp2_with (first
            | (at_next; refine wpList_nxt (enc := encPr) (ev := Value.bool) rfl _ rfl (M + 1) R m2 done left rfl RR (fun h => absurd h hle) ?_; intro x u left' w6 R6 hlt6 g6 z6 ent; obtain ⟨xa, xb⟩ := x; rw [show encPr (xa, xb) = .agg #[.int .i64 xa, .int .i64 xb] from rfl] at ent ⊢; obtain ⟨W7, hW7, E7, B7, hz7⟩ := mk_ w6 #[.int .i64 xa, .int .i64 xb] 133; have b7 := B7.cell; have own7 := own_ext (ownGrown own g6 (Or.inr (ownRng own RR).2.symm)) E7; have R7 := R6.ext E7; have hT7 : T + 1 ≤ W7.heap.size := (by rw [hz7, z6]; omega); clear hz7 z6)
            | (at_builtin; refine wpList_append_one #[.int .i64 xa, .int .i64 xb] rfl (.tmp 89) (.tmp 91) 86 rfl (T + 1) 133 133 i9 _ 2 16 Tryz.underlying86 hi9 hz9 hz91 hz92 rfl (by decide) _ _ _ _ rfl own7 rfl rfl (by simp [Value.oneCell']) hlX hby hT7 ?_; intro g8 cap8 w8 own8 hg8))
          have HR8 := Lib.hid (show RngOf encPr Value.bool w8 (M + 1) R m2 (done ++ [(xa, xb)]) left' by
            have RA := R7.ext ((Ext.refl W7).alloc (.cells #[.int .i64 xa, .int .i64 xb] 133))
            have ownA := own_ext own7 ((Ext.refl W7).alloc (.cells #[.int .i64 xa, .int .i64 xb] 133))
            exact RA.kept hg8 (ownRng ownA RA).1 (ownRng ownA RA).2)
          go_roundw
          case rel =>
            have ownA := own_ext own7 ((Ext.refl W7).alloc (.cells #[.int .i64 xa, .int .i64 xb] 133))
            have E8 : Ext W1 w8 := (((Er.grown g6 (fun k hk => by have := Option.some.inj hk; omega)).trans E7).alloc _).grown hg8 (fun r hr => by have := (ownA.lt r hr).1; omega)
            refine ⟨done ++ [(xa, xb)], left', _, rfl, HR8.out, E8, by have := E8.size; omega, ?_⟩
            rw [List.length_append, List.map_append, List.flatten_append]
            exact own8
          case measure =>
            rw [HR8.out.left_eq, Hle.out]
            exact hlt6
theorem overlaps_c (qs : List (Knd × KAt)) (QA : Option Addr) (qc : Nat) (bs : List Brk) (B : Option Addr) (cb : Nat) (w : World) (hk : Kinds w QA qc qs) (hb : Bricks w B cb bs) :
    Calls Tryz.prog 27 #[.slice QA qs.length qc, .agg #[.slice B bs.length cb]] w (PrsRes (ovRes (qs.map (·.1)) bs) (modelErr (qs.map (·.1)) bs) w) := by
  by_cases h0 : modelErr (qs.map (·.1)) bs = 0
  · have := overlapsG_c qs QA qc bs B cb w hk hb h0
    rw [ovRes, if_pos h0, h0]
    exact this
  · exact overlapsE_c qs QA qc bs B cb w hk hb h0
end Go.Proofs.YtaaeapjnjjbglaaGreatDoor.Lat
namespace Go.Proofs.YtaaeapjnjjbglaaGreatDoor.Lat
open Go.RowKit

set_option maxHeartbeats 1600000 in
theorem checkM_c (qs : List (Knd × KAt)) (QA : Option Addr) (qc : Nat) (bs : List Brk) (B : Option Addr) (cb : Nat) (w : World) (hk : Kinds w QA qc qs) (hb : Bricks w B cb bs) :
    Calls Tryz.prog 11 #[.slice QA qs.length qc, .agg #[.slice B bs.length cb]] w fun e w' => e = .returned (.int .i64 (checkErr (qs.map (·.1)) bs)) ∧ Ext w w' := by
  obtain ⟨W1, hW1, E1, B1, hz1⟩ := mk_ w #[.slice B bs.length cb] 31
  have b1 := B1.cell
  clear hz1
  have OV := overlaps_c qs QA qc bs B cb W1 (hk.ext E1) (hb.ext E1)
  obtain ⟨r, hr⟩ : ∃ r, modelErr (qs.map (·.1)) bs = r := ⟨_, rfl⟩
  obtain ⟨L, hL⟩ : ∃ L, ovRes (qs.map (·.1)) bs = L := ⟨_, rfl⟩
  have hc : checkErr (qs.map (·.1)) bs = if r = 0 then (if L = [] then 0 else 12) else r := by
    unfold checkErr
    rw [hr]
    by_cases h0 : r = 0
    · rw [if_pos h0, if_pos h0, ← hL, ovRes, hr, if_pos h0]
    · rw [if_neg h0, if_neg h0]
  rw [hr, hL] at OV
  rw [hc]
  clear hr hL hc hk hb
  by_cases h0 : r = 0
  · subst h0
    by_cases hn : L.length = 0
    · have Hv := Lib.hid (show (if (0 : Int) = 0 then (if L = [] then 0 else 12) else 0) = (0 : Int) by rw [if_pos rfl, if_pos (List.eq_nil_of_length_eq_zero hn)])
      have hn' : ¬ (0 : Int) < L.length := by omega
      rw [Hv.out]
      clear Hv hn
      go_enter Tryz.func11, Tryz.ntmps11
      go_wp2_with fail
      refine OV.mono ?_
      rintro e W2 ⟨RA, rc, rfl, S1, E2⟩
      go_wp2_with fail
      go_ret
      exact ⟨rfl, E1.trans E2⟩
    · have Hv := Lib.hid (show (if (0 : Int) = 0 then (if L = [] then 0 else 12) else 0) = (12 : Int) by rw [if_pos rfl, if_neg (by rintro rfl; exact hn rfl)])
      have hn' : (0 : Int) < L.length := by omega
      rw [Hv.out]
      clear Hv hn
      go_enter Tryz.func11, Tryz.ntmps11
      go_wp2_with fail
      refine OV.mono ?_
      rintro e W2 ⟨RA, rc, rfl, S1, E2⟩
      go_wp2_with fail
      go_ret
      exact ⟨rfl, E1.trans E2⟩
  · have h1 : (r == 0) = false := by simpa using h0
    rw [if_neg h0]
    clear h0
    go_enter Tryz.func11, Tryz.ntmps11
    go_wp2_with fail
    refine OV.mono ?_
    rintro e W2 ⟨RA, rc, rfl, S1, E2⟩
    go_wp2_with fail
    go_ret
    exact ⟨rfl, E1.trans E2⟩
end Go.Proofs.YtaaeapjnjjbglaaGreatDoor.Lat
