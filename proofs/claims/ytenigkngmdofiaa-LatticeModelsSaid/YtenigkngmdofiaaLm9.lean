/- Overlaps and Check of the reference. No conditions. The cells of a valid brick are all different; what the program's Overlaps gathers, plain. Maps that the call makes, whose keys are structs or arrays: m[k] = append(m[k], ..) (an entry, and the store into it), and a range over one. Contracts of the shelf, laid at this program in plain declarations (written by program): slices.SortFunc[[][2]int,[2]int]. slices.SortFunc on pairs of numbers, by the program's comparison: the row holds the sorted pairs. The two maps that the program's Overlaps fills: rows of brick numbers by cell, and the pairs. slices.SortFunc on no pairs. Overlaps of the program. No conditions. -/
import Derived.Test.YtenigkngmdofiaaLm8
import Derived.Maps.RangeRun
import Derived.Maps.RangeWalk
import Derived.Shelf.SlLaysF0
import Derived.Test.YtenigkngmdofiaaProg

namespace Go.Proofs.Ytenigkngmdofiaa
open Go.RowKit

def checkErr (ks : List Knd) (bs : List Brk) : Int := if modelErr ks bs = 0 then (if overL ks bs bs.length = [] then 0 else 12) else modelErr ks bs
theorem checkErr_bad {ks : List Knd} {bs : List Brk} {e : Int} (h : modelErr ks bs = e) (h0 : e ≠ 0) : checkErr ks bs = e := by rw [checkErr, h, if_neg h0]
theorem checkErr_nil {ks : List Knd} {bs : List Brk} (h : modelErr ks bs = 0) (h0 : overL ks bs bs.length = []) : checkErr ks bs = 0 := by rw [checkErr, if_pos h, if_pos h0]
theorem checkErr_over {ks : List Knd} {bs : List Brk} (h : modelErr ks bs = 0) (h0 : overL ks bs bs.length ≠ []) : checkErr ks bs = 12 := by rw [checkErr, if_pos h, if_neg h0]
theorem rBricks_is {qs : List (Knd × KAt)} {A : Option Addr} {cap : Nat} {bs : List Brk} {B : Option Addr} {cb : Nat} {e0 : Int} (h : modelErr (qs.map (·.1)) bs = e0) {w : World} (hk : Kinds w A cap qs) (hb : Bricks w B cb bs) :
    Calls Try.prog 74 #[.slice A qs.length cap, .agg #[.slice B bs.length cb]] w fun e w' => e = .returned (.int .i64 e0) ∧ Ext w w' := by
  subst h
  exact rBricks_c _ _ _ _ _ _ _ hk hb
/-- The pairs, or the error. -/
def ovRes (ks : List Knd) (bs : List Brk) : List (Int × Int) := if modelErr ks bs = 0 then overL ks bs bs.length else []
def PrsRes (l : List (Int × Int)) (e0 : Int) (w : World) (e : Ending) (w' : World) : Prop := ∃ A cap, e = .returned (.tuple #[.slice A l.length cap, .int .i64 e0]) ∧ Prs w' A cap l ∧ Ext w w'
theorem prs_nil (w : World) : Prs w none 0 [] := ⟨rfl, Nat.le_refl _, Nat.zero_le _, by simp, fun h => by cases h⟩
set_option maxHeartbeats 1600000 in
theorem rOverlaps_c (qs : List (Knd × KAt)) (QA : Option Addr) (qc : Nat) (bs : List Brk) (B : Option Addr) (cb : Nat) (w : World) (hk : Kinds w QA qc qs) (hb : Bricks w B cb bs) :
    Calls Try.prog 32 #[.slice QA qs.length qc, .agg #[.slice B bs.length cb]] w (PrsRes (ovRes (qs.map (·.1)) bs) (modelErr (qs.map (·.1)) bs) w) := by
  obtain ⟨W1, hW1, E1, B1, hz1⟩ := mk_ w #[.slice B bs.length cb] 46
  have b1 := B1.cell
  clear hz1
  obtain ⟨r, hr⟩ : ∃ r, modelErr (qs.map (·.1)) bs = r := ⟨_, rfl⟩
  have CB := rBricks_is hr (hk.ext E1) (hb.ext E1)
  by_cases h0 : r = 0
  · subst h0
    have OV := Lib.hid (fun W (E : Ext w W) => overlapping_c qs QA qc bs B cb W (hk.ext E) (hb.ext E) (mfine_of hk hb.2 hr))
    have Ho := Lib.hid (show ovRes (qs.map (·.1)) bs = overL (qs.map (·.1)) bs bs.length by rw [ovRes, if_pos hr])
    have Hr := Lib.hid hr
    clear hr hk hb
    go_enter Try.func32, Try.ntmps32
    go_wp2_with fail
    refine CB.mono ?_
    rintro e W2 ⟨rfl, E2⟩
    have b2 := (B1.ext E2).cell
    go_wp2_with fail
    refine (OV.out _ (E1.trans E2)).mono ?_
    rintro e W3 ⟨RA, rc, rfl, S1, E3⟩
    go_wp2_with fail
    go_ret2
    unfold PrsRes
    rw [Ho.out, Hr.out]
    exact ⟨RA, rc, rfl, S1, (E1.trans E2).trans E3⟩
  · have Ho := Lib.hid (show ovRes (qs.map (·.1)) bs = [] by rw [ovRes, if_neg (by rw [hr]; exact h0)])
    have Hr := Lib.hid hr
    have h1 : (r != 0) = true := by simpa using h0
    clear hr h0 hk hb
    go_enter Try.func32, Try.ntmps32
    go_wp2_with fail
    refine CB.mono ?_
    rintro e W2 ⟨rfl, E2⟩
    go_wp2_with fail
    go_ret2
    unfold PrsRes
    rw [Ho.out, Hr.out]
    exact ⟨none, 0, rfl, prs_nil _, E1.trans E2⟩
set_option maxHeartbeats 1600000 in
theorem rCheck_c (qs : List (Knd × KAt)) (QA : Option Addr) (qc : Nat) (bs : List Brk) (B : Option Addr) (cb : Nat) (w : World) (hk : Kinds w QA qc qs) (hb : Bricks w B cb bs) :
    Calls Try.prog 35 #[.slice QA qs.length qc, .agg #[.slice B bs.length cb]] w fun e w' => e = .returned (.int .i64 (checkErr (qs.map (·.1)) bs)) ∧ Ext w w' := by
  obtain ⟨W1, hW1, E1, B1, hz1⟩ := mk_ w #[.slice B bs.length cb] 46
  have b1 := B1.cell
  clear hz1
  obtain ⟨r, hr⟩ : ∃ r, modelErr (qs.map (·.1)) bs = r := ⟨_, rfl⟩
  have CB := rBricks_is hr (hk.ext E1) (hb.ext E1)
  by_cases h0 : r = 0
  · subst h0
    have OV := Lib.hid (fun W (E : Ext w W) => overlapping_c qs QA qc bs B cb W (hk.ext E) (hb.ext E) (mfine_of hk hb.2 hr))
    obtain ⟨L, hL⟩ : ∃ L, overL (qs.map (·.1)) bs bs.length = L := ⟨_, rfl⟩
    rw [hL] at OV
    by_cases hn : L.length = 0
    · have Hv := Lib.hid (checkErr_nil hr (by rw [hL]; exact List.eq_nil_of_length_eq_zero hn))
      have hn' : ¬ (0 : Int) < L.length := by omega
      clear hr hL hn hk hb
      go_enter Try.func35, Try.ntmps35
      go_wp2_with fail
      refine CB.mono ?_
      rintro e W2 ⟨rfl, E2⟩
      have b2 := (B1.ext E2).cell
      go_wp2_with fail
      refine (OV.out _ (E1.trans E2)).mono ?_
      rintro e W3 ⟨RA, rc, rfl, S1, E3⟩
      go_wp2_with fail
      go_ret
      exact ⟨by rw [Hv.out]; rfl, (E1.trans E2).trans E3⟩
    · have Hv := Lib.hid (checkErr_over hr (by rw [hL]; rintro rfl; exact hn rfl))
      have hn' : (0 : Int) < L.length := by omega
      clear hr hL hn hk hb
      go_enter Try.func35, Try.ntmps35
      go_wp2_with fail
      refine CB.mono ?_
      rintro e W2 ⟨rfl, E2⟩
      have b2 := (B1.ext E2).cell
      go_wp2_with fail
      refine (OV.out _ (E1.trans E2)).mono ?_
      rintro e W3 ⟨RA, rc, rfl, S1, E3⟩
      go_wp2_with fail
      go_ret
      exact ⟨by rw [Hv.out]; rfl, (E1.trans E2).trans E3⟩
  · have Hv := Lib.hid (checkErr_bad hr h0)
    have h1 : (r != 0) = true := by simpa using h0
    clear hr h0 hk hb
    go_enter Try.func35, Try.ntmps35
    go_wp2_with fail
    refine CB.mono ?_
    rintro e W2 ⟨rfl, E2⟩
    go_wp2_with fail
    go_ret
    exact ⟨by rw [Hv.out]; rfl, E1.trans E2⟩
end Go.Proofs.Ytenigkngmdofiaa

namespace Go.Proofs.Ytenigkngmdofiaa
open Go.RowKit

theorem rotZ_inj {p q : Pt} (h : rotZ p = rotZ q) : p = q := by
  obtain ⟨a, b, c⟩ := p
  obtain ⟨d, e, f⟩ := q
  unfold rotZ at h
  simp only [Pt.mk.injEq] at h ⊢
  omega
theorem rotZn_inj {p q : Pt} : ∀ n, rotZn p n = rotZn q n → p = q
  | 0, h => h
  | n + 1, h => rotZn_inj n (rotZ_inj h)
theorem turnQ_inj {p q : Pt} (n : Nat) (h : turnQ p n = turnQ q n) : p = q := by
  obtain ⟨a, b, c⟩ := p
  obtain ⟨d, e, f⟩ := q
  unfold turnQ at h
  split at h <;> simp only [Pt.mk.injEq] at h ⊢ <;> omega
theorem turnS_inj {p q : Pt} (n : Nat) (h : turnS p n = turnS q n) : p = q := rotZn_inj _ (turnQ_inj _ h)
theorem addP_inj {p q r : Pt} (h : addP p r = addP q r) : p = q := by
  obtain ⟨a, b, c⟩ := p
  obtain ⟨d, e, f⟩ := q
  unfold addP at h
  simp only [Pt.mk.injEq] at h ⊢
  omega
theorem placeP_nodup {l : List Pt} (h : l.Nodup) (n : Nat) (p : Pt) : (placeP l n p).Nodup := by
  unfold placeP
  rw [List.Nodup, List.pairwise_map]
  exact h.imp fun hne e => hne (turnS_inj n (addP_inj e))
theorem cells_nodup {l : List Pt} (h : cellsB l = true) : l.Nodup := by
  have step : ∀ i, i + 1 < l.length → ltP (ptAt l i) (ptAt l (i + 1)) = true := fun i hi => by
    have := allR_at h hi
    unfold cellOk at this
    rw [Bool.and_eq_true, Bool.or_eq_true] at this
    rcases this.2 with h' | h'
    · exact absurd (of_decide_eq_true h') (by omega)
    · exact h'
  have far : ∀ d i, i + d + 1 < l.length → ltP (ptAt l i) (ptAt l (i + d + 1)) = true := by
    intro d
    induction d with
    | zero => exact fun i hi => step i hi
    | succ d ih => exact fun i hi => ltP_trans (ih i (by omega)) (step (i + d + 1) hi)
  rw [List.Nodup, List.pairwise_iff_getElem]
  intro i j hi hj hij e
  have := far (j - i - 1) i (by omega)
  rw [show i + (j - i - 1) + 1 = j by omega, ptAt_eq (List.getElem?_eq_getElem hi), ptAt_eq (List.getElem?_eq_getElem hj), e, ltP_irrefl] at this
  cases this
theorem bcells_nodup {w : World} {QA : Option Addr} {qc : Nat} {qs : List (Knd × KAt)} (hk : Kinds w QA qc qs) {bs : List Brk} (hb : ∀ b ∈ bs, b.byte) (h : modelErr (qs.map (·.1)) bs = 0) {b : Brk} (hm : b ∈ bs) : (bcells (qs.map (·.1)) b).Nodup := by
  have hf := mfine_of hk hb h
  obtain ⟨i, tn, k, p, e1, e2, -, hi, -, -, -⟩ := hf.b b hm
  rw [bcells_is e1 e2 hi]
  have h0 : kindsErr (qs.map (·.1)) = 0 := by
    by_cases h0 : kindsErr (qs.map (·.1)) = 0
    · exact h0
    · rw [modelErr_kinds h0] at h
      exact h
  have hv := kindsErr_valid h0 (List.mem_map.2 ⟨_, List.mem_of_getElem? hi, rfl⟩)
  unfold Knd.valid at hv
  simp only [Bool.and_eq_true] at hv
  exact (sortP_perm _).nodup_iff.2 (placeP_nodup (cells_nodup hv.2.1) _ _)
/-- The bricks before j that hold a cell. -/
def inA (ks : List Knd) (bs : List Brk) (j : Nat) (c : Pt) : List Int := ((List.range j).filter fun i => hasP (bcells ks (brkAt bs i)) c).map fun (i : Nat) => (i : Int)
/-- The same, with j itself where c is among its first q cells. -/
def inF (ks : List Knd) (bs : List Brk) (j q : Nat) (c : Pt) : List Int := inA ks bs j c ++ if hasP ((bcells ks (brkAt bs j)).take q) c then [(j : Int)] else []
theorem inF_zero (ks : List Knd) (bs : List Brk) (j : Nat) (c : Pt) : inF ks bs j 0 c = inA ks bs j c := by
  unfold inF
  rw [List.take_zero, if_neg (by rw [hasP_iff]; simp), List.append_nil]
theorem inF_all (ks : List Knd) (bs : List Brk) (j : Nat) (c : Pt) : inF ks bs j (bcells ks (brkAt bs j)).length c = inA ks bs (j + 1) c := by
  unfold inF inA
  rw [List.take_length, List.range_succ, List.filter_append, List.map_append]
  congr 1
  cases h : hasP (bcells ks (brkAt bs j)) c
  · simp [h]
  · simp [h]
theorem inF_step {ks : List Knd} {bs : List Brk} {j q : Nat} {c : Pt} (hc : (bcells ks (brkAt bs j))[q]? = some c) (hn : (bcells ks (brkAt bs j)).Nodup) (d : Pt) : inF ks bs j (q + 1) d = if d = c then inF ks bs j q c ++ [(j : Int)] else inF ks bs j q d := by
  unfold inF
  rw [List.take_add_one, hc]
  by_cases hd : d = c
  · subst hd
    have h0 : hasP ((bcells ks (brkAt bs j)).take q) d = false := by
      rw [← Bool.not_eq_true, hasP_iff]
      intro hm
      obtain ⟨i, hi⟩ := List.getElem?_of_mem hm
      have hiq : i < q := by
        have := (List.getElem?_eq_some_iff.1 hi).1
        rw [List.length_take] at this
        omega
      rw [List.getElem?_take_of_lt hiq] at hi
      obtain ⟨h1, e1⟩ := List.getElem?_eq_some_iff.1 hi
      obtain ⟨h2, e2⟩ := List.getElem?_eq_some_iff.1 hc
      exact List.pairwise_iff_getElem.1 hn i q h1 h2 hiq (by rw [e1, e2])
    have h1 : hasP ((bcells ks (brkAt bs j)).take q ++ (some d).toList) d = true := by
      rw [hasP_iff]
      simp
    rw [if_pos rfl, h0, h1]
    simp
  · rw [if_neg hd]
    congr 2
    rw [Bool.eq_iff_iff, hasP_iff, hasP_iff]
    simp [hd]
theorem inA_mem {ks : List Knd} {bs : List Brk} {j : Nat} {c : Pt} {x : Int} : x ∈ inA ks bs j c ↔ ∃ k : Nat, x = k ∧ k < j ∧ c ∈ bcells ks (brkAt bs k) := by
  unfold inA
  rw [List.mem_map]
  constructor
  · rintro ⟨k, hk, rfl⟩
    obtain ⟨h1, h2⟩ := List.mem_filter.1 hk
    exact ⟨k, rfl, List.mem_range.1 h1, hasP_iff.1 h2⟩
  · rintro ⟨k, rfl, h1, h2⟩
    exact ⟨k, List.mem_filter.2 ⟨List.mem_range.2 h1, hasP_iff.2 h2⟩, rfl⟩
theorem inA_len (ks : List Knd) (bs : List Brk) (j : Nat) (c : Pt) : (inA ks bs j c).length ≤ j := by
  unfold inA
  rw [List.length_map]
  exact Nat.le_trans (List.length_filter_le _ _) (by simp)
theorem inF_len (ks : List Knd) (bs : List Brk) (j q : Nat) (c : Pt) : (inF ks bs j q c).length ≤ j + 1 := by
  unfold inF
  rw [List.length_append]
  have := inA_len ks bs j c
  split <;> simp <;> omega
/-! Which pairs are there. -/
def P0 (ks : List Knd) (bs : List Brk) (j : Nat) (p : Int × Int) : Prop := ∃ k i : Nat, p = ((k : Int), (i : Int)) ∧ k < i ∧ i < j ∧ overB ks bs k i = true
def P1 (ks : List Knd) (bs : List Brk) (j q : Nat) (p : Int × Int) : Prop := P0 ks bs j p ∨ ∃ k : Nat, p = ((k : Int), (j : Int)) ∧ k < j ∧ ∃ c, c ∈ (bcells ks (brkAt bs j)).take q ∧ c ∈ bcells ks (brkAt bs k)
def P2 (ks : List Knd) (bs : List Brk) (j q : Nat) (l : List Int) (t : Nat) (p : Int × Int) : Prop := P1 ks bs j q p ∨ ∃ x, x ∈ l.take t ∧ p = (x, (j : Int))
theorem P1_zero {ks : List Knd} {bs : List Brk} {j : Nat} {p : Int × Int} : P1 ks bs j 0 p ↔ P0 ks bs j p := by
  unfold P1
  constructor
  · rintro (h | ⟨k, -, -, c, hc, -⟩)
    · exact h
    · simp at hc
  · exact Or.inl
theorem P1_all {ks : List Knd} {bs : List Brk} {j : Nat} {p : Int × Int} : P1 ks bs j (bcells ks (brkAt bs j)).length p ↔ P0 ks bs (j + 1) p := by
  unfold P1 P0
  rw [List.take_length]
  constructor
  · rintro (⟨k, i, h1, h2, h3, h4⟩ | ⟨k, h1, h2, c, h3, h4⟩)
    · exact ⟨k, i, h1, h2, by omega, h4⟩
    · exact ⟨k, j, h1, h2, by omega, commonB_iff.2 ⟨c, h4, h3⟩⟩
  · rintro ⟨k, i, h1, h2, h3, h4⟩
    rcases Nat.lt_or_ge i j with h5 | h5
    · exact Or.inl ⟨k, i, h1, h2, h5, h4⟩
    · obtain rfl : i = j := by omega
      obtain ⟨c, h6, h7⟩ := commonB_iff.1 h4
      exact Or.inr ⟨k, h1, h2, c, h7, h6⟩
theorem P2_zero {ks : List Knd} {bs : List Brk} {j q : Nat} {l : List Int} {p : Int × Int} : P2 ks bs j q l 0 p ↔ P1 ks bs j q p := by
  unfold P2
  simp
theorem P2_succ {ks : List Knd} {bs : List Brk} {j q : Nat} {l : List Int} {t : Nat} {x : Int} (hx : l[t]? = some x) {p : Int × Int} : P2 ks bs j q l (t + 1) p ↔ P2 ks bs j q l t p ∨ p = (x, (j : Int)) := by
  unfold P2
  rw [List.take_add_one, hx]
  constructor
  · rintro (h | ⟨y, h1, h2⟩)
    · exact Or.inl (Or.inl h)
    · simp only [Option.toList_some, List.mem_append, List.mem_singleton] at h1
      rcases h1 with h1 | rfl
      · exact Or.inl (Or.inr ⟨y, h1, h2⟩)
      · exact Or.inr h2
  · rintro ((h | ⟨y, h1, h2⟩) | h)
    · exact Or.inl h
    · exact Or.inr ⟨y, List.mem_append.2 (Or.inl h1), h2⟩
    · exact Or.inr ⟨x, List.mem_append.2 (Or.inr (by simp)), h⟩
theorem P2_all {ks : List Knd} {bs : List Brk} {j q : Nat} {c : Pt} (hc : (bcells ks (brkAt bs j))[q]? = some c) {l : List Int} (hl : l = inA ks bs j c) {p : Int × Int} : P2 ks bs j q l l.length p ↔ P1 ks bs j (q + 1) p := by
  unfold P2 P1
  rw [List.take_length, List.take_add_one, hc]
  constructor
  · rintro ((h | ⟨k, h1, h2, d, h3, h4⟩) | ⟨x, h1, h2⟩)
    · exact Or.inl h
    · exact Or.inr ⟨k, h1, h2, d, List.mem_append.2 (Or.inl h3), h4⟩
    · rw [hl] at h1
      obtain ⟨k, rfl, h3, h4⟩ := inA_mem.1 h1
      exact Or.inr ⟨k, h2, h3, c, List.mem_append.2 (Or.inr (by simp)), h4⟩
  · rintro (h | ⟨k, h1, h2, d, h3, h4⟩)
    · exact Or.inl (Or.inl h)
    · simp only [Option.toList_some, List.mem_append, List.mem_singleton] at h3
      rcases h3 with h3 | rfl
      · exact Or.inl (Or.inr ⟨k, h1, h2, d, h3, h4⟩)
      · exact Or.inr ⟨k, by rw [hl]; exact inA_mem.2 ⟨k, rfl, h2, h4⟩, h1⟩
theorem mem_overL {ks : List Knd} {bs : List Brk} {p : Int × Int} : p ∈ overL ks bs bs.length ↔ P0 ks bs bs.length p := by
  unfold overL P0 rowO
  rw [List.mem_flatMap]
  constructor
  · rintro ⟨k, h1, h2⟩
    obtain ⟨i, h3, rfl⟩ := List.mem_map.1 h2
    obtain ⟨h4, h5⟩ := List.mem_filter.1 h3
    rw [Bool.and_eq_true, decide_eq_true_eq] at h5
    exact ⟨k, i, rfl, h5.1, List.mem_range.1 h4, h5.2⟩
  · rintro ⟨k, i, rfl, h1, h2, h3⟩
    exact ⟨k, List.mem_range.2 (by omega), List.mem_map.2 ⟨i, List.mem_filter.2 ⟨List.mem_range.2 h2, by rw [Bool.and_eq_true, decide_eq_true_eq]; exact ⟨h1, h3⟩⟩, rfl⟩⟩
end Go.Proofs.Ytenigkngmdofiaa

namespace Go.Proofs.Ytenigkngmdofiaa
open Go.RowKit

section
variable {P : Program} {k : TypeId} {K V : Type} {enc : K → Value} {ev : V → Value} [DecidableEq K]
/-- Block b is a map of these pairs, and the entry of this stamp is x's. -/
def EntOf (enc : K → Value) (ev : V → Value) (w : World) (b : Nat) (m : List (K × V)) (x : K) (born : Nat) : Prop :=
  ∃ es clock, w.heap[b]? = some (.map es clock) ∧ es.toList.map (fun e => (e.key, e.val)) = m.map (fun p => (enc p.1, ev p.2)) ∧ (∀ e ∈ es.toList, e.born < clock) ∧ (es.toList.map (·.born)).Nodup ∧
    ∃ j e0 u, es.toList[j]? = some e0 ∧ e0.born = born ∧ m[j]? = some (x, u) ∧ (∀ v, putK m x v = m.set j (x, v))
theorem EntOf.grown {w w' : World} {b : Nat} {m : List (K × V)} {x : K} {born : Nat} {row : Option Nat} (h : EntOf enc ev w b m x born) (g : w.grownBy w' row) (hr : some b ≠ row) : EntOf enc ev w' b m x born := by
  obtain ⟨es, clock, hb, r⟩ := h
  have hlt := (Array.getElem?_eq_some_iff.1 hb).1
  exact ⟨es, clock, (g.block b hlt hr).trans hb, r⟩
theorem EntOf.lt {w : World} {b : Nat} {m : List (K × V)} {x : K} {born : Nat} (h : EntOf enc ev w b m x born) : b < w.heap.size := by
  obtain ⟨es, clock, hb, _⟩ := h
  exact (Array.getElem?_eq_some_iff.1 hb).1
theorem entry_run (E : KeyEnc P k enc) {t e : TypeId} (ht : P.underlying t = some (.map k e)) {w : World} {z : V} (hz : (zeroValue e).run P w = .ok (ev z) w) {b : Nat} {m : List (K × V)} (h : MapOf enc ev w b m) (x : K) :
    ∃ w' born, (Instr.mapEntry t (.map (some b)) (enc x)).run P w = .ok (.tuple #[ev ((getK m x).getD z), .int .i64 (born : Nat)]) w' ∧ EntOf enc ev w' b (putK m x ((getK m x).getD z)) x born ∧ w.grownBy w' (some b) ∧ w'.heap.size = w.heap.size := by
  obtain ⟨es, clock, hb, hm, hs1, hs2⟩ := h
  have hf := find_run E w x es.toList m 0 hm
  rw [← run_findKey_eq w E.wide] at hf
  have grown : ∀ o, w.grownBy (ChangeMaps.setBlock w b o) (some b) := fun o => ⟨rfl, rfl, rfl, by simp [ChangeMaps.setBlock], fun i _ hi => ChangeMaps.heap_setBlock_other hb _ (fun e => hi (by rw [e]))⟩
  have hsz : ∀ o, (ChangeMaps.setBlock w b o).heap.size = w.heap.size := fun o => by simp [ChangeMaps.setBlock]
  have hlen : es.toList.length = m.length := by
    have := congrArg List.length hm
    simpa using this
  cases hl : lookAt m x 0 with
  | none =>
    rw [hl] at hf
    have hg : getK m x = none := by rw [← lookAt_getK m x 0, hl]; rfl
    refine ⟨ChangeMaps.setBlock w b (.map (es.push { key := enc x, val := ev z, born := clock }) (clock + 1)), clock, ?_, ⟨_, _, ChangeMaps.heap_setBlock_same hb _, ?_, ?_, ?_, m.length, { key := enc x, val := ev z, born := clock }, z, ?_, rfl, ?_, ?_⟩, grown _, hsz _⟩
    · simp [Instr.mapEntry, run_underlying ht, MapKept.run_getObj_map hb, E.check, hf, hz, hg, MapKept.run_setObj_map _ hb, Result.andThen, ChangeMaps.setBlock, goInt]
    · rw [hg, lookAt_none hl]
      simp [hm]
    · intro y hy
      simp only [Array.toList_push, List.mem_append, List.mem_singleton] at hy
      rcases hy with hy | rfl
      · exact Nat.lt_succ_of_lt (hs1 y hy)
      · exact Nat.lt_succ_self _
    · simp only [Array.toList_push, List.map_append, List.map_cons, List.map_nil]
      refine List.nodup_append.2 ⟨hs2, by simp, ?_⟩
      intro a ha b hb
      simp only [List.mem_singleton] at hb
      subst hb
      obtain ⟨y, hy, rfl⟩ := List.mem_map.1 ha
      exact Nat.ne_of_lt (hs1 y hy)
    · rw [← hlen]
      simp
    · rw [hg, lookAt_none hl]
      simp
    · intro v
      rw [hg]
      rw [lookAt_none hl]
      have h2 : lookAt (m ++ [(x, (none : Option V).getD z)]) x 0 = some (m.length, z) := by
        have key : ∀ (m : List (K × V)) (i : Nat), lookAt m x i = none → lookAt (m ++ [(x, z)]) x i = some (i + m.length, z) := by
          intro m
          induction m with
          | nil => intro i _; simp [lookAt]
          | cons p m ih =>
            intro i hi
            unfold lookAt at hi
            split at hi
            · cases hi
            · rename_i hne
              show (if x = p.1 then _ else lookAt (m ++ [(x, z)]) x (i + 1)) = _
              rw [if_neg hne, ih _ hi, List.length_cons]
              congr 2
              omega
        have := key m 0 hl
        rwa [Nat.zero_add] at this
      obtain ⟨j, hj, _, h3⟩ := lookAt_some h2 v
      rw [h3, hj, Nat.zero_add]
  | some r =>
    obtain ⟨j, u⟩ := r
    rw [hl] at hf
    have hg : getK m x = some u := by rw [← lookAt_getK m x 0, hl]; rfl
    obtain ⟨j', hj', h1, h2⟩ := lookAt_some hl u
    obtain rfl : j = j' := by omega
    have hjl : j < es.toList.length := by
      rw [hlen]
      exact (List.getElem?_eq_some_iff.1 h1).1
    obtain ⟨e0, hej⟩ : ∃ e0, es.toList[j]? = some e0 := ⟨_, List.getElem?_eq_getElem hjl⟩
    have hjm : (es.toList.map (fun e => (e.key, e.val)))[j]? = some (enc x, ev u) := by
      rw [hm, List.getElem?_map, h1]
      rfl
    have hkey : e0.key = enc x := by
      rw [List.getElem?_map, hej] at hjm
      simp only [Option.map_some, Option.some.injEq, Prod.mk.injEq] at hjm
      exact hjm.1
    have hej' : es[j]? = some e0 := by rw [← hej]; simp
    have hput : putK m x u = m := by
      rw [h2]
      exact List.ext_getElem? fun i => by
        by_cases e : j = i
        · subst e
          rw [List.getElem?_set_self (List.getElem?_eq_some_iff.1 h1).1, h1]
        · rw [List.getElem?_set_ne e]
    have hlist : (es.modify j (fun e' => { e' with key := enc x })).toList = es.toList := by
      rw [Array.toList_modify, ChangeMaps.modify_eq_set _ _ _ _ hej]
      exact List.ext_getElem? fun i => by
        by_cases e : j = i
        · subst e
          rw [List.getElem?_set_self hjl, hej, ← hkey]
        · rw [List.getElem?_set_ne e]
    refine ⟨ChangeMaps.setBlock w b (.map (es.modify j (fun e' => { e' with key := enc x })) clock), e0.born, ?_, ⟨_, _, ChangeMaps.heap_setBlock_same hb _, ?_, ?_, ?_, j, e0, u, by rw [hlist]; exact hej, rfl, ?_, ?_⟩, grown _, hsz _⟩
    · simp [Instr.mapEntry, run_underlying ht, MapKept.run_getObj_map hb, E.check, hf, hg, hej', hkey, Instr.keyThatStays, E.same, MapKept.run_setObj_map _ hb, Result.andThen, ChangeMaps.setBlock, goInt]
    · rw [hlist, hg]
      show _ = (putK m x u).map _
      rw [hput]
      exact hm
    · rw [hlist]
      exact hs1
    · rw [hlist]
      exact hs2
    · rw [hg]
      show (putK m x u)[j]? = _
      rw [hput]
      exact h1
    · intro v
      rw [hg]
      show putK (putK m x u) x v = (putK m x u).set j (x, v)
      rw [hput]
      obtain ⟨j', hj', _, h3⟩ := lookAt_some hl v
      obtain rfl : j = j' := by omega
      exact h3
theorem store_run {w : World} {b : Nat} {m : List (K × V)} {x : K} {born : Nat} (h : EntOf enc ev w b m x born) (t : TypeId) (v : V) :
    ∃ w', (Instr.entryStore t (.map (some b)) (.int .i64 (born : Nat)) (ev v)).run P w = .ok () w' ∧ MapOf enc ev w' b (putK m x v) ∧ w.grownBy w' (some b) ∧ w'.heap.size = w.heap.size := by
  obtain ⟨es, clock, hb, hm, hs1, hs2, j, e0, u, hj, rfl, hmj, hput⟩ := h
  have hjl : j < es.toList.length := (List.getElem?_eq_some_iff.1 hj).1
  have hfi : es.findIdx? (fun e => (e.born : Int) == (e0.born : Int)) = some j := by
    rw [show es.findIdx? (fun e => (e.born : Int) == (e0.born : Int)) = es.toList.findIdx? (fun e => (e.born : Int) == (e0.born : Int)) from by
      obtain ⟨l⟩ := es
      exact List.findIdx?_toArray .., List.findIdx?_eq_some_iff_getElem]
    refine ⟨hjl, ?_, fun i hi => ?_⟩
    · have : es.toList[j] = e0 := (List.getElem?_eq_some_iff.1 hj).2
      rw [this]
      simp
    · have hil : i < es.toList.length := by omega
      have h0 : es.toList[j] = e0 := (List.getElem?_eq_some_iff.1 hj).2
      have hne : (es.toList[i]).born ≠ e0.born := fun e => by
        have h1 := List.pairwise_iff_getElem.1 hs2 i j (by simpa using hil) (by simpa using hjl) hi
        rw [List.getElem_map, List.getElem_map, h0] at h1
        exact h1 e
      simp only [beq_iff_eq]
      omega
  have hlist : (es.modify j (fun e' => { e' with val := ev v })).toList = es.toList.set j { e0 with val := ev v } := by
    rw [Array.toList_modify, ChangeMaps.modify_eq_set _ _ _ _ hj]
  have hkey : e0.key = enc x := by
    have : (es.toList.map (fun e => (e.key, e.val)))[j]? = some (enc x, ev u) := by
      rw [hm, List.getElem?_map, hmj]
      rfl
    rw [List.getElem?_map, hj] at this
    simp only [Option.map_some, Option.some.injEq, Prod.mk.injEq] at this
    exact this.1
  refine ⟨ChangeMaps.setBlock w b (.map (es.modify j (fun e' => { e' with val := ev v })) clock), ?_, ⟨_, _, ChangeMaps.heap_setBlock_same hb _, ?_, ?_, ?_⟩, ⟨rfl, rfl, rfl, by simp [ChangeMaps.setBlock], fun i _ hi => ChangeMaps.heap_setBlock_other hb _ (fun e => hi (by rw [e]))⟩, by simp [ChangeMaps.setBlock]⟩
  · simp [Instr.entryStore, MapKept.run_getObj_map hb, asInt, asIntOf, hfi, MapKept.run_setObj_map _ hb, Result.andThen, ChangeMaps.setBlock]
  · rw [hlist, hput v, List.map_set, List.map_set, hm, hkey]
  · intro y hy
    rw [hlist] at hy
    rcases List.mem_or_eq_of_mem_set hy with hy | rfl
    · exact hs1 y hy
    · exact hs1 e0 (List.mem_of_getElem? hj)
  · rw [hlist, List.map_set]
    have : (es.toList.map (·.born)).set j e0.born = es.toList.map (·.born) := by
      apply List.ext_getElem?
      intro i
      rw [List.getElem?_set]
      split
      · rename_i hji
        subst hji
        rw [if_pos (by simpa using hjl), List.getElem?_map, hj]
        rfl
      · rfl
    rw [this]
    exact hs2
/-- An entry at the operation. -/
theorem wpList_entry (E : KeyEnc P k enc) {w : World} {ops : Array Oper} {rest : List Oper} {o : Oper} {a : Act} {Q : Exit → Act → World → Prop}
    (hg : o.guard = none) (mo xo : Operand) (t : TypeId) (hop : o.op = Op.mapEntry t mo xo) (e : TypeId) (ht : P.underlying t = some (.map k e)) (z : V) (hz : (zeroValue e).run P w = .ok (ev z) w) (b : Nat) (m : List (K × V)) (x : K)
    (hm : a.eval mo = .map (some b)) (hown : MapOf enc ev w b m) (hx : a.eval xo = enc x)
    (hK : ∀ w' (born : Nat), EntOf enc ev w' b (putK m x ((getK m x).getD z)) x born → w.grownBy w' (some b) → w'.heap.size = w.heap.size → wpList P ops Q rest (a.put o.dst (.tuple #[ev ((getK m x).getD z), .int .i64 born])) w') : wpList P ops Q (o :: rest) a w := by
  refine wpList_plain hg fun K' hK' => ?_
  obtain ⟨w', born, hrun, r1, r2, r3⟩ := entry_run E ht hz hown x
  unfold Oper.wp
  simp [execOp, hop, hm, hx, hrun, Result.andThen]
  exact hK' _ _ (hK w' born r1 r2 r3)
/-- The store into it. -/
theorem wpList_estore {w : World} {ops : Array Oper} {rest : List Oper} {o : Oper} {a : Act} {Q : Exit → Act → World → Prop}
    (hg : o.guard = none) (mo so vo : Operand) (t : TypeId) (hop : o.op = Op.entryStore t mo so vo) (b : Nat) (m : List (K × V)) (x : K) (born : Nat) (v : V)
    (hm : a.eval mo = .map (some b)) (hown : EntOf enc ev w b m x born) (hs : a.eval so = .int .i64 born) (hv : a.eval vo = ev v)
    (hK : ∀ w', MapOf enc ev w' b (putK m x v) → w.grownBy w' (some b) → w'.heap.size = w.heap.size → wpList P ops Q rest (a.put o.dst undef) w') : wpList P ops Q (o :: rest) a w := by
  refine wpList_plain hg fun K' hK' => ?_
  obtain ⟨w', hrun, r1, r2, r3⟩ := store_run (P := P) hown t v
  unfold Oper.wp
  simp only [execOp, hop, hm, hs, hv, Sem.run_bind, hrun, Result.andThen]
  exact hK' _ _ (hK w' r1 r2 r3)
omit [DecidableEq K] in
theorem putK_put [DecidableEq K] (m : List (K × V)) (x : K) (u v : V) : putK (putK m x u) x v = putK m x v := by
  induction m with
  | nil => simp [putK]
  | cons p m ih =>
    by_cases h : x = p.1
    · have e1 : ∀ y, putK (p :: m) x y = (x, y) :: m := fun y => by
        unfold putK
        rw [if_pos h]
      rw [e1, e1]
      unfold putK
      rw [if_pos rfl]
    · have e1 : ∀ (l : List (K × V)) y, putK (p :: l) x y = p :: putK l x y := fun l y => by
        conv => lhs; unfold putK
        rw [if_neg h]
      rw [e1, e1, e1, ih]

/-! ### a range -/
/-- Block r ranges over the map in block b: these keys are done, those are left. -/
def RngOf (enc : K → Value) (ev : V → Value) (w : World) (b r : Nat) (m : List (K × V)) (done left : List K) : Prop :=
  ∃ es clock since seen c0, w.heap[b]? = some (.map es clock) ∧ es.toList.map (fun e => (e.key, e.val)) = m.map (fun p => (enc p.1, ev p.2)) ∧ (∀ e ∈ es.toList, e.born < since) ∧ (es.toList.map (·.born)).Nodup ∧
    w.heap[r]? = some (.mapIter (some b) since seen c0) ∧ since ≤ c0 ∧ since ≤ clock ∧ (leftOf es seen).toList.map (·.key) = left.map enc ∧ (done ++ left).Perm (m.map (·.1))
omit [DecidableEq K] in
theorem RngOf.left_eq {w : World} {b r : Nat} {m : List (K × V)} {done left : List K} (h : RngOf enc ev w b r m done left) : w.rangeLeft b r = left.length := by
  obtain ⟨es, clock, since, seen, c0, hb, _, _, _, hr, _, _, hl, _⟩ := h
  have := congrArg List.length hl
  simp only [List.length_map] at this
  unfold World.rangeLeft
  rw [hb, hr]
  simpa using this
omit [DecidableEq K] in
theorem RngOf.kept {w w' : World} {b r : Nat} {m : List (K × V)} {done left : List K} {row : Option Nat} (h : RngOf enc ev w b r m done left) (g : w.grownBy w' row) (h1 : some b ≠ row) (h2 : some r ≠ row) : RngOf enc ev w' b r m done left := by
  obtain ⟨es, clock, since, seen, c0, hb, q1, q2, q3, hr, q⟩ := h
  exact ⟨es, clock, since, seen, c0, (g.block b (Array.getElem?_eq_some_iff.1 hb).1 h1).trans hb, q1, q2, q3, (g.block r (Array.getElem?_eq_some_iff.1 hr).1 h2).trans hr, q⟩
omit [DecidableEq K] in
theorem RngOf.lt {w : World} {b r : Nat} {m : List (K × V)} {done left : List K} (h : RngOf enc ev w b r m done left) : b < w.heap.size ∧ r < w.heap.size := by
  obtain ⟨es, clock, since, seen, c0, hb, q1, q2, q3, hr, q⟩ := h
  exact ⟨(Array.getElem?_eq_some_iff.1 hb).1, (Array.getElem?_eq_some_iff.1 hr).1⟩
omit [DecidableEq K] in
theorem range_run {t e : TypeId} (ht : P.underlying t = some (.map k e)) {w : World} {b : Nat} {m : List (K × V)} (h : MapOf enc ev w b m) :
    ∃ w', (Instr.range t (.map (some b))).run P w = .ok (.pointer (some ⟨w.heap.size, 0, none⟩)) w' ∧ RngOf enc ev w' b w.heap.size m [] (m.map (·.1)) ∧ w.grownBy w' none ∧ w'.heap.size = w.heap.size + 1 := by
  have hlt := h.lt
  obtain ⟨es, clock, hb, hm, hs1, hs2⟩ := h
  refine ⟨_, run_range_map w t k e b es clock ht hb, ⟨es, clock, clock, #[], clock, ((MapKept.heap_alloc w _).2 b hlt).trans hb, hm, hs1, hs2, (MapKept.heap_alloc w _).1, Nat.le_refl _, Nat.le_refl _, ?_, List.Perm.refl _⟩, World.grownBy_alloc w _ none, by simp⟩
  have := congrArg (List.map Prod.fst) hm
  simp only [List.map_map] at this
  rw [List.map_map]
  have e0 : (leftOf es #[]).toList = es.toList := by
    unfold leftOf
    rw [Array.toList_filter]
    exact List.filter_eq_self.2 (fun _ _ => by simp)
  rw [e0]
  simpa [Function.comp_def] using this
omit [DecidableEq K] in
theorem next_run {w : World} {b r : Nat} {m : List (K × V)} {done left : List K} (h : RngOf enc ev w b r m done left) (ty : TypeId) :
    (left = [] ∧ (Instr.next (.pointer (some ⟨r, 0, none⟩)) false ty).run P w = .ok (.tuple #[.bool false]) w) ∨
    ∃ x u left' w', (Instr.next (.pointer (some ⟨r, 0, none⟩)) false ty).run P w = .ok (.tuple #[.bool true, enc x, u]) w' ∧ RngOf enc ev w' b r m (done ++ [x]) left' ∧ left'.length < left.length ∧ w.grownBy w' (some r) ∧ w'.heap.size = w.heap.size ∧
      (Instr.entry (.pointer (some ⟨r, 0, none⟩))).run P w' = .ok (.tuple #[enc x, u]) w' := by
  obtain ⟨es, clock, since, seen, c0, hb, hm, hs1, hs2, hr, hc, hcl, hl, hp⟩ := h
  rcases run_next_at (P := P) w ty r b since c0 seen es clock hr hb hs1 hc with ⟨h0, hrun⟩ | ⟨e, he, w1, hal, hrun⟩
  · refine Or.inl ⟨?_, hrun⟩
    have := congrArg List.length hl
    simp only [List.length_map] at this
    exact List.eq_nil_of_length_eq_zero (by rw [← this]; simpa using h0)
  · right
    have hne : r ≠ b := fun e => by
      subst e
      rw [hb] at hr
      cases hr
    obtain ⟨hem, hes⟩ := mem_left he
    obtain ⟨l1, l2, hsplit⟩ := List.append_of_mem he
    rw [hsplit, List.map_append, List.map_cons] at hl
    obtain ⟨k1, k', rfl, hk1, hk'⟩ := List.map_eq_append_iff.1 hl.symm
    obtain ⟨x, k2, rfl, hx, hk2⟩ := List.map_eq_cons_iff.1 hk'
    have hr1 : w1.heap[r]? = some (.mapIter (some b) since seen c0) := by rcases hal with rfl | rfl <;> exact hr
    have hb1 : w1.heap[b]? = some (.map es clock) := by rcases hal with rfl | rfl <;> exact hb
    have hset := MapKept.heap_set (o' := .mapIter (some b) since (seen.push e.born) clock) hr1
    have hb' : (ChangeMaps.setBlock w1 r (.mapIter (some b) since (seen.push e.born) clock)).heap[b]? = some (.map es clock) := (hset.2 b (fun e1 => hne e1.symm)).trans hb1
    have hleft : (leftOf es (seen.push e.born)).toList = l1 ++ l2 := by
      have e1 : (leftOf es (seen.push e.born)).toList = ((leftOf es seen).toList).filter fun y => !(y.born == e.born) := by
        unfold leftOf
        rw [Array.toList_filter, Array.toList_filter, List.filter_filter]
        refine List.filter_congr fun y _ => ?_
        rw [contains_push]
        cases seen.contains y.born <;> cases (y.born == e.born) <;> rfl
      have hnd : ((leftOf es seen).toList.map (·.born)).Nodup := by
        unfold leftOf
        rw [Array.toList_filter]
        exact List.Sublist.nodup (List.Sublist.map _ List.filter_sublist) hs2
      rw [hsplit, List.map_append, List.map_cons, List.nodup_append] at hnd
      obtain ⟨n1, n2, n3⟩ := hnd
      rw [List.nodup_cons] at n2
      rw [e1, hsplit, List.filter_append, List.filter_cons]
      simp only [beq_self_eq_true, Bool.not_true, Bool.false_eq_true, if_false]
      congr 1
      · refine List.filter_eq_self.2 fun y hy => ?_
        have := n3 y.born (List.mem_map.2 ⟨y, hy, rfl⟩) e.born (List.mem_cons_self ..)
        simpa using this
      · refine List.filter_eq_self.2 fun y hy => ?_
        have : y.born ≠ e.born := fun h => n2.1 (List.mem_map.2 ⟨y, hy, h⟩)
        simpa using this
    rw [← hx] at hrun
    refine ⟨x, e.val, k1 ++ k2, _, hrun, ⟨es, clock, since, seen.push e.born, clock, hb', hm, hs1, hs2, hset.1, hcl, hcl, ?_, ?_⟩, by simp, ?_, ?_, ?_⟩
    · rw [hleft, List.map_append, List.map_append, hk1, hk2]
    · refine List.Perm.trans ?_ hp
      rw [List.append_assoc]
      refine List.Perm.append_left _ ?_
      show (x :: (k1 ++ k2)).Perm _
      exact List.perm_middle.symm
    · rcases hal with rfl | rfl <;> exact ⟨rfl, rfl, rfl, by simp [ChangeMaps.setBlock], fun i _ hi => hset.2 i (fun e1 => hi (by rw [e1]))⟩
    · rcases hal with rfl | rfl <;> simp [ChangeMaps.setBlock]
    · rw [hx]
      exact run_entry_at _ r b since seen es clock e hset.1 hb' hem hs2
omit [DecidableEq K] in
theorem wpList_rng {w : World} {ops : Array Oper} {rest : List Oper} {o : Oper} {a : Act} {Q : Exit → Act → World → Prop} (hg : o.guard = none) (mo : Operand) (t : TypeId) (hop : o.op = Op.range t mo) (e : TypeId) (ht : P.underlying t = some (.map k e)) (b : Nat) (m : List (K × V))
    (hm : a.eval mo = .map (some b)) (hown : MapOf enc ev w b m)
    (hK : ∀ w', RngOf enc ev w' b w.heap.size m [] (m.map (·.1)) → w.grownBy w' none → w'.heap.size = w.heap.size + 1 → wpList P ops Q rest (a.put o.dst (.pointer (some ⟨w.heap.size, 0, none⟩))) w') : wpList P ops Q (o :: rest) a w := by
  refine wpList_plain hg fun K' hK' => ?_
  obtain ⟨w', hrun, r1, r2, r3⟩ := range_run ht hown
  unfold Oper.wp
  simp [execOp, hop, hm, hrun, Result.andThen]
  exact hK' _ _ (hK w' r1 r2 r3)
omit [DecidableEq K] in
theorem wpList_nxt {w : World} {ops : Array Oper} {rest : List Oper} {o : Oper} {a : Act} {Q : Exit → Act → World → Prop} (hg : o.guard = none) (it : Operand) (hop : o.op = Op.next it false) (b r : Nat) (m : List (K × V)) (done left : List K)
    (hit : a.eval it = .pointer (some ⟨r, 0, none⟩)) (h : RngOf enc ev w b r m done left)
    (hDone : left = [] → wpList P ops Q rest (a.put o.dst (.tuple #[.bool false])) w)
    (hMore : ∀ (x : K) (u : Value) (left' : List K) (w' : World), RngOf enc ev w' b r m (done ++ [x]) left' → left'.length < left.length → w.grownBy w' (some r) → w'.heap.size = w.heap.size →
      (Instr.entry (.pointer (some ⟨r, 0, none⟩))).run P w' = .ok (.tuple #[enc x, u]) w' → wpList P ops Q rest (a.put o.dst (.tuple #[.bool true, enc x, u])) w') : wpList P ops Q (o :: rest) a w := by
  refine wpList_plain hg fun K' hK' => ?_
  unfold Oper.wp
  rcases next_run (P := P) h o.type with ⟨h0, hrun⟩ | ⟨x, u, left', w', hrun, h1, h2, h3, h4, h5⟩
  · simp [execOp, hop, hit, hrun, Result.andThen]
    exact hK' _ _ (hDone h0)
  · simp [execOp, hop, hit, hrun, Result.andThen]
    exact hK' _ _ (hMore x u left' w' h1 h2 h3 h4 h5)
end
end Go.Proofs.Ytenigkngmdofiaa

namespace Go.Proofs.Ytenigkngmdofiaa
open Go.Shelf

def sortPairs_ren : Go.Shelf.Ren := ⟨fun | 6 => 71 | 15 => 95 | 14 => 94 | 28 => 115 | 29 => 116 | 20 => 107 | 21 => 108 | 22 => 109 | 23 => 110 | 24 => 111 | 25 => 112 | 26 => 113 | 27 => 114 | 46 => 125 | 47 => 126 | 48 => 127 | 49 => 128 | 50 => 129 | 57 => 133 | n => n, fun | 22 => 75 | 24 => 127 | 25 => 130 | 3 => 3 | 39 => 148 | 0 => 0 | 53 => 160 | 55 => 162 | 4 => 4 | 46 => 153 | 45 => 152 | 50 => 157 | 5 => 5 | 9 => 9 | 66 => 168 | 70 => 172 | 76 => 176 | 77 => 31 | n => n, fun | n => n⟩
theorem sortPairs : SlLaysF0.n6 Try.prog sortPairs_ren := {
  mixed := by kernel_rfl,
  f6 := ⟨Try.f71.name, by decide, Try.func71.trans (congrArg some (by kernel_rfl))⟩,
  f14 := ⟨Try.f94.name, by decide, Try.func94.trans (congrArg some (by kernel_rfl))⟩,
  f15 := Try.func95.trans (congrArg some (by kernel_rfl)),
  f20 := ⟨Try.f107.name, by decide, Try.func107.trans (congrArg some (by kernel_rfl))⟩,
  f21 := ⟨Try.f108.name, by decide, Try.func108.trans (congrArg some (by kernel_rfl))⟩,
  f22 := ⟨Try.f109.name, by decide, Try.func109.trans (congrArg some (by kernel_rfl))⟩,
  f23 := ⟨Try.f110.name, by decide, Try.func110.trans (congrArg some (by kernel_rfl))⟩,
  f24 := ⟨Try.f111.name, by decide, Try.func111.trans (congrArg some (by kernel_rfl))⟩,
  f25 := ⟨Try.f112.name, by decide, Try.func112.trans (congrArg some (by kernel_rfl))⟩,
  f26 := ⟨Try.f113.name, by decide, Try.func113.trans (congrArg some (by kernel_rfl))⟩,
  f27 := ⟨Try.f114.name, by decide, Try.func114.trans (congrArg some (by kernel_rfl))⟩,
  f28 := Try.func115.trans (congrArg some (by kernel_rfl)),
  f29 := Try.func116.trans (congrArg some (by kernel_rfl)),
  f46 := ⟨Try.f125.name, by decide, Try.func125.trans (congrArg some (by kernel_rfl))⟩,
  f47 := Try.func126.trans (congrArg some (by kernel_rfl)),
  f48 := Try.func127.trans (congrArg some (by kernel_rfl)),
  f49 := ⟨Try.f128.name, by decide, Try.func128.trans (congrArg some (by kernel_rfl))⟩,
  f50 := ⟨Try.f129.name, by decide, Try.func129.trans (congrArg some (by kernel_rfl))⟩,
  f57 := ⟨Try.f133.name, by decide, Try.func133.trans (congrArg some (by kernel_rfl))⟩,
  t0 := Try.underlying0,
  a0 := Try.isAgg0,
  z0 := Try.sizeOf0,
  v0 := Try.zeroValue0,
  t3 := Try.underlying3,
  a3 := Try.isAgg3,
  z3 := Try.sizeOf3,
  v3 := Try.zeroValue3,
  t4 := Try.underlying4,
  a4 := Try.isAgg4,
  z4 := Try.sizeOf4,
  v4 := Try.zeroValue4,
  t5 := Try.underlying5,
  a5 := Try.isAgg5,
  z5 := Try.sizeOf5,
  v5 := Try.zeroValue5,
  t9 := Try.underlying9,
  a9 := Try.isAgg9,
  z9 := Try.sizeOf9,
  v9 := Try.zeroValue9,
  t22 := Try.underlying75,
  a22 := Try.isAgg75,
  z22 := Try.sizeOf75,
  v22 := Try.zeroValue75,
  t25 := Try.underlying130,
  a25 := Try.isAgg130,
  z25 := Try.sizeOf130,
  v25 := Try.zeroValue130,
  t39 := Try.underlying148,
  a39 := Try.isAgg148,
  z39 := Try.sizeOf148,
  v39 := Try.zeroValue148,
  t45 := Try.underlying152,
  a45 := Try.isAgg152,
  z45 := Try.sizeOf152,
  v45 := Try.zeroValue152,
  t46 := Try.underlying153,
  a46 := Try.isAgg153,
  z46 := Try.sizeOf153,
  v46 := Try.zeroValue153,
  t50 := Try.underlying157,
  a50 := Try.isAgg157,
  z50 := Try.sizeOf157,
  v50 := Try.zeroValue157,
  t53 := Try.underlying160,
  a53 := Try.isAgg160,
  z53 := Try.sizeOf160,
  v53 := Try.zeroValue160,
  t55 := Try.underlying162,
  a55 := Try.isAgg162,
  z55 := Try.sizeOf162,
  v55 := Try.zeroValue162,
  t66 := Try.underlying168,
  a66 := Try.isAgg168,
  z66 := Try.sizeOf168,
  v66 := Try.zeroValue168,
  t70 := Try.underlying172,
  a70 := Try.isAgg172,
  z70 := Try.sizeOf172,
  v70 := Try.zeroValue172,
  t76 := Try.underlying176,
  a76 := Try.isAgg176,
  z76 := Try.sizeOf176,
  v76 := Try.zeroValue176,
  t77 := Try.underlying31,
  a77 := Try.isAgg31,
  z77 := Try.sizeOf31,
  v77 := Try.zeroValue31 }
end Go.Proofs.Ytenigkngmdofiaa

namespace Go.Proofs.Ytenigkngmdofiaa
open Go.RowKit

def ltR (x y : Int × Int) : Bool := decide (x.1 < y.1) || (decide (x.1 = y.1) && decide (x.2 < y.2))
def ordR (x y : Int × Int) : Int := if ordZ x.1 y.1 = 0 then ordZ x.2 y.2 else ordZ x.1 y.1
theorem ltR_iff {x y : Int × Int} : ltR x y = true ↔ x.1 < y.1 ∨ (x.1 = y.1 ∧ x.2 < y.2) := by
  simp [ltR]
theorem ltR_not {x y : Int × Int} : ltR x y = false ↔ ¬ (x.1 < y.1 ∨ (x.1 = y.1 ∧ x.2 < y.2)) := by
  rw [← Bool.not_eq_true, ltR_iff]
theorem ordR_neg (x y : Int × Int) : ordR x y < 0 ↔ ltR x y = true := by
  rw [ltR_iff]
  unfold ordR ordZ
  repeat' split
  all_goals omega
theorem ltOf_ordR : ltOf ordR = ltR := by
  funext x y
  unfold ltOf
  rw [Bool.eq_iff_iff, decide_eq_true_eq, ordR_neg]
theorem swoR : Go.Sort.SWO ltR where
  irrefl x := by rw [ltR_not]; omega
  trans x y z h k := by rw [ltR_iff] at *; omega
  ntrans x y z h k := by rw [ltR_not] at *; omega
theorem ltR_total (x y : Int × Int) (h : ltR x y = false) (k : ltR y x = false) : x = y := by
  rw [ltR_not] at h k
  exact Prod.ext (by omega) (by omega)
set_option maxHeartbeats 1600000 in
theorem compare2_c (g h : Nat) (a b c d : Int) (w : World) (a0 : w.cell? ⟨g, 0, none⟩ = some (.int .i64 a)) (a1 : w.cell? ⟨g, 1, none⟩ = some (.int .i64 b)) (c0 : w.cell? ⟨h, 0, none⟩ = some (.int .i64 c)) (c1 : w.cell? ⟨h, 1, none⟩ = some (.int .i64 d)) :
    Calls Try.prog 73 #[.slice (some ⟨g, 0, none⟩) 2 2, .slice (some ⟨h, 0, none⟩) 2 2] w fun e w' => e = .returned (.int .i64 (ordR (a, b) (c, d))) ∧ w = w' := by
  have C1 := cmpZ_c a c w
  have C2 := cmpZ_c b d w
  obtain ⟨r, hr⟩ : ∃ r, ordZ a c = r := ⟨_, rfl⟩
  obtain ⟨s, hs⟩ : ∃ s, ordZ b d = s := ⟨_, rfl⟩
  have Hres := Lib.hid (show ordR (a, b) (c, d) = if r = 0 then s else r by unfold ordR; rw [hr, hs])
  rw [hr] at C1
  rw [hs] at C2
  clear hr hs
  go_enter Try.func73, Try.ntmps73
  go_wp2_with fail
  go_loopw [11] (fun i wr => ∃ k : Nat, k ≤ 2 ∧ i = .int .i64 k ∧ wr = w ∧ (0 < k → r = 0) ∧ (1 < k → s = 0)) (fun i _ => 2 - (intOf i).toNat)
  case atStart => exact ⟨0, by omega, rfl, rfl, fun h => absurd h (by omega), fun h => absurd h (by omega)⟩
  case round =>
    obtain ⟨k, hk, rfl, rfl, h1, h2⟩ := hrel
    have hk3 : k = 0 ∨ k = 1 ∨ k = 2 := by omega
    rcases hk3 with rfl | rfl | rfl
    · clear h1 h2
      by_cases h0 : r = 0
      · have hb : (r != 0) = false := by simpa using h0
        go_wp2_with fail
        refine C1.mono ?_
        rintro e w1 ⟨rfl, rfl⟩
        go_wp2_with fail
        go_roundw
        case rel => exact ⟨1, by omega, by go_num, trivial, fun _ => h0, fun h => absurd h (by omega)⟩
        case measure => simp only [intOf]; omega
      · have hb : (r != 0) = true := by simpa using h0
        have Hv := Lib.hid (Hres.out.trans (if_neg h0))
        clear h0
        go_wp2_with fail
        refine C1.mono ?_
        rintro e w1 ⟨rfl, rfl⟩
        go_wp2_with fail
        go_ret
        exact ⟨by rw [Hv.out]; rfl, rfl⟩
    · have hr0 := h1 (by omega)
      have Hs := Lib.hid (Hres.out.trans (if_pos hr0))
      clear h1 h2
      by_cases h0 : s = 0
      · have hb : (s != 0) = false := by simpa using h0
        go_wp2_with fail
        refine C2.mono ?_
        rintro e w1 ⟨rfl, rfl⟩
        go_wp2_with fail
        go_roundw
        case rel => exact ⟨2, by omega, by go_num, trivial, fun _ => hr0, fun _ => h0⟩
        case measure => simp only [intOf]; omega
      · have hb : (s != 0) = true := by simpa using h0
        clear h0 hr0
        go_wp2_with fail
        refine C2.mono ?_
        rintro e w1 ⟨rfl, rfl⟩
        go_wp2_with fail
        go_ret
        exact ⟨by rw [Hs.out]; rfl, rfl⟩
    · have Hv := Lib.hid (Hres.out.trans ((if_pos (h1 (by omega))).trans (h2 (by omega))))
      clear h1 h2
      go_wp2_with fail
      go_ret
      exact ⟨by rw [Hv.out]; rfl, rfl⟩
set_option maxHeartbeats 1600000 in
theorem less_g (a b c d : Int) (w : World) :
    Calls Try.prog 72 #[.agg #[.int .i64 a, .int .i64 b], .agg #[.int .i64 c, .int .i64 d]] w fun v w' => v = .returned (.int .i64 (ordR (a, b) (c, d))) ∧ Grn w w' := by
  have hG := ((Grn.refl w).alloc (.cells #[.int .i64 a, .int .i64 b] 127)).alloc (.cells #[.int .i64 c, .int .i64 d] 127)
  obtain ⟨W1, hW1, E1, B1, hz1⟩ := mk_ w #[.int .i64 a, .int .i64 b] 127
  obtain ⟨W2, hW2, E2, B2, hz2⟩ := mk_ W1 #[.int .i64 c, .int .i64 d] 127
  rw [hW1, hW2] at hG
  have B1' := B1.ext E2
  rw [hz1] at B2
  have a0 := Go.cell_grown B1'.lt (B1'.cell 0)
  have a1 := Go.cell_grown B1'.lt (B1'.cell 1)
  have c0 := Go.cell_grown B2.lt (B2.cell 0)
  have c1 := Go.cell_grown B2.lt (B2.cell 1)
  go_enter Try.func72, Try.ntmps72
  go_upto_region 1 with (fail)
  clear hW1 hW2 hz1 hz2 B1 E1 E2 B1' B2
  refine wp_region_tailG 2 (by kernel_rfl) (by kernel_rfl) ?_
  simp only [List.take_succ_cons, List.take_zero, List.drop_succ_cons, List.drop_zero]
  repeat (go_big_quiet_step (fail))
  refine wpQuiet_nil ?_
  intro W3 hW3
  obtain ⟨p, hp⟩ := hW3
  have hG3 : Grn w W3 := by
    subst hp
    exact hG.trans ⟨p.n, p.os, rfl⟩
  have CC := compare2_c w.heap.size (w.heap.size + 1) a b c d W3 (by rw [hp, a0]; rfl) (by rw [hp, a1]; rfl) (by rw [hp, c0]; rfl) (by rw [hp, c1]; rfl)
  clear hp hG a0 a1 c0 c1
  go_wp2_with fail
  refine CC.mono ?_
  rintro e w4 ⟨rfl, rfl⟩
  go_wp2_with fail
  go_ret
  exact ⟨rfl, hG3⟩
theorem prs_wide (l : List (Int × Int)) : ∀ r ∈ l.map prC, r.length = 2 := fun r h => by
  obtain ⟨p, _, rfl⟩ := List.mem_map.1 h
  rfl
def sortR (l : List (Int × Int)) : List (Int × Int) := l.mergeSort fun x y => !ltR y x
theorem flatK_prs (l : List (Int × Int)) : Go.Sort.flatK prC 2 l.toArray = rowsA (l.map prC) := by
  refine rowsA_ext (prs_wide l) (by simp) fun i j r u hr hu => ?_
  rw [List.getElem?_map] at hr
  obtain ⟨p, hp, rfl⟩ := Option.map_eq_some_iff.1 hr
  obtain ⟨hi, hpi⟩ := List.getElem?_eq_some_iff.1 hp
  have hj : j < 2 := (List.getElem?_eq_some_iff.1 hu).1
  have hlt : i * 2 + j < l.toArray.size * 2 := by simp; omega
  rw [Array.getElem?_eq_getElem (by simpa using hlt), ← getElem!_pos, Go.Sort.get_flatK _ _ _ _ hlt, show (i * 2 + j) / 2 = i by omega, show (i * 2 + j) % 2 = j by omega, getElem!_pos l.toArray i (by simpa using hi)]
  have e1 : l.toArray[i]'(by simpa using hi) = p := by simpa using hpi
  rw [e1, ← hu]
  rw [List.getElem!_eq_getElem?_getD, hu]
  rfl
theorem putPrs {w : World} {g n : Nat} {os : Array Obj} {l l' : List (Int × Int)} {t : TypeId} (hl : l'.length = l.length) (hb : RowX w g t (l.map prC)) :
    RowX (sortWorldK prC 2 w g 0 n l'.toArray os) g t (l'.map prC) ∧ w.grownBy (sortWorldK prC 2 w g 0 n l'.toArray os) (some g) := by
  obtain ⟨ex, hb⟩ := hb
  have hg := hb.lt
  constructor
  · refine ⟨ex, ?_⟩
    unfold sortWorldK Go.Sort.putRowK
    rw [flatK_prs]
    show (Go.Sort.grow _ _).heap[g]? = _
    rw [Go.Sort.heap_grow_old _ _ (by simpa using hg)]
    have hb' : w.heap[g]? = some (.cells (rowsA (l.map prC) ++ ex) t (0, 0)) := hb
    have hs : (rowsA (l'.map prC)).size = (rowsA (l.map prC)).size := by rw [rowsA_size (prs_wide l), rowsA_size (prs_wide l')]; simp [hl]
    have e : Go.Sort.putCells id 0 (rowsA (l'.map prC)) (rowsA (l.map prC) ++ ex) = rowsA (l'.map prC) ++ ex := by
      apply Array.ext_getElem?
      intro k
      rcases Nat.lt_or_ge k (rowsA (l.map prC)).size with hk | hk
      · have hk' : k < (rowsA (l'.map prC)).size := by omega
        rw [Array.getElem?_append_left hk']
        have : k < (rowsA (l.map prC) ++ ex).size := by simp; omega
        simp [Go.Sort.putCells, hk']
        exact ⟨_, Array.getElem?_eq_getElem this⟩
      · rw [Array.getElem?_append_right (by omega), hs]
        rcases Nat.lt_or_ge k (rowsA (l.map prC) ++ ex).size with h2 | h2
        · have h3 : ¬ k < (rowsA (l'.map prC)).size := by omega
          have h4 : (rowsA (l.map prC) ++ ex)[k]? = ex[k - (rowsA (l.map prC)).size]? := Array.getElem?_append_right hk
          rw [← h4]
          simp [Go.Sort.putCells, h3]
        · rw [Array.getElem?_eq_none (by simpa [Go.Sort.putCells] using h2), Array.getElem?_eq_none (by simp at h2; omega)]
    simp [Go.Sort.putRow, Go.Sort.mapBlock, Go.Sort.ahead, Array.getElem?_modify, hb', Go.Sort.onCells, e]
  · refine ⟨rfl, rfl, rfl, by simp [sortWorldK, Go.Sort.putRowK], fun k hk hne => ?_⟩
    unfold sortWorldK Go.Sort.putRowK
    rw [Go.Sort.heap_grow_old _ _ (by simpa using hk)]
    have : g ≠ k := fun e => hne (by rw [e])
    simp [Go.Sort.putRow, Go.Sort.mapBlock, Go.Sort.ahead, Array.getElem?_modify, this]
theorem sort2_c (l : List (Int × Int)) (g cap : Nat) (w : World) (hB : RowX w g 127 (l.map prC)) (hn : l.length ≤ 100000) :
    Calls Try.prog 71 #[.slice (some ⟨g, 0, none⟩) l.length cap, .func (.func 72) #[] #[]] w fun e w' => e = .returned (.tuple #[]) ∧ RowX w' g 127 ((sortR l).map prC) ∧ w.grownBy w' (some g) := by
  have hH : Go.Sort.HoldsK prC 2 w g 0 l.toArray := by
    obtain ⟨ex, hb⟩ := hB
    unfold Go.Sort.HoldsK
    rw [flatK_prs]
    intro j hj
    refine ⟨?_, by rw [Nat.zero_add]; exact hb.frozen j⟩
    rw [Nat.zero_add, hb.cell, Array.getElem?_append_left hj, Array.getElem?_eq_getElem hj, getElem!_pos (rowsA (l.map prC)) j hj]
    rfl
  have hcmp : CmpLays Try.prog 72 #[] prC 2 ordR g 0 l.toArray.size w := fun m os dk _ x y => (less_g x.1 x.2 y.1 y.2 _).mono fun _ _ ⟨he, q, os', hw⟩ => ⟨he, q, os', hw⟩
  have h := AnyQ.slices_SortFunc sortPairs 2 Try.isAgg127 Try.sizeOf127 prC (fun _ => rfl) (fun x v hv => by
      simp only [prC, List.mem_cons, List.not_mem_nil, or_false] at hv
      rcases hv with rfl | rfl <;> rfl) ordR (by rw [ltOf_ordR]; exact swoR) 72 #[] g 0 cap l.toArray w (enters_of Try.func72 (by kernel_rfl) rfl) hcmp hH hB.lt (by simp; omega)
  rw [ltOf_ordR] at h
  refine (show Calls Try.prog 71 _ _ _ from h).mono ?_
  rintro e w' ⟨rfl, d', n, os, hp, hs, rfl⟩
  obtain rfl : d' = (sortR l).toArray := Array.ext' (Go.Sort.sorted_unique_holds swoR ltR_total l.toArray d' hp hs)
  exact ⟨rfl, putPrs (List.length_mergeSort l) hB⟩
end Go.Proofs.Ytenigkngmdofiaa

namespace Go.Proofs.Ytenigkngmdofiaa
open Go.RowKit

theorem ownMap {K V : Type} {enc : K → Value} {ev : V → Value} {w : World} {b : Nat} {e : TypeId} {sz : Nat} {v : Value} {n : Nat} {xs : List Value} {M : Nat} {m : List (K × V)} (h : w.ownsRow b e sz v n xs) (h' : MapOf enc ev w M m) : some M ≠ v.ownBlock := by
  intro e1
  rcases h.2 with ⟨rfl, _⟩ | ⟨g, cap, cur, rfl, _, hg, _⟩
  · cases e1
  · simp only [Value.ownBlock, Option.some.injEq] at e1
    subst e1
    obtain ⟨es, clock, hm, _⟩ := h'
    rw [hg] at hm
    cases hm
theorem MapOf.far2 {K V : Type} {enc : K → Value} {ev : V → Value} {w : World} {M : Nat} {m : List (K × V)} (h : MapOf enc ev w M m) {p : Addr} (hp : M ≠ p.block) (u : Value) : MapOf enc ev (w.setCell p u) M m := by
  obtain ⟨es, clock, hm, r⟩ := h
  exact ⟨es, clock, by rw [Below.heap_setCell _ _ _ _ hp]; exact hm, r⟩
theorem MapOf.blk_ne {K V : Type} {enc : K → Value} {ev : V → Value} {w : World} {M : Nat} {m : List (K × V)} (h : MapOf enc ev w M m) {g : Nat} {t : TypeId} {cs : Array Value} (hb : Blk w g t cs) : M ≠ g := by
  rintro rfl
  obtain ⟨es, clock, hm, _⟩ := h
  unfold Blk at hb
  rw [hm] at hb
  cases hb
def numC (x : Int) : Value := .int .i64 x
abbrev nilV : Value := .slice none 0 0
/-- The map of rows: block M, each key's row is its own. -/
structure InM (w : World) (T M : Nat) (m : List (Pt × Value)) (f : Pt → List Int) : Prop where
  map : MapOf encPt id w M m
  row : ∀ c v, getK m c = some v → w.ownsRow T 3 1 v (f c).length ((f c).map numC)
  nil : ∀ c, getK m c = none → f c = []
  sep : ∀ c d u v, c ≠ d → getK m c = some u → getK m d = some v → ∀ r, u.ownBlock = some r → v.ownBlock ≠ some r
theorem InM.own {w : World} {T M : Nat} {m : List (Pt × Value)} {f : Pt → List Int} (h : InM w T M m f) (c : Pt) : w.ownsRow T 3 1 ((getK m c).getD nilV) (f c).length ((f c).map numC) := by
  cases hc : getK m c with
  | none =>
    rw [h.nil c hc]
    exact World.ownsRow_nil _ _ _ _
  | some v => exact h.row c v hc
theorem InM.ext {w w' : World} {T M : Nat} {m : List (Pt × Value)} {f : Pt → List Int} (h : InM w T M m f) (E : Ext w w') : InM w' T M m f :=
  ⟨h.map.ext E, fun c v hc => own_ext (h.row c v hc) E, h.nil, h.sep⟩
/-- A change of one block that is neither the map nor a row. -/
theorem InM.grown {w w' : World} {T M : Nat} {m : List (Pt × Value)} {f : Pt → List Int} (h : InM w T M m f) {row : Option Nat} (g : w.grownBy w' row) (h1 : some M ≠ row) (h2 : ∀ c v, getK m c = some v → v.ownBlock = none ∨ v.ownBlock ≠ row) : InM w' T M m f :=
  ⟨h.map.grown g h1, fun c v hc => ownGrown (h.row c v hc) g (h2 c v hc), h.nil, h.sep⟩
theorem InM.other {K V : Type} {enc : K → Value} {ev : V → Value} {w w' : World} {T M M2 : Nat} {m : List (Pt × Value)} {f : Pt → List Int} {m2 : List (K × V)} (h : InM w T M m f) (h' : MapOf enc ev w M2 m2) (hne : M ≠ M2) (g : w.grownBy w' (some M2)) : InM w' T M m f :=
  h.grown g (by simpa using hne) (fun c v hc => Or.inr fun e => ownMap (h.row c v hc) h' e.symm)
theorem InM.made (w : World) (T : Nat) : InM (w.alloc (.map #[] 0)) T w.heap.size [] (fun _ => []) :=
  ⟨MapOf.made w, fun _ v hc => (nomatch (show (none : Option Value) = some v from hc)), fun _ _ => rfl, fun _ _ u _ _ hc _ => (nomatch (show (none : Option Value) = some u from hc))⟩
theorem InM.congr {w : World} {T M : Nat} {m : List (Pt × Value)} {f f' : Pt → List Int} (h : InM w T M m f) (e : ∀ c, f' c = f c) : InM w T M m f' := by
  have : f' = f := funext e
  subst this
  exact h
/-- One more number behind one row. -/
theorem InM.step {wa wb wc wd : World} {T M : Nat} {m : List (Pt × Value)} {f : Pt → List Int} {c : Pt} {j : Int} {v' : Value} (h : InM wa T M m f) (g1 : wa.grownBy wb (some M))
    (hf : Fate wb wc T 3 1 ((getK m c).getD nilV) v' (f c).length ((f c).map numC) [numC j]) (g2 : wc.grownBy wd (some M)) (hM : MapOf encPt id wd M (putK m c v')) (hMb : ∃ m', MapOf encPt (id : Value → Value) wb M m') (hMc : ∃ m', MapOf encPt (id : Value → Value) wc M m') :
    InM wd T M (putK m c v') (fun d => if d = c then f c ++ [j] else f d) := by
  obtain ⟨mb, hMb⟩ := hMb
  obtain ⟨mc, hMc⟩ := hMc
  have rb : ∀ d v, getK m d = some v → wb.ownsRow T 3 1 v (f d).length ((f d).map numC) := fun d v hd => ownGrown (h.row d v hd) g1 (Or.inr fun e => ownMap (h.row d v hd) h.map e.symm)
  have key : ∀ d v, d ≠ c → getK m d = some v → ∀ r, v.ownBlock = some r → v'.ownBlock ≠ some r := by
    intro d v hd hv r hr
    obtain ⟨-, g, cap, rfl, hh⟩ := hf
    intro e
    simp only [Value.ownBlock, Option.some.injEq] at e
    subst e
    rcases hh with ⟨hu, -⟩ | ⟨hu, -⟩
    · cases hc : getK m c with
      | none =>
        rw [hc] at hu
        cases hu
      | some u =>
        rw [hc] at hu
        change u = _ at hu
        subst hu
        exact h.sep d c _ _ hd hv hc g hr rfl
    · have := (own_typed (rb d v hv) hr)
      obtain ⟨cs, hb⟩ := this
      have := hb.lt
      omega
  have rc : ∀ d v, d ≠ c → getK m d = some v → wc.ownsRow T 3 1 v (f d).length ((f d).map numC) := by
    intro d v hd hv
    have k := key d v hd hv
    obtain ⟨-, g, cap, rfl, hh⟩ := hf
    rcases hh with ⟨-, hg⟩ | ⟨-, hg⟩
    · refine ownGrown (rb d v hv) hg ?_
      cases ho : v.ownBlock with
      | none => exact Or.inl rfl
      | some r =>
        right
        intro e
        exact k r ho e.symm
    · refine ownGrown (rb d v hv) hg ?_
      cases ho : v.ownBlock with
      | none => exact Or.inl rfl
      | some r =>
        right
        intro e
        cases e
  refine ⟨hM, ?_, ?_, ?_⟩
  · intro d v hd
    rw [getK_putK] at hd
    by_cases e : d = c
    · rw [if_pos e] at hd ⊢
      cases hd
      have := hf.1
      have o2 := ownGrown this g2 (Or.inr fun e1 => ownMap this hMc e1.symm)
      rw [List.length_append, List.map_append]
      exact o2
    · rw [if_neg e] at hd ⊢
      have := rc d v e hd
      exact ownGrown this g2 (Or.inr fun e1 => ownMap this hMc e1.symm)
  · intro d hd
    rw [getK_putK] at hd
    by_cases e : d = c
    · rw [if_pos e] at hd
      cases hd
    · rw [if_neg e] at hd ⊢
      exact h.nil d hd
  · intro a b u v hab hu hv r hr
    rw [getK_putK] at hu hv
    by_cases ea : a = c
    · rw [if_pos ea] at hu
      cases hu
      have eb : b ≠ c := fun e => hab (ea.trans e.symm)
      rw [if_neg eb] at hv
      intro e
      exact key b v eb hv r e hr
    · rw [if_neg ea] at hu
      by_cases eb : b = c
      · rw [if_pos eb] at hv
        cases hv
        exact key a u ea hu r hr
      · rw [if_neg eb] at hv
        exact h.sep a b u v hab hu hv r hr
/-! ### the pairs that are keys -/
def Keys (m : List ((Int × Int) × Bool)) (p : Int × Int → Prop) : Prop := (m.map (·.1)).Nodup ∧ ∀ x, x ∈ m.map (·.1) ↔ p x
theorem getK_mem {K V : Type} [DecidableEq K] (m : List (K × V)) (x : K) : x ∈ m.map (·.1) ↔ (getK m x).isSome = true := by
  induction m with
  | nil => simp [getK]
  | cons p m ih =>
    rw [List.map_cons, List.mem_cons]
    unfold getK
    by_cases h : x = p.1
    · simp [h]
    · rw [if_neg h, ← ih]
      simp [h]
theorem Keys.nil {p : Int × Int → Prop} (h : ∀ x, ¬ p x) : Keys [] p := ⟨List.nodup_nil, fun x => by simp [h x]⟩
theorem Keys.put {m : List ((Int × Int) × Bool)} {p q : Int × Int → Prop} (h : Keys m p) (x : Int × Int) (b : Bool) (hq : ∀ y, q y ↔ p y ∨ y = x) : Keys (putK m x b) q := by
  refine ⟨putK_keys m x b h.1, fun y => ?_⟩
  rw [getK_mem, getK_putK, hq]
  by_cases e : y = x
  · simp [e]
  · rw [if_neg e, ← getK_mem, h.2]
    simp [e]
theorem Keys.congr {m : List ((Int × Int) × Bool)} {p q : Int × Int → Prop} (h : Keys m p) (hq : ∀ y, q y ↔ p y) : Keys m q := ⟨h.1, fun y => by rw [h.2, hq]⟩
/-- The listed pairs lie strictly ascending. -/
theorem overL_asc (ks : List Knd) (bs : List Brk) (n : Nat) : (overL ks bs n).Pairwise fun x y => ltR x y = true := by
  have inner : ∀ k m, (rowO ks bs k m).Pairwise fun x y => ltR x y = true := by
    intro k m
    unfold rowO
    rw [List.pairwise_map]
    refine List.Pairwise.imp ?_ (List.Pairwise.filter _ List.pairwise_lt_range)
    intro a b hab
    rw [ltR_iff]
    exact Or.inr ⟨rfl, Int.ofNat_lt.2 hab⟩
  unfold overL
  rw [List.pairwise_flatMap]
  refine ⟨fun k _ => inner _ _, ?_⟩
  refine List.Pairwise.imp ?_ List.pairwise_lt_range
  intro a b hab x hx y hy
  unfold rowO at hx hy
  obtain ⟨i, -, rfl⟩ := List.mem_map.1 hx
  obtain ⟨j, -, rfl⟩ := List.mem_map.1 hy
  rw [ltR_iff]
  exact Or.inl (Int.ofNat_lt.2 hab)
theorem sortR_keys {ks : List Knd} {bs : List Brk} {m : List ((Int × Int) × Bool)} (h : Keys m (P0 ks bs bs.length)) {l : List (Int × Int)} (hl : l.Perm (m.map (·.1))) : sortR l = overL ks bs bs.length := by
  have hnd : (overL ks bs bs.length).Nodup := (overL_asc ks bs _).imp fun hxy e => by
    subst e
    rw [swoR.irrefl] at hxy
    cases hxy
  have hp : (sortR l).Perm (overL ks bs bs.length) := by
    refine (List.mergeSort_perm _ _).trans (hl.trans ?_)
    exact (List.perm_ext_iff_of_nodup h.1 hnd).2 fun x => by rw [h.2, mem_overL]
  have h1 : (sortR l).Pairwise fun x y => (!ltR y x) = true := List.pairwise_mergeSort (fun a b c h k => by
      rw [Bool.not_eq_true'] at *
      exact swoR.ntrans c b a k h) (fun a b => by
      rw [Bool.or_eq_true, Bool.not_eq_true', Bool.not_eq_true']
      cases e : ltR b a
      · exact Or.inl rfl
      · right
        rw [ltR_not]
        rw [ltR_iff] at e
        omega) l
  have h2 : (overL ks bs bs.length).Pairwise fun x y => (!ltR y x) = true := (overL_asc ks bs _).imp fun {a b} e => by
    rw [Bool.not_eq_true', ltR_not]
    rw [ltR_iff] at e
    omega
  refine List.Perm.eq_of_pairwise (le := fun x y => (!ltR y x) = true) ?_ h1 h2 hp
  intro a b _ _ h k
  rw [Bool.not_eq_true'] at h k
  exact ltR_total a b k h
theorem keys_len {ks : List Knd} {bs : List Brk} {m : List ((Int × Int) × Bool)} (h : Keys m (P0 ks bs bs.length)) (hn : bs.length ≤ 40) : m.length ≤ 1600 := by
  have h0 := sortR_keys h (List.Perm.refl _)
  have := congrArg List.length h0
  unfold sortR at this
  rw [List.length_mergeSort, List.length_map] at this
  rw [this]
  exact Nat.le_trans (overL_len ks bs _) (Nat.le_trans (Nat.mul_le_mul hn hn) (by omega))
end Go.Proofs.Ytenigkngmdofiaa

namespace Go.Proofs.Ytenigkngmdofiaa
open Go.RowKit

theorem insNil (v : Value) (w : World) : Calls Try.prog 107 #[.slice none 0 0, .int .i64 0, .int .i64 0, v] w fun e w' => e = .returned (.tuple #[]) ∧ w = w' := by
  go_enter Try.func107, Try.ntmps107
  go_wp2_with fail
  go_loopw [8] (fun i wr => i = .int .i64 1 ∧ wr = w) (fun _ _ => 0)
  case atStart => exact ⟨rfl, rfl⟩
  case round =>
    obtain ⟨rfl, rfl⟩ := hrel
    go_wp2_with fail
    go_end0
    exact ⟨rfl, rfl⟩
set_option maxRecDepth 100000 in
theorem pdqNil (v : Value) (w : World) : Calls Try.prog 94 #[.slice none 0 0, .int .i64 0, .int .i64 0, .int .i64 0, v] w fun e w' => e = .returned (.tuple #[]) ∧ w = w' := by
  go_enter Try.func94, Try.ntmps94
  go_wp2_with fail
  go_loopw [1, 2] (fun a b wr => a = .int .i64 0 ∧ b = .int .i64 0 ∧ wr = w) (fun _ _ _ => 0)
  case atStart => exact ⟨rfl, rfl, rfl⟩
  case round =>
    obtain ⟨rfl, rfl, rfl⟩ := hrel
    go_wp2_with fail
    refine (insNil v wr).mono ?_
    rintro e w1 ⟨rfl, rfl⟩
    go_wp2_with fail
    exact bodyPost_ret (v := .tuple #[]) (results_none rfl _ _ _) rfl ⟨rfl, rfl⟩
theorem sortNil_c (v : Value) (w : World) : Calls Try.prog 71 #[.slice none 0 0, v] w fun e w' => e = .returned (.tuple #[]) ∧ w = w' := by
  have hl := Any.bits_Len (SlLaysF0.n15.bits (P := Try.prog) (ρ := sortPairs_ren) { sortPairs with }) 0 w (by omega) (by omega)
  go_enter Try.func71, Try.ntmps71
  have hl' : Calls Try.prog 95 #[.int .u64 0] w fun e w' => e = .returned (.int .i64 0) ∧ w' = w := hl
  clear hl
  go_wp2_with fail
  refine hl'.mono ?_
  rintro e w1 ⟨rfl, rfl⟩
  go_wp2_with fail
  refine (pdqNil v w1).mono ?_
  rintro e w2 ⟨rfl, rfl⟩
  go_wp2_with fail
  go_end0
  exact ⟨rfl, rfl⟩
end Go.Proofs.Ytenigkngmdofiaa

namespace Go.Proofs.Ytenigkngmdofiaa
open Go.RowKit

theorem modelErr_zero {ks : List Knd} {bs : List Brk} (h : modelErr ks bs = 0) : kindsErr ks = 0 ∧ ¬ 40 < bs.length ∧ askedErr ks bs = 0 := by
  have h0 : kindsErr ks = 0 := by
    by_cases h0 : kindsErr ks = 0
    · exact h0
    · rw [modelErr_kinds h0] at h
      exact h
  have h1 : ¬ 40 < bs.length := fun h1 => by
    rw [modelErr_many h0 h1] at h
    cases h
  exact ⟨h0, h1, by rw [← modelErr_few h0 h1, h]⟩
theorem prsBad {ks : List Knd} {bs : List Brk} {r : Int} (h : modelErr ks bs = r) (h0 : r ≠ 0) {w w' : World} (E : Ext w w') : PrsRes (ovRes ks bs) (modelErr ks bs) w (.returned (.tuple #[.slice none 0 0, .int .i64 r])) w' := by
  have Ho : ovRes ks bs = [] := by rw [ovRes, if_neg (by rw [h]; exact h0)]
  unfold PrsRes
  rw [Ho, h]
  exact ⟨none, 0, rfl, prs_nil _, E⟩
set_option maxHeartbeats 1600000 in
theorem overlapsE_c (qs : List (Knd × KAt)) (QA : Option Addr) (qc : Nat) (bs : List Brk) (B : Option Addr) (cb : Nat) (w : World) (hk : Kinds w QA qc qs) (hb : Bricks w B cb bs) (h0 : modelErr (qs.map (·.1)) bs ≠ 0) :
    Calls Try.prog 31 #[.slice QA qs.length qc, .agg #[.slice B bs.length cb]] w (PrsRes (ovRes (qs.map (·.1)) bs) (modelErr (qs.map (·.1)) bs) w) := by
  have hbn : bs.length ≤ 9223372036854775807 := by have := hb.len; unfold maxLen at this; omega
  obtain ⟨W1, hW1, E1, B1, hz1⟩ := mk_ w #[.slice B bs.length cb] 46
  have b1 := B1.cell
  have HE := Lib.hid E1
  clear hz1
  have CK := checkKinds_c qs QA qc W1 (hk.ext E1)
  have CC := Lib.hid (fun W (E : Ext w W) => check_c qs QA qc bs B cb W (hk.ext E) (hb.ext E))
  have HB := Lib.hid (fun (r : Int) (h : modelErr (qs.map (·.1)) bs = r) (h1 : r ≠ 0) W (E : Ext w W) => prsBad (w := w) (w' := W) h h1 E)
  have HK := Lib.hid (fun (r : Int) (h : kindsErr (qs.map (·.1)) = r) (h1 : r ≠ 0) => show modelErr (qs.map (·.1)) bs = r by rw [modelErr_kinds (by rw [h]; exact h1), h])
  have HM := Lib.hid (fun (h : kindsErr (qs.map (·.1)) = 0) (h1 : 40 < bs.length) => modelErr_many (bs := bs) h h1)
  have HF := Lib.hid (fun (h : kindsErr (qs.map (·.1)) = 0) (h1 : ¬ 40 < bs.length) => modelErr_few (bs := bs) h h1)
  have H0 := Lib.hid h0
  clear hk hb h0
  obtain ⟨G, hG⟩ : ∃ G : Ending → World → Prop, PrsRes (ovRes (qs.map (·.1)) bs) (modelErr (qs.map (·.1)) bs) w = G := ⟨_, rfl⟩
  rw [hG] at HB ⊢
  clear hG
  obtain ⟨r, hr⟩ : ∃ r, kindsErr (qs.map (·.1)) = r := ⟨_, rfl⟩
  rw [hr] at CK HM HF
  by_cases hr0 : r = 0
  · subst hr0
    by_cases hm : 40 < bs.length
    · have Hm := Lib.hid (HM.out rfl hm)
      have hm' : (40 : Int) < bs.length := by omega
      clear hm hr HK HF
      go_enter Try.func31, Try.ntmps31
      go_wp2_with fail
      refine CK.mono ?_
      rintro e W2 ⟨rfl, E2⟩
      have b2 := (B1.ext E2).cell
      go_wp2_with fail
      exact HB.out 4 Hm.out (by decide) _ (HE.out.trans E2)
    · have Hm := Lib.hid (HF.out rfl hm)
      obtain ⟨s, hs⟩ : ∃ s, askedErr (qs.map (·.1)) bs = s := ⟨_, rfl⟩
      rw [hs] at CC Hm
      have hs0 : s ≠ 0 := by
        rintro rfl
        exact H0.out Hm.out
      have Hs0 := Lib.hid hs0
      have hm' : ¬ (40 : Int) < bs.length := by omega
      have hs1 : (s != 0) = true := by simpa using hs0
      clear hm hr hs HK HF hs0
      go_enter Try.func31, Try.ntmps31
      go_wp2_with fail
      refine CK.mono ?_
      rintro e W2 ⟨rfl, E2⟩
      have b2 := (B1.ext E2).cell
      go_wp2_with fail
      refine (CC.out _ (HE.out.trans E2)).mono ?_
      rintro e W3 ⟨rfl, E3⟩
      go_wp2_with fail
      exact HB.out _ Hm.out Hs0.out _ ((HE.out.trans E2).trans E3)
  · have Hr := Lib.hid (HK.out r hr hr0)
    have Hr0 := Lib.hid hr0
    have h1 : (r != 0) = true := by simpa using hr0
    clear hr hr0 HM HF
    go_enter Try.func31, Try.ntmps31
    go_wp2_with fail
    refine CK.mono ?_
    rintro e W2 ⟨rfl, E2⟩
    go_wp2_with fail
    exact HB.out _ Hr.out Hr0.out _ (HE.out.trans E2)
end Go.Proofs.Ytenigkngmdofiaa
