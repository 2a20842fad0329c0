/- Cells and Knobs, of the program and of the reference. Conditions: a brick's turn and colour are bytes. Knobs of the program; Cells and Knobs of the reference. Conditions: a brick's turn and colour are bytes. Great of the reference; SameInts. No conditions. The normal brick: the plain function of both sides, and the contract of the reference's like as a name. Symmetries of the program. No conditions. Normal of the program. Conditions: a brick's turn and colour are bytes. -/
import Derived.Test.YtjacbhomhjoolaaGreatBSame
import Derived.Test.YtjacbhomhjoolaaGreatBSort
import Derived.Test.YtjacbhomhjoolaaGreatBTurnB
import Derived.Stop.RegionWithIn
namespace Go.Proofs.YtjacbhomhjoolaaGreat
open Go.RowKit

theorem kindsErr_valid {l : List Knd} (h : kindsErr l = 0) {k : Knd} (hk : k ∈ l) : k.valid = true := by
  unfold kindsErr at h
  split at h
  · cases h
  · split at h
    · rename_i h2
      obtain ⟨i, hi⟩ := List.getElem?_of_mem hk
      have := allR_at h2 (List.getElem?_eq_some_iff.1 hi).1
      simpa [kindAt, hi] using this
    · cases h
theorem asked_zero {l : List Knd} {b : Brk} (h : askedErr l [b] = 0) : kindsErr l = 0 ∧ b.ok l.length = true := by
  unfold askedErr at h
  split at h
  · rename_i h0
    refine ⟨h0, ?_⟩
    split at h
    · rename_i h2
      exact allR_at h2 (k := 0) (by simp)
    · cases h
  · rename_i h0
    exact absurd h h0
/-- The kind of a valid brick. -/
theorem asked_kind {w : World} {QA : Option Addr} {qc : Nat} {qs : List (Knd × KAt)} (hk : Kinds w QA qc qs) {b : Brk} (h : askedErr (qs.map (·.1)) [b] = 0) : ∃ (i : Nat) (k : Knd) (p : KAt), b.kind = i ∧ qs[i]? = some (k, p) ∧ k.Fine ∧ nearB b.at_ (-1000) 1000 = true ∧ b.turn < 24 := by
  obtain ⟨h1, h2⟩ := asked_zero h
  rw [Brk.ok_iff, List.length_map] at h2
  obtain ⟨a1, a2, a3, a4, _⟩ := h2
  obtain ⟨i, hi⟩ : ∃ i : Nat, b.kind = i := ⟨b.kind.toNat, by omega⟩
  have hil : i < qs.length := by omega
  have hget : qs[i]? = some (qs[i].1, qs[i].2) := List.getElem?_eq_getElem hil
  refine ⟨i, qs[i].1, qs[i].2, hi, hget, ?_, a3, a4⟩
  have hm : qs[i] ∈ qs := List.getElem_mem hil
  exact Knd.fine_of (kindsErr_valid h1 (List.mem_map.2 ⟨_, hm, rfl⟩)) (hk.k _ hm).n.2
/-- A result of cells, or the error. -/
def CellsRes (l : List Pt) (n : Nat) (w : World) (e : Ending) (w' : World) : Prop := ∃ g cap, w.heap.size ≤ g ∧ e = .returned (.tuple #[.slice (some ⟨g, 0, none⟩) n cap, .int .i64 0]) ∧ n ≤ cap ∧ cap ≤ maxLen ∧ RowX w' g 27 (l.map Pt.cs) ∧ Ext w w'
theorem rowX_of_blk {w : World} {g : Nat} {t : TypeId} {rows : List (List Value)} (h : Blk w g t (rowsA rows)) : RowX w g t rows := ⟨#[], by rw [Array.append_empty]; exact h⟩
set_option maxRecDepth 100000 in
set_option maxHeartbeats 8000000 in
theorem Cells_bad (qs : List (Knd × KAt)) (QA : Option Addr) (qc : Nat) (w : World) (hk : Kinds w QA qc qs) (kd x y z t c er : Int) (hb : Brk.byte ⟨kd, ⟨x, y, z⟩, t, c⟩) (he : askedErr (qs.map (·.1)) [⟨kd, ⟨x, y, z⟩, t, c⟩] = er) (h0 : er ≠ 0) :
    Calls Tryz.prog 14 #[.slice QA qs.length qc, .agg #[.int .i64 kd, .int .i64 x, .int .i64 y, .int .i64 z, .int .u8 t, .int .u8 c]] w fun e w' => e = .returned (.tuple #[.slice none 0 0, .int .i64 er]) ∧ Ext w w' := by
  obtain ⟨W1, hW1, E1, B1, hz1⟩ := mk_ w #[.int .i64 kd, .int .i64 x, .int .i64 y, .int .i64 z, .int .u8 t, .int .u8 c] 51
  have b1 := B1.cell
  have CH := check1_c qs QA qc kd x y z t c W1 (hk.ext E1) hb 51
  rw [he] at CH
  have h1 : (er != 0) = true := by simpa using h0
  clear he h0 hz1
  go_enter Tryz.func14, Tryz.ntmps14
  go_wp2_with fail
  refine CH.mono ?_
  rintro e W2 ⟨rfl, E2⟩
  go_wp2_with fail
  go_ret2
  exact ⟨rfl, E1.trans E2⟩
set_option maxRecDepth 100000 in
set_option maxHeartbeats 8000000 in
theorem Cells_ok (qs : List (Knd × KAt)) (QA : Option Addr) (qc : Nat) (w : World) (hk : Kinds w QA qc qs) (i : Nat) (k : Knd) (p : KAt) (hi : qs[i]? = some (k, p)) (hf : k.Fine) (x y z c : Int) (t : Nat) (hb : Brk.byte ⟨i, ⟨x, y, z⟩, t, c⟩) (he : askedErr (qs.map (·.1)) [⟨i, ⟨x, y, z⟩, t, c⟩] = 0) (ht : t < 24) (hp : Pt.ok ⟨x, y, z⟩) :
    Calls Tryz.prog 14 #[.slice QA qs.length qc, .agg #[.int .i64 i, .int .i64 x, .int .i64 y, .int .i64 z, .int .u8 t, .int .u8 c]] w (CellsRes (sortP (placeP k.cells t ⟨x, y, z⟩)) k.cells.length w) := by
  obtain ⟨cells, knobs, wt⟩ := k
  obtain ⟨A, ca, B, cb⟩ := p
  have hil : i < qs.length := (List.getElem?_eq_some_iff.1 hi).1
  have hql : qs.length ≤ 9223372036854775807 := by have := hk.len; unfold maxLen at this; omega
  have hcl : cells.length ≤ 24 := hf.len
  obtain ⟨n, hn⟩ : ∃ n, cells.length = n := ⟨_, rfl⟩
  show Calls _ _ _ _ (CellsRes (sortP (placeP cells t ⟨x, y, z⟩)) cells.length w)
  rw [hn]
  have Hn := Lib.hid hn
  clear hn
  have hcok : ∀ q ∈ cells, q.ok := hf.cok
  have hc : Cells w A ca cells := (hk.k _ (List.mem_of_getElem? hi)).c
  obtain ⟨W1, hW1, E1, B1, hz1⟩ := mk_ w #[.int .i64 i, .int .i64 x, .int .i64 y, .int .i64 z, .int .u8 t, .int .u8 c] 51
  have b1 := B1.cell
  have CH := check1_c qs QA qc i x y z t c W1 (hk.ext E1) hb 51
  rw [he] at CH
  clear he hz1
  have hml : cells.length ≤ maxLen := by unfold maxLen; omega
  have f1 : IntKind.i64.wrap (t : Int) = t := IntWalk.i64_in _ (by omega)
  go_enter Tryz.func14, Tryz.ntmps14
  go_wp2_with fail
  refine CH.mono ?_
  rintro e W2 ⟨rfl, E2⟩
  have E := E1.trans E2
  have BB := B1.ext E2
  obtain ⟨kg, koff, k', p', rfl, hq, hka, hkg, c0, c1, c2⟩ := (hk.ext E).at_ hil
  rw [hi] at hq
  cases hq
  simp only at c0 c1 c2
  clear CH b1 hW1 B1 E1 E2 hka
  have b1 := BB.cell
  have i1 : (0 : Int) ≤ i := by omega
  have i2 : (i : Int) < qs.length := by omega
  have hn := Hn.out
  have CC : ∀ W, Ext W2 W → Calls Tryz.prog 53 #[.agg #[.slice A n ca, .slice B knobs.length cb, .int .i64 wt], .int .i64 t, .agg #[.int .i64 x, .int .i64 y, .int .i64 z]] W (CellsPost (sortP (placeP cells t ⟨x, y, z⟩)) n W) := fun W EW => by
    subst hn
    exact cells_c cells knobs.length cb wt A ca B t x y z W (hc.ext (E.trans EW)) (by omega) hcok ht hp
  have HCC := Lib.hid CC
  rw [hn] at c0 hml
  clear CC hn hi hf hc hcok
  go_upto_region 4 with (fail)
  go_region_law (first
    | (go_simp; go_at_call 53; refine (HCC.out _ (Ext.refl W2).drew).mono ?_; rintro e W3 ⟨g, hg, rfl, B3, E3⟩))
  all_goals
    go_wp2_with fail
    go_ret2
    exact ⟨g, n, Nat.le_trans E.size hg, rfl, Nat.le_refl _, hml, rowX_of_blk B3, E.trans (Ext.drew (Ext.refl W2) |>.trans E3)⟩
end Go.Proofs.YtjacbhomhjoolaaGreat
namespace Go.Proofs.YtjacbhomhjoolaaGreat
open Go.RowKit

def KnobsRes (l : List Knb) (n : Nat) (w : World) (e : Ending) (w' : World) : Prop := ∃ g cap, w.heap.size ≤ g ∧ e = .returned (.tuple #[.slice (some ⟨g, 0, none⟩) n cap, .int .i64 0]) ∧ n ≤ cap ∧ cap ≤ maxLen ∧ RowX w' g 109 (l.map Knb.cs) ∧ Ext w w'
/-! The reference. -/
def RKnobsRes (l : List Knb) (n : Nat) (w : World) (e : Ending) (w' : World) : Prop := ∃ A cap, e = .returned (.tuple #[.slice A n cap, .int .i64 0]) ∧ SliceIs w' A n cap 5 (l.map Knb.cs) ∧ (∀ q, A = some q → w.heap.size ≤ q.block) ∧ Ext w w'
end Go.Proofs.YtjacbhomhjoolaaGreat
namespace Go.Proofs.YtjacbhomhjoolaaGreat
open Go.RowKit

def Knd.great (k : Knd) : Bool := decide (30 < k.cells.length) || decide (60 < k.knobs.length)
def greatB (l : List Knd) (n : Nat) : Bool := decide (20 < l.length) || (decide (45 < n) || !allR l.length fun i => !(kindAt l i).great)
theorem greatB_kinds {l : List Knd} {n : Nat} (h : greatB l n = false) : l.length ≤ 20 ∧ n ≤ 45 ∧ ∀ k ∈ l, k.cells.length ≤ 30 ∧ k.knobs.length ≤ 60 := by
  unfold greatB at h
  simp only [Bool.or_eq_false_iff, decide_eq_false_iff_not, Bool.not_eq_false'] at h
  obtain ⟨h1, h2, h3⟩ := h
  refine ⟨by omega, by omega, fun k hk => ?_⟩
  obtain ⟨i, hi⟩ := List.getElem?_of_mem hk
  have := allR_at h3 (List.getElem?_eq_some_iff.1 hi).1
  unfold Knd.great at this
  have e : kindAt l i = k := by simp [kindAt, hi]
  rw [e] at this
  simp only [Bool.not_eq_true', Bool.or_eq_false_iff, decide_eq_false_iff_not] at this
  omega
set_option maxHeartbeats 3200000 in
theorem great_c (qs : List (Knd × KAt)) (A : Option Addr) (cap : Nat) (B : Option Addr) (n cb : Nat) (w : World) (hk : Kinds w A cap qs) (hn : n ≤ maxLen) :
    Calls Tryz.prog 7 #[.slice A qs.length cap, .agg #[.slice B n cb]] w fun e w' => e = .returned (.bool (greatB (qs.map (·.1)) n)) ∧ Ext w w' := by
  have hl1 : qs.length ≤ 9223372036854775807 := by have := hk.len; unfold maxLen at this; omega
  have hml : (qs.map (·.1)).length = qs.length := List.length_map _
  unfold maxLen at hn
  obtain ⟨W1, hW1, E1, B1, hz1⟩ := mk_ w #[.slice B n cb] 25
  have b1 := B1.cell
  by_cases a1 : (20 : Int) < qs.length
  · have Hb := Lib.hid (show greatB (qs.map (·.1)) n = true by rw [greatB, decide_eq_true (by rw [hml]; omega)]; rfl)
    clear hml
    go_enter Tryz.func7, Tryz.ntmps7
    go_wp2_with fail
    go_ret
    exact ⟨by rw [Hb.out]; rfl, E1⟩
  by_cases a2 : (45 : Int) < n
  · have Hb := Lib.hid (show greatB (qs.map (·.1)) n = true by rw [greatB, decide_eq_true (show 45 < n by omega), Bool.true_or, Bool.or_true])
    clear hml
    go_enter Tryz.func7, Tryz.ntmps7
    go_wp2_with fail
    go_ret
    exact ⟨by rw [Hb.out]; rfl, E1⟩
  have Hg := Lib.hid (show greatB (qs.map (·.1)) n = !allR qs.length fun i => !(kindAt (qs.map (·.1)) i).great by
    unfold greatB
    rw [decide_eq_false (show ¬ 20 < (qs.map (·.1)).length by rw [hml]; omega), decide_eq_false (show ¬ 45 < n by omega), hml]
    rfl)
  clear hml
  go_enter Tryz.func7, Tryz.ntmps7
  go_wp2_with fail
  clear hW1 hz1 b1 a1 a2
  go_loopw [5] (fun i wr => ∃ j : Nat, j ≤ qs.length ∧ i = .int .i64 j ∧ wr = W1 ∧ Hid (∀ i, i < j → (!(kindAt (qs.map (·.1)) i).great) = true)) (fun i _ => qs.length - (intOf i).toNat)
  case atStart => exact ⟨0, by omega, rfl, rfl, Lib.hid (fun i hi => by omega)⟩
  case round =>
    obtain ⟨j, hj, rfl, rfl, Hj⟩ := hrel
    by_cases hlt : j < qs.length
    · obtain ⟨g, off, ⟨kc, kn, kw⟩, ⟨KA, kca, KB, kcb⟩, rfl, hq, ⟨hkc, hkn⟩, hg, c0, c1, c2⟩ := (hk.ext E1).at_ hlt
      have hlc := hkc.len
      have hln := hkn.len
      unfold maxLen at hlc hln
      simp only at c0 c1 c2 hlc hln
      have Hq := Lib.hid (kindAt_eq hq)
      clear hq hkc hkn
      by_cases d1 : (30 : Int) < kc.length
      · have Hb := Lib.hid (show greatB (qs.map (·.1)) n = true by
          rw [Hg.out, allR_bad hlt (by rw [Hq.out, Knd.great, decide_eq_true (show 30 < kc.length by omega)]; rfl)]
          rfl)
        go_wp2_with fail
        go_ret
        exact ⟨by rw [Hb.out]; rfl, E1⟩
      by_cases d2 : (60 : Int) < kn.length
      · have Hb := Lib.hid (show greatB (qs.map (·.1)) n = true by
          rw [Hg.out, allR_bad hlt (by rw [Hq.out, Knd.great, decide_eq_true (show 60 < kn.length by omega), Bool.or_true]; rfl)]
          rfl)
        go_wp2_with fail
        go_ret
        exact ⟨by rw [Hb.out]; rfl, E1⟩
      have hok : ∀ i, i < j + 1 → (!(kindAt (qs.map (·.1)) i).great) = true := fun i hi => by
        rcases Nat.lt_or_ge i j with h' | h'
        · exact Hj.out i h'
        · obtain rfl : i = j := by omega
          rw [Hq.out, Knd.great, decide_eq_false (show ¬ 30 < kc.length by omega), decide_eq_false (show ¬ 60 < kn.length by omega)]
          rfl
      have Hok := Lib.hid hok
      clear hok
      go_wp2_with fail
      go_roundw
      case rel => exact ⟨j + 1, by omega, by go_num, trivial, Hok⟩
      case measure => simp only [intOf]; omega
    · obtain rfl : qs.length = j := by omega
      have Hb := Lib.hid (show greatB (qs.map (·.1)) n = false by rw [Hg.out, allR_good Hj.out]; rfl)
      go_wp2_with fail
      go_ret
      exact ⟨by rw [Hb.out]; rfl, E1⟩
end Go.Proofs.YtjacbhomhjoolaaGreat
namespace Go.Proofs.YtjacbhomhjoolaaGreat
open Go.RowKit

/-- The place and the turn of the normal brick. -/
def normQ (k : Knd) (bt : Nat) (p : Pt) : Pt × Nat :=
  match (List.range 24).find? (fun n => likeB k bt p n) with
  | some n => if nearB (likeAt k bt p n) (-1000) 1000 then (likeAt k bt p n, n) else (p, bt)
  | none => (p, bt)
theorem normQ_hit {k : Knd} {bt : Nat} {p : Pt} {n : Nat} (hn : n < 24) (h0 : ∀ m, m < n → likeB k bt p m = false) (h1 : likeB k bt p n = true) : normQ k bt p = if nearB (likeAt k bt p n) (-1000) 1000 then (likeAt k bt p n, n) else (p, bt) := by
  have h : (List.range 24).find? (fun n => likeB k bt p n) = some n := by
    rw [List.find?_eq_some_iff_getElem]
    refine ⟨h1, n, by simpa using hn, by simp, fun j hj => ?_⟩
    simp [h0 j hj]
  unfold normQ
  rw [h]
theorem normQ_none {k : Knd} {bt : Nat} {p : Pt} (h0 : ∀ m, m < 24 → likeB k bt p m = false) : normQ k bt p = (p, bt) := by
  have h : (List.range 24).find? (fun n => likeB k bt p n) = none := by
    rw [List.find?_eq_none]
    intro m hm
    simp [h0 m (List.mem_range.1 hm)]
  unfold normQ
  rw [h]
theorem normQ_lt {k : Knd} {bt : Nat} {p : Pt} (h : bt < 24) : (normQ k bt p).2 < 24 := by
  unfold normQ
  split
  · rename_i n hn
    split
    · exact List.mem_range.1 (List.mem_of_find?_eq_some hn)
    · exact h
  · exact h
/-- What the reference's like returns. -/
def RLikePost (k : Knd) (i : Int) (bt : Nat) (p : Pt) (n : Nat) (bc : Int) (w : World) (e : Ending) (w' : World) : Prop :=
  e = .returned (.tuple #[.agg #[.int .i64 i, .int .i64 (likeAt k bt p n).x, .int .i64 (likeAt k bt p n).y, .int .i64 (likeAt k bt p n).z, .int .u8 n, .int .u8 bc], .bool (likeB k bt p n)]) ∧ Ext w w'
theorem set6 {W w : World} {g : Nat} {t : TypeId} {a b c d e f : Value} (v1 v2 v3 v4 v5 v6 : Value) (h : Blk W g t #[a, b, c, d, e, f]) (E : Ext w W) (hg : w.heap.size ≤ g) :
    ∃ V, (((((W.setCell ⟨g, 0, none⟩ v1).setCell ⟨g, 1, none⟩ v2).setCell ⟨g, 2, none⟩ v3).setCell ⟨g, 3, none⟩ v4).setCell ⟨g, 4, none⟩ v5).setCell ⟨g, 5, none⟩ v6 = V ∧ Blk V g t #[v1, v2, v3, v4, v5, v6] ∧ Ext w V :=
  ⟨_, rfl, (((((h.set_ 0 v1).set_ 1 v2).set_ 2 v3).set_ 3 v4).set_ 4 v5).set_ 5 v6, (((((E.setCell hg v1).setCell hg v2).setCell hg v3).setCell hg v4).setCell hg v5).setCell hg v6⟩
end Go.Proofs.YtjacbhomhjoolaaGreat
namespace Go.Proofs.YtjacbhomhjoolaaGreat
open Go.RowKit Go.Shelf
attribute [local go_sem] Oper.semAt_some

/-- The turns among some that a kind looks like itself under. -/
def symsOf (k : Knd) (pre : List (Fin 24)) : List Value := (pre.filter fun x => likeB k 0 ⟨0, 0, 0⟩ x.val).map fun x => .int .i64 (x.val : Int)
theorem symsOf_snoc (k : Knd) (pre : List (Fin 24)) (x : Fin 24) : symsOf k (pre ++ [x]) = symsOf k pre ++ if likeB k 0 ⟨0, 0, 0⟩ x.val then [.int .i64 (x.val : Int)] else [] := by
  unfold symsOf
  rw [List.filter_append]
  by_cases h : likeB k 0 ⟨0, 0, 0⟩ x.val = true
  · simp [h]
  · simp [h]
def symN (k : Knd) (pre : List (Fin 24)) : Nat := (pre.filter fun x => likeB k 0 ⟨0, 0, 0⟩ x.val).length
theorem symN_snoc (k : Knd) (pre : List (Fin 24)) (x : Fin 24) : symN k (pre ++ [x]) = symN k pre + if likeB k 0 ⟨0, 0, 0⟩ x.val then 1 else 0 := by
  unfold symN
  rw [List.filter_append]
  by_cases h : likeB k 0 ⟨0, 0, 0⟩ x.val = true
  · simp [h]
  · simp [h]
theorem symN_le (k : Knd) (pre : List (Fin 24)) : symN k pre ≤ pre.length := List.length_filter_le _ _
/-- What the loop keeps: the slice in its box. -/
def SymJ (k : Knd) (B S : Nat) (pre : List (Fin 24)) (X : World) : Prop := ∃ v, Blk X S 39 #[v] ∧ X.ownsRow B 3 1 v (symN k pre) (symsOf k pre)
theorem symJ_own (k : Knd) (B S : Nat) : Own (fun (pre : List (Fin 24)) X => SymJ k B S pre X) := fun s X Y row h hg hr => by
  obtain ⟨v, h1, h2⟩ := h
  refine ⟨v, blk_own _ _ _ () X Y row h1 hg hr, ?_⟩
  rcases h2 with ⟨hl, h2⟩
  refine ⟨hl, ?_⟩
  rcases h2 with h2 | ⟨g, cap, cur, e1, e2, e3, e4⟩
  · exact Or.inl h2
  · exact Or.inr ⟨g, cap, cur, e1, e2, blk_own g _ cur () X Y row e3 hg hr, e4⟩
set_option maxHeartbeats 1600000 in
theorem Symmetries_bad (cells : List Pt) (knobs : List Knb) (wt : Int) (A : Option Addr) (ca : Nat) (B : Option Addr) (cb : Nat) (w : World) (hc : Cells w A ca cells) (hn : Knobs w B cb knobs) (er : Int) (he : kindErr ⟨cells, knobs, wt⟩ = er) (h0 : er ≠ 0) :
    Calls Tryz.prog 38 #[.agg #[.slice A cells.length ca, .slice B knobs.length cb, .int .i64 wt]] w fun e w' => e = .returned (.tuple #[.slice none 0 0, .int .i64 er]) ∧ Ext w w' := by
  obtain ⟨W1, hW1, E1, B1, hz1⟩ := mk_ w #[.slice A cells.length ca, .slice B knobs.length cb, .int .i64 wt] 72
  have b1 := B1.cell
  have CK := checkKind_is he (hc.ext E1) (hn.ext E1)
  have h1 : (er != 0) = true := by simpa using h0
  clear he h0 hz1
  go_enter Tryz.func38, Tryz.ntmps38
  go_wp2_with fail
  refine CK.mono ?_
  rintro e W2 ⟨rfl, E2⟩
  go_wp2_with fail
  go_ret2
  exact ⟨rfl, E1.trans E2⟩
def SymPost (k : Knd) (w : World) (e : Ending) (w' : World) : Prop := ∃ A cap, e = .returned (.tuple #[.slice A (symN k (upto 24)) cap, .int .i64 0]) ∧ SliceIs w' A (symN k (upto 24)) cap 1 ((symsOf k (upto 24)).map fun v => [v]) ∧ Ext w w'
theorem infoI : (Tryz.prog.info? 3).map (fun i => (i.zero, i.size, i.bytes)) = some (some (.int .i64 0), 1, 8) := by kernel_rfl
theorem singles_flat (l : List Value) : (l.map fun v => [v]).flatten = l := by
  induction l with
  | nil => rfl
  | cons x l ih => simp [ih]
set_option maxRecDepth 100000 in
set_option maxHeartbeats 8000000 in
theorem Symmetries_ok (cells : List Pt) (knobs : List Knb) (wt : Int) (A : Option Addr) (ca : Nat) (B : Option Addr) (cb : Nat) (w : World) (hc : Cells w A ca cells) (hn : Knobs w B cb knobs) (he : kindErr ⟨cells, knobs, wt⟩ = 0) (hf : Knd.Fine ⟨cells, knobs, wt⟩) :
    Calls Tryz.prog 38 #[.agg #[.slice A cells.length ca, .slice B knobs.length cb, .int .i64 wt]] w (SymPost ⟨cells, knobs, wt⟩ w) := by
  have CK := checkKind_is he (hc.ext ((Ext.refl w).alloc (.cells #[.slice A cells.length ca, .slice B knobs.length cb, .int .i64 wt] 72))) (hn.ext ((Ext.refl w).alloc (.cells #[.slice A cells.length ca, .slice B knobs.length cb, .int .i64 wt] 72)))
  have LK : Hid (∀ (W : World) (n : Nat), Ext w W → n < 24 → Calls Tryz.prog 71 #[.agg #[.slice A cells.length ca, .slice B knobs.length cb, .int .i64 wt], .agg #[.int .i64 0, .int .i64 0, .int .i64 0, .int .i64 0, .int .u8 0, .int .u8 0], .int .i64 n] W fun e w' =>
      e = .returned (.tuple #[.agg #[.int .i64 (likeAt ⟨cells, knobs, wt⟩ 0 ⟨0, 0, 0⟩ n).x, .int .i64 (likeAt ⟨cells, knobs, wt⟩ 0 ⟨0, 0, 0⟩ n).y, .int .i64 (likeAt ⟨cells, knobs, wt⟩ 0 ⟨0, 0, 0⟩ n).z], .bool (likeB ⟨cells, knobs, wt⟩ 0 ⟨0, 0, 0⟩ n)]) ∧ Ext W w') := Lib.hid (fun W n EW hn' =>
    like_c ⟨cells, knobs, wt⟩ ⟨A, ca, B, cb⟩ W ⟨hc.ext EW, hn.ext EW⟩ hf 0 0 0 0 0 0 n (by omega) hn' (by unfold Pt.in_; simp))
  clear he hf hc hn
  refine (callsIn_wide (n := 5)).1 ?_
  refine callsIn_of_wp_marks Tryz.func38 rfl trivial ?_ rfl
  simp only [Tryz.ntmps38, List.size_toArray, List.length_cons, List.length_nil, Nat.reduceAdd, Nat.reduceSub, Array.replicate_succ, Array.replicate_zero, List.push_toArray, List.append_toArray, List.nil_append, List.cons_append]
  gi_wp2_with fail
  refine ⟨trivial, ?_⟩
  gi_at_call 28
  refine (callsIn_wide.2 CK).mono ?_
  rintro e w2 ⟨rfl, E2⟩
  clear CK
  gi_wp2_with (refine ⟨trivial, ?_⟩; gi_at_call 54; refine (callsIn_wide.2 (which_c _)).mono ?_; rintro e w3 ⟨rfl, rfl⟩)
  have B1 := ((Blk.new w #[.slice A cells.length ca, .slice B knobs.length cb, .int .i64 wt] 72).ext E2).alloc (.cells #[.slice none 0 0] 39)
  have B5 := Blk.new w2 #[.slice none 0 0] 39
  have hE0 : Ext w (w2.alloc (.cells #[.slice none 0 0] 39)) := (((Ext.refl w).alloc _).trans E2).alloc _
  have hlt : w.heap.size < w2.heap.size := by
    have := E2.size
    rw [World.size_alloc] at this
    omega
  have hsz : (w2.alloc (.cells #[.slice none 0 0] 39)).heap.size = w2.heap.size + 1 := by simp
  obtain ⟨W0, hW0⟩ : ∃ W0, w2.alloc (.cells #[.slice none 0 0] 39) = W0 := ⟨_, rfl⟩
  obtain ⟨S, hS⟩ : ∃ S, w2.heap.size = S := ⟨_, rfl⟩
  obtain ⟨T, hT⟩ : ∃ T, w.heap.size = T := ⟨_, rfl⟩
  rw [hW0] at B1 B5 hE0 hsz ⊢
  rw [hS] at B5 hsz hlt ⊢
  rw [hT] at B1 hlt ⊢
  clear hW0 hS E2
  obtain ⟨i0, hi0, hz0, hz1, hz2⟩ := info_parts infoI
  refine wpIn_rangeFunc_ownH rfl (by omega) (gf := 82) (lb := #[]) rfl trivial (enters_of Tryz.func82 (by kernel_rfl) rfl)
    (which_stops _ (by omega) (fun _ _ => True) W0) (fun _ _ => trivial) (fun _ _ _ _ _ _ _ _ => trivial) (Below.refl _ _) (fun _ => rfl)
    (fun pre X => ((Blk X T 72 #[.slice A cells.length ca, .slice B knobs.length cb, .int .i64 wt] ∧ SymJ ⟨cells, knobs, wt⟩ (S + 1) S pre X) ∧ Ext w X) ∧ pre.length ≤ 24)
    (fun _ _ _ => False)
    (OwnFrom.and (OwnFrom.and (OwnFrom.and (Own.from (blk_own _ _ _) _) (Own.from (symJ_own _ _ _) _)) (ownFrom_below (Nat.le_refl _) (by omega))) (ownFrom_pure _ _))
    (fun c s X Y row hs hg hr => hs.elim)
    ⟨⟨⟨B1, _, B5, World.ownsRow_nil _ _ _ _⟩, hE0⟩, by simp⟩
    (fun x a' X => a' = { tmps := #[.agg #[.slice A cells.length ca, .slice B knobs.length cb, .int .i64 wt], .pointer (some ⟨T, 0, none⟩), .slice none 0 0, .int .i64 0, .int .i64 0, .pointer (some ⟨S, 0, none⟩), .int .i64 (x.val : Int), undef, undef, .agg #[.slice A cells.length ca, .slice B knobs.length cb, .int .i64 wt], .int .i64 0, .int .i64 0, .bool false, undef, .func (.func 82) #[] #[], .int .i64 (x.val : Int), at123 x.val, undef, undef, undef, undef, undef, undef, undef, undef, undef, undef, undef, undef, undef], defers := [] })
    (fun x a' _ X Y row hs hg hr => hs)
    ?assign ?body ?done ?stop
  case assign =>
    rintro l pre x W K ⟨⟨⟨C1, C5⟩, hE⟩, hpl⟩ hK
    dsimp only [encW, at123]
    gi_wp2
    exact hK _ _ (KeepsFrom.refl _ _) trivial ⟨⟨⟨C1, C5⟩, hE⟩, hpl⟩ rfl
  case body =>
    rintro l pre x a' X hl - ⟨⟨⟨C1, v, C5, own⟩, hE⟩, hpl⟩ rfl hlen
    have hn1 := symN_le ⟨cells, knobs, wt⟩ pre
    have hs0 := symsOf_snoc ⟨cells, knobs, wt⟩ pre x
    have hs1 := symN_snoc ⟨cells, knobs, wt⟩ pre x
    have c1 := C1.cell
    gi_wp2_with fail
    refine ⟨trivial, ?_⟩
    gi_at_call 71
    refine (CallsIn.inRound l (callsIn_wide.2 (LK.out X x.val hE x.isLt))).mono ?_
    rintro e X2 ⟨rfl, E2⟩
    obtain ⟨y1, hy1⟩ : ∃ y, (likeAt ⟨cells, knobs, wt⟩ 0 ⟨0, 0, 0⟩ x.val).x = y := ⟨_, rfl⟩
    obtain ⟨y2, hy2⟩ : ∃ y, (likeAt ⟨cells, knobs, wt⟩ 0 ⟨0, 0, 0⟩ x.val).y = y := ⟨_, rfl⟩
    obtain ⟨y3, hy3⟩ : ∃ y, (likeAt ⟨cells, knobs, wt⟩ 0 ⟨0, 0, 0⟩ x.val).z = y := ⟨_, rfl⟩
    rw [hy1, hy2, hy3]
    clear hy1 hy2 hy3
    have C1' := (C1.ext E2).alloc (.cells #[.int .i64 y1, .int .i64 y2, .int .i64 y3] 27)
    have C5' := (C5.ext E2).alloc (.cells #[.int .i64 y1, .int .i64 y2, .int .i64 y3] 27)
    have E3 := E2.alloc (.cells #[.int .i64 y1, .int .i64 y2, .int .i64 y3] 27)
    have own' := own_ext own E3
    have hE' := hE.trans E3
    have c5 := C5'.cell
    have f5 := C5'.frozen
    have hSX := C5.lt
    have hsz2 := E2.size
    cases hb : likeB ⟨cells, knobs, wt⟩ 0 ⟨0, 0, 0⟩ x.val
    · rw [hb] at hs0 hs1
      simp only [Bool.false_eq_true, if_false, List.append_nil, Nat.add_zero] at hs0 hs1
      gi_wp2_with fail
      exact ⟨(ext_keeps E3).from _, trivial, ⟨⟨⟨C1', v, C5', by rw [hs0, hs1]; exact own'⟩, hE'⟩, by simp only [List.length_append, List.length_cons, List.length_nil]; omega⟩⟩
    · rw [hb] at hs0 hs1
      simp only [if_true] at hs0 hs1
      gi_wp2_with (gi_at_builtin; refine wpListIn_append_own _ rfl _ _ 39 rfl (S + 1) 3 i0 _ 1 8 Tryz.underlying39 hi0 hz0 hz1 hz2 rfl (by decide) v _ _ rfl (own_ext own' ((Ext.refl _).alloc _)) _ 1 1 [.int .i64 (x.val : Int)] rfl rfl ?nc (by simp [Value.oneCell']) (by unfold maxLen; omega) (by omega) (by simp; omega) ?_)
      case nc =>
        have h := cell_one_new (X2.alloc (.cells #[.int .i64 y1, .int .i64 y2, .int .i64 y3] 27)) (.int .i64 (x.val : Int)) 3
        rwa [World.size_alloc] at h
      intro v' w' own2 hg2 _
      have C1'' := (C1'.alloc (.cells #[.int .i64 (x.val : Int)] 3)).grown hg2 (own_ne own (by omega))
      have C5'' := (C5'.alloc (.cells #[.int .i64 (x.val : Int)] 3)).grown hg2 (own_ne own (by omega))
      have c5' := C5''.cell
      have f5' := C5''.frozen
      have hE'' := (hE'.alloc (.cells #[.int .i64 (x.val : Int)] 3)).grown hg2 (fun q hq => by have := (own.lt q hq).1; omega)
      clear c5 f5
      have hk2 : KeepsOthers X w' := ((ext_keeps E3).trans (KeepsOthers.alloc _ _)).trans (KeepsOthers.of_grownBy hg2 fun j o ej hj => by
        rcases (own_ext own' ((Ext.refl _).alloc (.cells #[.int .i64 (x.val : Int)] 3))).2 with ⟨rfl, _⟩ | ⟨g, cap, cur, rfl, _, hgb, _⟩
        · simp [Value.ownBlock] at ej
        · obtain rfl : g = j := by simpa [Value.ownBlock] using ej
          rw [hgb] at hj; cases hj; rfl)
      obtain ⟨g', cap', rfl⟩ := ownsRow_succ own2
      gi_wp2_with fail
      exact ⟨(hk2.trans (KeepsOthers.setCell _ _ _)).from _, trivial, ⟨⟨⟨C1''.far (show T ≠ S by omega) _, _, C5''.set_ 0 _, by rw [hs0, hs1]; exact own_setCell own2 (Nat.lt_succ_self _) _⟩, hE''.setCell (show w.heap.size ≤ S by omega) _⟩, by simp only [List.length_append, List.length_cons, List.length_nil]; omega⟩⟩
  case done =>
    rintro D ys X hD rfl ⟨⟨⟨C1, v, C5, own⟩, hE⟩, -⟩ hKd
    rename_i K0 hK0
    refine hK0 _ _ ?_
    have c5 := C5.cell
    gi_wp2_with fail
    refine ⟨by simp, .inl ⟨_, _, rfl, run_takeDeferred hKd, ?_⟩⟩
    refine ⟨.tuple #[v, .int .i64 0], by simp [results, Tryz.results38, go_sem], ?_⟩
    have own' := ownsRow_putObj own (.deferred none) hKd rfl
    obtain ⟨A1, cap, rfl, h1, -⟩ := own_slice0 (n := symN ⟨cells, knobs, wt⟩ (upto 24)) (rows := (symsOf ⟨cells, knobs, wt⟩ (upto 24)).map fun v => [v]) (fun r hr => by obtain ⟨y, -, rfl⟩ := List.mem_map.1 hr; rfl) (by simp [symsOf, symN]) (by rw [singles_flat]; exact own')
    exact ⟨A1, cap, rfl, h1, Below.trans hE (belowK_b (w := w) (Nat.le_refl _) X D _ _ (by omega) hKd rfl rfl)⟩
  case stop =>
    rintro D c pre X hD hpre hf
    exact hf.elim
end Go.Proofs.YtjacbhomhjoolaaGreat
namespace Go.Proofs.YtjacbhomhjoolaaGreat
open Go.RowKit Go.Shelf
attribute [local go_sem] Oper.semAt_some

/-- Six stores into a box, and what they keep. -/
theorem set6k {W w : World} {g : Nat} {t : TypeId} {a b c d e f : Value} (v1 v2 v3 v4 v5 v6 : Value) (hb : Blk W g t #[a, b, c, d, e, f]) (E : Ext w W) (hg : w.heap.size ≤ g) :
    ∃ V, (((((W.setCell ⟨g, 0, none⟩ v1).setCell ⟨g, 1, none⟩ v2).setCell ⟨g, 2, none⟩ v3).setCell ⟨g, 3, none⟩ v4).setCell ⟨g, 4, none⟩ v5).setCell ⟨g, 5, none⟩ v6 = V ∧ Blk V g t #[v1, v2, v3, v4, v5, v6] ∧ Ext w V ∧ KeepsOthers W V ∧
      ∀ (h : Nat) (u : TypeId) (cs : Array Value), h ≠ g → Blk W h u cs → Blk V h u cs := by
  obtain ⟨V, hV, h1, h2⟩ := set6 v1 v2 v3 v4 v5 v6 hb E hg
  refine ⟨V, hV, h1, h2, ?_, fun h u cs hn hh => ?_⟩
  · rw [← hV]
    refine KeepsOthers.trans ?_ (KeepsOthers.setCell _ _ _)
    refine KeepsOthers.trans ?_ (KeepsOthers.setCell _ _ _)
    refine KeepsOthers.trans ?_ (KeepsOthers.setCell _ _ _)
    refine KeepsOthers.trans ?_ (KeepsOthers.setCell _ _ _)
    refine KeepsOthers.trans ?_ (KeepsOthers.setCell _ _ _)
    exact KeepsOthers.setCell _ _ _
  · rw [← hV]
    refine Blk.far (p := ⟨g, 5, none⟩) ?_ hn _
    refine Blk.far (p := ⟨g, 4, none⟩) ?_ hn _
    refine Blk.far (p := ⟨g, 3, none⟩) ?_ hn _
    refine Blk.far (p := ⟨g, 2, none⟩) ?_ hn _
    refine Blk.far (p := ⟨g, 1, none⟩) ?_ hn _
    refine Blk.far (p := ⟨g, 0, none⟩) ?_ hn _
    exact hh
/-- Seven stores: a brick into its box, a number into its own. -/
theorem set7 {W w : World} {g h : Nat} {t u : TypeId} {a b c d e f i : Value} (v1 v2 v3 v4 v5 v6 v7 : Value) (hb : Blk W g t #[a, b, c, d, e, f]) (hi : Blk W h u #[i]) (hne : g ≠ h) (E : Ext w W) (hg : w.heap.size ≤ g) (hh : w.heap.size ≤ h) :
    ∃ V, ((((((W.setCell ⟨g, 0, none⟩ v1).setCell ⟨g, 1, none⟩ v2).setCell ⟨g, 2, none⟩ v3).setCell ⟨g, 3, none⟩ v4).setCell ⟨g, 4, none⟩ v5).setCell ⟨g, 5, none⟩ v6).setCell ⟨h, 0, none⟩ v7 = V ∧ Blk V g t #[v1, v2, v3, v4, v5, v6] ∧ Blk V h u #[v7] ∧ Ext w V ∧ KeepsOthers W V := by
  obtain ⟨V, hV, h1, h2, h3, h4⟩ := set6k v1 v2 v3 v4 v5 v6 hb E hg
  rw [hV]
  exact ⟨_, rfl, h1.far hne _, (h4 h u _ (fun e => hne e.symm) hi).set_ 0 v7, h2.setCell hh v7, h3.trans (KeepsOthers.setCell _ _ _)⟩
set_option maxRecDepth 100000 in
set_option maxHeartbeats 8000000 in
theorem Normal_bad (qs : List (Knd × KAt)) (QA : Option Addr) (qc : Nat) (w : World) (hk : Kinds w QA qc qs) (kd x y z t c er : Int) (hb : Brk.byte ⟨kd, ⟨x, y, z⟩, t, c⟩) (he : askedErr (qs.map (·.1)) [⟨kd, ⟨x, y, z⟩, t, c⟩] = er) (h0 : er ≠ 0) :
    Calls Tryz.prog 39 #[.slice QA qs.length qc, .agg #[.int .i64 kd, .int .i64 x, .int .i64 y, .int .i64 z, .int .u8 t, .int .u8 c]] w fun e w' => e = .returned (.tuple #[.agg #[.int .i64 0, .int .i64 0, .int .i64 0, .int .i64 0, .int .u8 0, .int .u8 0], .int .i64 er]) ∧ Ext w w' := by
  obtain ⟨W1, hW1, E1, B1, hz1⟩ := mk_ w #[.slice QA qs.length qc] 22
  obtain ⟨W2, hW2, E2, B2, hz2⟩ := mk_ W1 #[.int .i64 kd, .int .i64 x, .int .i64 y, .int .i64 z, .int .u8 t, .int .u8 c] 51
  obtain ⟨W3, hW3, E3, B3, hz3⟩ := mk_ W2 #[.int .i64 0, .int .i64 0, .int .i64 0, .int .i64 0, .int .u8 0, .int .u8 0] 51
  obtain ⟨W4, hW4, E4, B4, hz4⟩ := mk_ W3 #[.int .i64 0] 30
  have E := ((E1.trans E2).trans E3).trans E4
  have c1 := (((B1.ext E2).ext E3).ext E4).cell
  have c2 := ((B2.ext E3).ext E4).cell
  have CH := check1_c qs QA qc kd x y z t c W4 (hk.ext E) hb 51
  rw [he] at CH
  have h1 : (er != 0) = true := by simpa using h0
  have hne : W2.heap.size ≠ W3.heap.size := by omega
  have l4 : w.heap.size ≤ W3.heap.size := ((E1.trans E2).trans E3).size
  clear he h0 hz1 hz2 hz4 hk hz3
  go_enter Tryz.func39, Tryz.ntmps39
  go_wp2_with fail
  refine CH.mono ?_
  rintro e W5 ⟨rfl, E5⟩
  have B35 := (B3.ext E4).ext E5
  have B45 := B4.ext E5
  have b3 := B35.cell
  have f3 := B35.frozen
  have b4 := B45.cell
  have f4 := B45.frozen
  go_wp2_with fail
  obtain ⟨V, hV, BV, CV, EV, -⟩ := set7 (.int .i64 0) (.int .i64 0) (.int .i64 0) (.int .i64 0) (.int .u8 0) (.int .u8 0) (.int .i64 er) B35 B45 hne (E.trans E5) (E1.trans E2).size l4
  have bV := BV.cell
  have cV := CV.cell
  rw [hV]
  clear hV
  refine bodyPost_ret (v := .tuple #[.agg #[.int .i64 0, .int .i64 0, .int .i64 0, .int .i64 0, .int .u8 0, .int .u8 0], .int .i64 er]) (by simp [results, Tryz.results39, go_sem, bV, cV]) rfl ⟨rfl, EV⟩
theorem ok_near {n : Nat} {b : Brk} (h : b.ok n = true) (a : Pt) (m : Nat) (hm : m < 24) : Brk.ok n ⟨b.kind, a, m, b.color⟩ = nearB a (-1000) 1000 := by
  rw [Brk.ok_iff] at h
  rw [Bool.eq_iff_iff, Brk.ok_iff]
  simp only
  constructor
  · exact fun h => h.2.2.1
  · exact fun h' => ⟨h.1, h.2.1, h', by omega, h.2.2.2.2⟩
theorem pre_upto {pre : List (Fin 24)} {x : Fin 24} (h : pre ++ [x] <+: upto 24) : ∀ m, (hm : m < x.val) → (⟨m, by omega⟩ : Fin 24) ∈ pre := by
  obtain ⟨s, hs⟩ := h
  have hu : upto 24 = List.finRange 24 := by
    unfold upto
    exact List.take_of_length_le (by simp)
  rw [hu, List.append_assoc] at hs
  have hl := congrArg List.length hs
  simp only [List.length_append, List.length_cons, List.length_nil, List.length_finRange] at hl
  have hx : pre.length = x.val := by
    have h1 := congrArg (fun l => l[pre.length]?) hs
    simp only [List.getElem?_append_right (Nat.le_refl _), Nat.sub_self, List.cons_append, List.getElem?_cons_zero] at h1
    have hp24 : pre.length < (List.finRange 24).length := by
      rw [List.length_finRange]
      omega
    rw [List.getElem?_eq_getElem hp24] at h1
    simp at h1
    rw [h1]
  intro m hm
  have h1 : (pre ++ ([x] ++ s))[m]? = (List.finRange 24)[m]? := by rw [hs]
  have hm24 : m < (List.finRange 24).length := by
    rw [List.length_finRange]
    omega
  rw [List.getElem?_append_left (by omega), List.getElem?_eq_getElem hm24] at h1
  refine List.mem_of_getElem? (i := m) ?_
  rw [h1]
  simp
/-- What is known in the region that asks like. -/
structure Nm6 (X : World) (vS vI vK vB vN vT vA : Value) (aA : Array Value) (T kg ko : Nat) (b : Bool) (L : Nat → Bool) (us : Nat → Value) (w : World) : Prop where
  o : Owns [11] X L us w
  f0 : L 0 = true → us 0 = vS
  f1 : L 1 = true → us 1 = .pointer (some ⟨T + 1, 0, none⟩)
  f2 : L 2 = true → us 2 = vI
  f3 : L 3 = true → us 3 = .pointer (some ⟨kg, ko, none⟩)
  f4 : L 4 = true → us 4 = vK
  f5 : L 5 = true → us 5 = vB
  f6 : L 6 = true → us 6 = vN
  f7 : L 7 = true → us 7 = vT
  f8 : L 8 = true → us 8 = vT
  f9 : L 9 = true → us 9 = vA
  f10 : L 10 = true → us 10 = .bool b
  f11 : L 11 = true → us 11 = .pointer (some ⟨bk (us 11), 0, none⟩)
  g11 : L 11 = true → L 12 = false → Blk w (bk (us 11)) 27 #[.int .i64 0, .int .i64 0, .int .i64 0]
  f12 : L 12 = true → Blk w (bk (us 11)) 27 aA
  f13 : L 13 = true → us 13 = .bool b
set_option maxRecDepth 100000 in
set_option maxHeartbeats 8000000 in
theorem Normal_ok (qs : List (Knd × KAt)) (QA : Option Addr) (qc : Nat) (w : World) (hk : Kinds w QA qc qs) (i : Nat) (k : Knd) (p : KAt) (hi : qs[i]? = some (k, p)) (hf : k.Fine) (x y z c : Int) (t : Nat) (hb : Brk.byte ⟨i, ⟨x, y, z⟩, t, c⟩) (he : askedErr (qs.map (·.1)) [⟨i, ⟨x, y, z⟩, t, c⟩] = 0) (ht : t < 24) (hp : Pt.in_ 1000 ⟨x, y, z⟩) :
    Calls Tryz.prog 39 #[.slice QA qs.length qc, .agg #[.int .i64 i, .int .i64 x, .int .i64 y, .int .i64 z, .int .u8 t, .int .u8 c]] w fun e w' =>
      e = .returned (.tuple #[.agg #[.int .i64 i, .int .i64 (normQ k t ⟨x, y, z⟩).1.x, .int .i64 (normQ k t ⟨x, y, z⟩).1.y, .int .i64 (normQ k t ⟨x, y, z⟩).1.z, .int .u8 (normQ k t ⟨x, y, z⟩).2, .int .u8 c], .int .i64 0]) ∧ Ext w w' := by
  obtain ⟨q, hq⟩ : ∃ q, normQ k t ⟨x, y, z⟩ = q := ⟨_, rfl⟩
  rw [hq]
  obtain ⟨W1, hW1, E1, B1, hz1⟩ := mk_ w #[.slice QA qs.length qc] 22
  obtain ⟨W2, hW2, E2, B2, hz2⟩ := mk_ W1 #[.int .i64 i, .int .i64 x, .int .i64 y, .int .i64 z, .int .u8 t, .int .u8 c] 51
  obtain ⟨W3, hW3, E3, B3, hz3⟩ := mk_ W2 #[.int .i64 0, .int .i64 0, .int .i64 0, .int .i64 0, .int .u8 0, .int .u8 0] 51
  obtain ⟨W4, hW4, E4, B4, hz4⟩ := mk_ W3 #[.int .i64 0] 30
  have E := ((E1.trans E2).trans E3).trans E4
  rw [hz1] at B2
  rw [hz2, hz1] at B3
  rw [hz3, hz2, hz1] at B4
  have D1 := ((B1.ext E2).ext E3).ext E4
  have D2 := (B2.ext E3).ext E4
  have D3 := B3.ext E4
  have c1 := D1.cell
  have c2 := D2.cell
  have CH := check1_c qs QA qc i x y z t c W4 (hk.ext E) hb 51
  rw [he, hz4, hz3, hz2, hz1] at CH
  refine (callsIn_wide (n := 5)).1 ?_
  refine callsIn_of_wp_marks Tryz.func39 rfl trivial ?_ rfl
  simp only [Tryz.ntmps39, List.size_toArray, List.length_cons, List.length_nil, Nat.reduceAdd, Nat.reduceSub, Array.replicate_succ, Array.replicate_zero, List.push_toArray, List.append_toArray, List.nil_append, List.cons_append]
  gi_wp2_with fail
  refine ⟨trivial, ?_⟩
  gi_at_call 47
  refine (callsIn_wide.2 CH).mono ?_
  rintro e W5 ⟨rfl, E5⟩
  clear CH
  gi_wp2_with (refine ⟨trivial, ?_⟩; gi_at_call 54; refine (callsIn_wide.2 (which_c _)).mono ?_; rintro e w3 ⟨rfl, rfl⟩)
  have Z1 := D1.ext E5
  have Z2 := D2.ext E5
  have Z3 := D3.ext E5
  have Z4 := B4.ext E5
  have hE0 := E.trans E5
  have hsz : w.heap.size + 1 + 1 + 1 < w3.heap.size := Z4.lt
  have HVv := Lib.hid (ok_near (show Brk.ok qs.length ⟨i, ⟨x, y, z⟩, t, c⟩ = true by have := (asked_zero he).2; rwa [List.length_map] at this))
  have HKi := Lib.hid hk
  have hil : i < qs.length := (List.getElem?_eq_some_iff.1 hi).1
  have hql : qs.length ≤ 9223372036854775807 := by have := hk.len; unfold maxLen at this; omega
  obtain ⟨cells, knobs, wt⟩ := k
  obtain ⟨A, ca, B, cb⟩ := p
  have hka := hk.k _ (List.mem_of_getElem? hi)
  have LK := Lib.hid (fun (W : World) (n : Nat) (EW : Ext w W) (hn : n < 24) => like_c ⟨cells, knobs, wt⟩ ⟨A, ca, B, cb⟩ W (hka.ext EW) hf i x y z c t n ht hn hp)
  have HM := Lib.hid (fun n => normQ_hit (k := ⟨cells, knobs, wt⟩) (bt := t) (p := ⟨x, y, z⟩) (n := n))
  have HN := Lib.hid (normQ_none (k := ⟨cells, knobs, wt⟩) (bt := t) (p := ⟨x, y, z⟩))
  have Hi := Lib.hid hi
  clear he hb hf hp hi hk hka c1 c2 D1 D2 D3 B1 B2 B3 B4 E1 E2 E3 E4 E5 E hz1 hz2 hz3 hz4 hW1 hW2 hW3 hW4
  rw [hq] at HM HN
  clear hq
  obtain ⟨T, hT⟩ : ∃ T, w.heap.size = T := ⟨_, rfl⟩
  rw [hT] at Z1 Z2 Z3 Z4 hsz ⊢
  refine wpIn_rangeFunc_ownH rfl (by omega) (gf := 82) (lb := #[]) rfl trivial (enters_of Tryz.func82 (by kernel_rfl) rfl)
    (which_stops _ (by omega) (fun _ _ => True) w3) (fun _ _ => trivial) (fun _ _ _ _ _ _ _ _ => trivial) (Below.refl _ _) (fun _ => rfl)
    (fun pre X => ((((Blk X T 22 #[.slice QA qs.length qc] ∧ Blk X (T + 1) 51 #[.int .i64 i, .int .i64 x, .int .i64 y, .int .i64 z, .int .u8 t, .int .u8 c]) ∧ Blk X (T + 1 + 1) 51 #[.int .i64 0, .int .i64 0, .int .i64 0, .int .i64 0, .int .u8 0, .int .u8 0]) ∧ Blk X (T + 1 + 1 + 1) 30 #[.int .i64 0]) ∧ Ext w X) ∧ ∀ y' ∈ pre, likeB ⟨cells, knobs, wt⟩ t ⟨x, y, z⟩ y'.val = false)
    (fun cd pre X => (∃ q3, (Blk X (T + 1) 51 #[.int .i64 i, .int .i64 x, .int .i64 y, .int .i64 z, .int .u8 t, .int .u8 c] ∧ Blk X (T + 1 + 1) 51 q3 ∧ Blk X (T + 1 + 1 + 1) 30 #[.int .i64 0]) ∧
      ∃ (pre0 : List (Fin 24)) (x0 : Fin 24), pre = pre0 ++ [x0] ∧ (∀ y' ∈ pre0, likeB ⟨cells, knobs, wt⟩ t ⟨x, y, z⟩ y'.val = false) ∧ likeB ⟨cells, knobs, wt⟩ t ⟨x, y, z⟩ x0.val = true ∧
      ((cd = .ret ∧ nearB (likeAt ⟨cells, knobs, wt⟩ t ⟨x, y, z⟩ x0.val) (-1000) 1000 = true ∧ q3 = #[.int .i64 i, .int .i64 (likeAt ⟨cells, knobs, wt⟩ t ⟨x, y, z⟩ x0.val).x, .int .i64 (likeAt ⟨cells, knobs, wt⟩ t ⟨x, y, z⟩ x0.val).y, .int .i64 (likeAt ⟨cells, knobs, wt⟩ t ⟨x, y, z⟩ x0.val).z, .int .u8 x0.val, .int .u8 c]) ∨ (cd = .exit 0 ∧ nearB (likeAt ⟨cells, knobs, wt⟩ t ⟨x, y, z⟩ x0.val) (-1000) 1000 = false ∧ q3 = #[.int .i64 0, .int .i64 0, .int .i64 0, .int .i64 0, .int .u8 0, .int .u8 0]))) ∧ Ext w X)
    (OwnFrom.and (OwnFrom.and (OwnFrom.and (OwnFrom.and (OwnFrom.and (Own.from (blk_own _ _ _) _) (Own.from (blk_own _ _ _) _)) (Own.from (blk_own _ _ _) _)) (Own.from (blk_own _ _ _) _)) (ownFrom_below (Nat.le_refl _) (by omega))) (ownFrom_pure _ _))
    (fun cd => OwnFrom.and (fun s X Y row hs hg hr => by
      obtain ⟨q3, ⟨h1, h2, h3⟩, h'⟩ := hs
      exact ⟨q3, ⟨blk_own _ _ _ () X Y row h1 hg (fun r e => (hr r e).2), blk_own _ _ _ () X Y row h2 hg (fun r e => (hr r e).2), blk_own _ _ _ () X Y row h3 hg (fun r e => (hr r e).2)⟩, h'⟩) (ownFrom_below (Nat.le_refl _) (by omega)))
    ⟨⟨⟨⟨⟨Z1, Z2⟩, Z3⟩, Z4⟩, hE0⟩, fun _ h => by cases h⟩
    (fun x' a' X => a' = { tmps := #[.slice QA qs.length qc, .agg #[.int .i64 i, .int .i64 x, .int .i64 y, .int .i64 z, .int .u8 t, .int .u8 c], .pointer (some ⟨T, 0, none⟩), .pointer (some ⟨T + 1, 0, none⟩), .pointer (some ⟨T + 1 + 1, 0, none⟩), .pointer (some ⟨T + 1 + 1 + 1, 0, none⟩), .int .i64 0, .int .i64 (x'.val : Int), undef, undef, undef,
      .slice QA qs.length qc, .agg #[.int .i64 i, .int .i64 x, .int .i64 y, .int .i64 z, .int .u8 t, .int .u8 c], .slice (some ⟨T + 1 + 1 + 1 + 1, 0, none⟩) 1 1, .int .i64 0, .int .i64 0, .bool false, undef, undef, .func (.func 82) #[] #[], .int .i64 (x'.val : Int), at123 x'.val,
      undef, undef, undef, undef, undef, undef, undef, undef, undef, undef, undef, undef, undef, undef, undef, undef, undef, undef, undef, undef, undef, undef, undef, undef, undef], defers := [] })
    (fun x' a' _ X Y row hs hg hr => hs)
    ?assign ?body ?done ?stop
  case assign =>
    rintro l pre x' W K ⟨⟨⟨⟨⟨C1, C2⟩, C3⟩, C4⟩, hE⟩, hpl⟩ hK
    dsimp only [encW, at123]
    gi_wp2
    exact hK _ _ (KeepsFrom.refl _ _) trivial ⟨⟨⟨⟨⟨C1, C2⟩, C3⟩, C4⟩, hE⟩, hpl⟩ rfl
  case body =>
    rintro l pre x' a' X hl - ⟨⟨⟨⟨⟨C1, C2⟩, C3⟩, C4⟩, hE⟩, hne⟩ rfl -
    have Hne := Lib.hid hne
    clear hne
    obtain ⟨kg, koff, k', p', rfl, hq, hka, hkg, d0, d1, d2⟩ := (HKi.out.ext hE).at_ hil
    rw [Hi.out] at hq
    cases hq
    simp only at d0 d1 d2
    clear hka
    have i1 : (0 : Int) ≤ i := by omega
    have i2 : (i : Int) < qs.length := by omega
    have hLX := Lib.hid hE
    have c1 := C1.cell
    have c2 := C2.cell
    obtain ⟨q, hq⟩ : ∃ q, likeAt ⟨cells, knobs, wt⟩ t ⟨x, y, z⟩ x'.val = q := ⟨_, rfl⟩
    obtain ⟨lb, hlb⟩ : ∃ b, likeB ⟨cells, knobs, wt⟩ t ⟨x, y, z⟩ x'.val = b := ⟨_, rfl⟩
    have LX := LK.out X x'.val hE x'.isLt
    have HC1 := Lib.hid C1
    have HC2 := Lib.hid C2
    have HD0 := Lib.hid d0
    have HD1 := Lib.hid d1
    have HD2 := Lib.hid d2
    clear d0 d1 d2
    have LX : Hid (∀ W, Ext X W → Calls Tryz.prog 71 #[.agg #[.slice A cells.length ca, .slice B knobs.length cb, .int .i64 wt], .agg #[.int .i64 i, .int .i64 x, .int .i64 y, .int .i64 z, .int .u8 t, .int .u8 c], .int .i64 x'.val] W fun e w' => e = .returned (.tuple #[.agg #[.int .i64 q.x, .int .i64 q.y, .int .i64 q.z], .bool lb]) ∧ Ext W w') := Lib.hid (fun W EW => by
      rw [← hq, ← hlb]
      exact LK.out W x'.val (hE.trans EW) x'.isLt)
    have hHq := Lib.hid hq
    have hHlb := Lib.hid hlb
    clear hq hlb
    gi_wp2_with fail
    refine wpIn_region_by (Nm6 X (.slice (some ⟨kg, koff, none⟩) qs.length qc) (.int .i64 i) (.agg #[.slice A cells.length ca, .slice B knobs.length cb, .int .i64 wt]) (.agg #[.int .i64 i, .int .i64 x, .int .i64 y, .int .i64 z, .int .u8 t, .int .u8 c]) (.int .i64 x'.val) (.tuple #[.agg #[.int .i64 q.x, .int .i64 q.y, .int .i64 q.z], .bool lb]) (.agg #[.int .i64 q.x, .int .i64 q.y, .int .i64 q.z]) #[.int .i64 q.x, .int .i64 q.y, .int .i64 q.z] T kg (koff + i * 3) lb) (by kernel_rfl) (by kernel_rfl) (by kernel_rfl) (fun us => ?_) ⟨?_, ?_, ?_, ?_, ?_, ?_, ?_, ?_, ?_, ?_, ?_, ?_, ?_, ?_, trivial⟩ ?_
    · exact ⟨Owns.start (Ext.refl X).drew, (nofun), (nofun), (nofun), (nofun), (nofun), (nofun), (nofun), (nofun), (nofun), (nofun), (nofun), (nofun), (nofun), (nofun), (nofun)⟩
    · intro L us wx K a ha hp hd hun hI hK
      have HX := hI.o.e
      have bb := (HC1.out.ext HX).cell
      clear hp HX
      replace hd := Lib.hid hd
      simp only [putAll, Act.put, List.setIfInBounds_toArray, List.set_cons_succ, List.set_cons_zero, Nat.reduceAdd] at ha
      subst ha
      simp only [Act.put, List.setIfInBounds_toArray, List.set_cons_succ, List.set_cons_zero] at hK
      go_simp
      refine hK _ _ ?_
      refine ⟨?_, ?_, ?_, ?_, ?_, ?_, ?_, ?_, ?_, ?_, ?_, ?_, ?_, ?_, ?_, ?_⟩
      all_goals (first | exact hI.o.pure rfl _ | exact hI.f0 | exact hI.f1 | exact hI.f2 | exact hI.f3 | exact hI.f4 | exact hI.f5 | exact hI.f6 | exact hI.f7 | exact hI.f8 | exact hI.f9 | exact hI.f10 | exact hI.f11 | exact hI.f12 | exact hI.f13 | exact hI.g11 | exact fun _ => rfl | skip)
    · intro L us wx K a ha hp hd hun hI hK
      have HX := hI.o.e
      skip
      clear hp HX
      replace hd := Lib.hid hd
      simp only [putAll, Act.put, List.setIfInBounds_toArray, List.set_cons_succ, List.set_cons_zero, Nat.reduceAdd] at ha
      subst ha
      simp only [Act.put, List.setIfInBounds_toArray, List.set_cons_succ, List.set_cons_zero] at hK
      go_simp
      refine hK _ _ ?_
      refine ⟨?_, ?_, ?_, ?_, ?_, ?_, ?_, ?_, ?_, ?_, ?_, ?_, ?_, ?_, ?_, ?_⟩
      all_goals (first | exact hI.o.pure rfl _ | exact hI.f0 | exact hI.f1 | exact hI.f2 | exact hI.f3 | exact hI.f4 | exact hI.f5 | exact hI.f6 | exact hI.f7 | exact hI.f8 | exact hI.f9 | exact hI.f10 | exact hI.f11 | exact hI.f12 | exact hI.f13 | exact hI.g11 | exact fun _ => rfl | skip)
    · intro L us wx K a ha hp hd hun hI hK
      have HX := hI.o.e
      (have u1 := hI.f1 (hp 1 (by kernel_rfl)); have bb := (HC2.out.ext HX).cell)
      clear hp HX
      replace hd := Lib.hid hd
      simp only [putAll, Act.put, List.setIfInBounds_toArray, List.set_cons_succ, List.set_cons_zero, Nat.reduceAdd, u1] at ha
      subst ha
      simp only [Act.put, List.setIfInBounds_toArray, List.set_cons_succ, List.set_cons_zero] at hK
      go_simp
      refine hK _ _ ?_
      refine ⟨?_, ?_, ?_, ?_, ?_, ?_, ?_, ?_, ?_, ?_, ?_, ?_, ?_, ?_, ?_, ?_⟩
      all_goals (first | exact hI.o.pure rfl _ | exact hI.f0 | exact hI.f1 | exact hI.f2 | exact hI.f3 | exact hI.f4 | exact hI.f5 | exact hI.f6 | exact hI.f7 | exact hI.f8 | exact hI.f9 | exact hI.f10 | exact hI.f11 | exact hI.f12 | exact hI.f13 | exact hI.g11 | exact fun _ => rfl | skip)
    · intro L us wx K a ha hp hd hun hI hK
      have HX := hI.o.e
      (have u1 := hI.f0 (hp 0 (by kernel_rfl)); have u2 := hI.f2 (hp 2 (by kernel_rfl)))
      clear hp HX
      replace hd := Lib.hid hd
      simp only [putAll, Act.put, List.setIfInBounds_toArray, List.set_cons_succ, List.set_cons_zero, Nat.reduceAdd, u1, u2] at ha
      subst ha
      simp only [Act.put, List.setIfInBounds_toArray, List.set_cons_succ, List.set_cons_zero] at hK
      go_simp
      refine hK _ _ ?_
      refine ⟨?_, ?_, ?_, ?_, ?_, ?_, ?_, ?_, ?_, ?_, ?_, ?_, ?_, ?_, ?_, ?_⟩
      all_goals (first | exact hI.o.pure rfl _ | exact hI.f0 | exact hI.f1 | exact hI.f2 | exact hI.f3 | exact hI.f4 | exact hI.f5 | exact hI.f6 | exact hI.f7 | exact hI.f8 | exact hI.f9 | exact hI.f10 | exact hI.f11 | exact hI.f12 | exact hI.f13 | exact hI.g11 | exact fun _ => rfl | skip)
    · intro L us wx K a ha hp hd hun hI hK
      have HX := hI.o.e
      (have u1 := hI.f3 (hp 3 (by kernel_rfl)); have b0 := HX.cell HD0.out; have b1 := HX.cell HD1.out; have b2 := HX.cell HD2.out)
      clear hp HX
      replace hd := Lib.hid hd
      simp only [putAll, Act.put, List.setIfInBounds_toArray, List.set_cons_succ, List.set_cons_zero, Nat.reduceAdd, u1] at ha
      subst ha
      simp only [Act.put, List.setIfInBounds_toArray, List.set_cons_succ, List.set_cons_zero] at hK
      go_simp
      refine hK _ _ ?_
      refine ⟨?_, ?_, ?_, ?_, ?_, ?_, ?_, ?_, ?_, ?_, ?_, ?_, ?_, ?_, ?_, ?_⟩
      all_goals (first | exact hI.o.pure rfl _ | exact hI.f0 | exact hI.f1 | exact hI.f2 | exact hI.f3 | exact hI.f4 | exact hI.f5 | exact hI.f6 | exact hI.f7 | exact hI.f8 | exact hI.f9 | exact hI.f10 | exact hI.f11 | exact hI.f12 | exact hI.f13 | exact hI.g11 | exact fun _ => rfl | skip)
    · intro L us wx K a ha hp hd hun hI hK
      have HX := hI.o.e
      have bb := (HC2.out.ext HX).cell
      clear hp HX
      replace hd := Lib.hid hd
      simp only [putAll, Act.put, List.setIfInBounds_toArray, List.set_cons_succ, List.set_cons_zero, Nat.reduceAdd] at ha
      subst ha
      simp only [Act.put, List.setIfInBounds_toArray, List.set_cons_succ, List.set_cons_zero] at hK
      go_simp
      refine hK _ _ ?_
      refine ⟨?_, ?_, ?_, ?_, ?_, ?_, ?_, ?_, ?_, ?_, ?_, ?_, ?_, ?_, ?_, ?_⟩
      all_goals (first | exact hI.o.pure rfl _ | exact hI.f0 | exact hI.f1 | exact hI.f2 | exact hI.f3 | exact hI.f4 | exact hI.f5 | exact hI.f6 | exact hI.f7 | exact hI.f8 | exact hI.f9 | exact hI.f10 | exact hI.f11 | exact hI.f12 | exact hI.f13 | exact hI.g11 | exact fun _ => rfl | skip)
    · intro L us wx K a ha hp hd hun hI hK
      have HX := hI.o.e
      skip
      clear hp HX
      replace hd := Lib.hid hd
      simp only [putAll, Act.put, List.setIfInBounds_toArray, List.set_cons_succ, List.set_cons_zero, Nat.reduceAdd] at ha
      subst ha
      simp only [Act.put, List.setIfInBounds_toArray, List.set_cons_succ, List.set_cons_zero] at hK
      go_simp
      refine hK _ _ ?_
      refine ⟨?_, ?_, ?_, ?_, ?_, ?_, ?_, ?_, ?_, ?_, ?_, ?_, ?_, ?_, ?_, ?_⟩
      all_goals (first | exact hI.o.pure rfl _ | exact hI.f0 | exact hI.f1 | exact hI.f2 | exact hI.f3 | exact hI.f4 | exact hI.f5 | exact hI.f6 | exact hI.f7 | exact hI.f8 | exact hI.f9 | exact hI.f10 | exact hI.f11 | exact hI.f12 | exact hI.f13 | exact hI.g11 | exact fun _ => rfl | skip)
    · intro L us wx K a ha hp hd hun hI hK
      have ua := hI.f4 (hp 4 (by kernel_rfl))
      have ub := hI.f5 (hp 5 (by kernel_rfl))
      have uc := hI.f6 (hp 6 (by kernel_rfl))
      clear hp
      replace hd := Lib.hid hd
      simp only [putAll, Act.put, List.setIfInBounds_toArray, List.set_cons_succ, List.set_cons_zero, Nat.reduceAdd, ua, ub, uc] at ha
      subst ha
      simp only [Act.put, List.setIfInBounds_toArray, List.set_cons_succ, List.set_cons_zero] at hK
      go_simp
      refine ⟨trivial, ?_⟩
      gi_at_call 71
      refine (CallsIn.inRound l (callsIn_wide.2 (LX.out _ hI.o.e))).mono ?_
      rintro e wn ⟨rfl, En⟩
      go_simp
      refine hK _ _ ?_
      refine ⟨hI.o.ext rfl _ En, ?_, ?_, ?_, ?_, ?_, ?_, ?_, ?_, ?_, ?_, ?_, ?_, ?_, ?_, ?_⟩
      all_goals (first | exact hI.f0 | exact hI.f1 | exact hI.f2 | exact hI.f3 | exact hI.f4 | exact hI.f5 | exact hI.f6 | exact hI.f7 | exact hI.f8 | exact hI.f9 | exact hI.f10 | exact hI.f11 | exact fun h h' => (hI.g11 h h').ext En | exact fun h => (hI.f12 h).ext En | exact hI.f13 | exact fun h => absurd (hd.out 12 11 h (by kernel_rfl)) (by rw [hun]; decide) | exact fun _ => rfl | skip)
    · intro L us wx K a ha hp hd hun hI hK
      have HX := hI.o.e
      have u1 := hI.f7 (hp 7 (by kernel_rfl))
      clear hp HX
      replace hd := Lib.hid hd
      simp only [putAll, Act.put, List.setIfInBounds_toArray, List.set_cons_succ, List.set_cons_zero, Nat.reduceAdd, u1] at ha
      subst ha
      simp only [Act.put, List.setIfInBounds_toArray, List.set_cons_succ, List.set_cons_zero] at hK
      go_simp
      refine hK _ _ ?_
      refine ⟨?_, ?_, ?_, ?_, ?_, ?_, ?_, ?_, ?_, ?_, ?_, ?_, ?_, ?_, ?_, ?_⟩
      all_goals (first | exact hI.o.pure rfl _ | exact hI.f0 | exact hI.f1 | exact hI.f2 | exact hI.f3 | exact hI.f4 | exact hI.f5 | exact hI.f6 | exact hI.f7 | exact hI.f8 | exact hI.f9 | exact hI.f10 | exact hI.f11 | exact hI.f12 | exact hI.f13 | exact hI.g11 | exact fun _ => rfl | skip)
    · intro L us wx K a ha hp hd hun hI hK
      have HX := hI.o.e
      have u1 := hI.f8 (hp 8 (by kernel_rfl))
      clear hp HX
      replace hd := Lib.hid hd
      simp only [putAll, Act.put, List.setIfInBounds_toArray, List.set_cons_succ, List.set_cons_zero, Nat.reduceAdd, u1] at ha
      subst ha
      simp only [Act.put, List.setIfInBounds_toArray, List.set_cons_succ, List.set_cons_zero] at hK
      go_simp
      refine hK _ _ ?_
      refine ⟨?_, ?_, ?_, ?_, ?_, ?_, ?_, ?_, ?_, ?_, ?_, ?_, ?_, ?_, ?_, ?_⟩
      all_goals (first | exact hI.o.pure rfl _ | exact hI.f0 | exact hI.f1 | exact hI.f2 | exact hI.f3 | exact hI.f4 | exact hI.f5 | exact hI.f6 | exact hI.f7 | exact hI.f8 | exact hI.f9 | exact hI.f10 | exact hI.f11 | exact hI.f12 | exact hI.f13 | exact hI.g11 | exact fun _ => rfl | skip)
    · intro L us wx K a ha hp hd hun hI hK
      have HX := hI.o.e
      have u1 := hI.f8 (hp 8 (by kernel_rfl))
      clear hp HX
      replace hd := Lib.hid hd
      simp only [putAll, Act.put, List.setIfInBounds_toArray, List.set_cons_succ, List.set_cons_zero, Nat.reduceAdd, u1] at ha
      subst ha
      simp only [Act.put, List.setIfInBounds_toArray, List.set_cons_succ, List.set_cons_zero] at hK
      go_simp
      refine hK _ _ ?_
      refine ⟨?_, ?_, ?_, ?_, ?_, ?_, ?_, ?_, ?_, ?_, ?_, ?_, ?_, ?_, ?_, ?_⟩
      all_goals (first | exact hI.o.pure rfl _ | exact hI.f0 | exact hI.f1 | exact hI.f2 | exact hI.f3 | exact hI.f4 | exact hI.f5 | exact hI.f6 | exact hI.f7 | exact hI.f8 | exact hI.f9 | exact hI.f10 | exact hI.f11 | exact hI.f12 | exact hI.f13 | exact hI.g11 | exact fun _ => rfl | skip)
    · intro L us wx K a ha hp hd hun hI hK
      clear hp
      have En := (Ext.refl wx).alloc (.cells #[.int .i64 0, .int .i64 0, .int .i64 0] 27)
      replace hd := Lib.hid hd
      simp only [putAll, Act.put, List.setIfInBounds_toArray, List.set_cons_succ, List.set_cons_zero, Nat.reduceAdd] at ha
      subst ha
      simp only [Act.put, List.setIfInBounds_toArray, List.set_cons_succ, List.set_cons_zero] at hK
      go_simp
      refine hK _ _ ?_
      refine ⟨hI.o.new hun _ En (Nat.le_refl _) (by simp [bk]), ?_, ?_, ?_, ?_, ?_, ?_, ?_, ?_, ?_, ?_, ?_, ?_, ?_, ?_, ?_⟩
      all_goals (first | exact hI.f0 | exact hI.f1 | exact hI.f2 | exact hI.f3 | exact hI.f4 | exact hI.f5 | exact hI.f6 | exact hI.f7 | exact hI.f8 | exact hI.f9 | exact hI.f10 | exact hI.f11 | exact fun h h' => (hI.g11 h h').ext En | exact fun h => (hI.f12 h).ext En | exact hI.f13 | exact fun h => absurd (hd.out 12 11 h (by kernel_rfl)) (by rw [hun]; decide) | exact fun _ => rfl | skip)
      all_goals exact fun _ _ => Blk.new _ _ _
    · intro L us wx K a ha hp hd hun hI hK
      have hL := hp 11 (by kernel_rfl)
      have ua := hI.f11 hL
      have ub := hI.f9 (hp 9 (by kernel_rfl))
      have B := hI.g11 hL hun
      obtain ⟨g, hg⟩ : ∃ g, bk (us 11) = g := ⟨_, rfl⟩
      rw [hg] at ua B
      obtain ⟨WZ, hWZ, BZ, farZ, extZ, hzZ⟩ := Blk.store3 B (.int .i64 q.x) (.int .i64 q.y) (.int .i64 q.z)
      have HextZ := Lib.hid extZ
      have bB := B.cell
      have fB := B.frozen
      clear hp farZ extZ
      replace hd := Lib.hid hd
      simp only [putAll, Act.put, List.setIfInBounds_toArray, List.set_cons_succ, List.set_cons_zero, Nat.reduceAdd, ua, ub] at ha
      subst ha
      simp only [Act.put] at hK
      go_simp
      refine hK undef _ ?_
      refine ⟨hI.o.set_ (p := 11) rfl _ rfl hL (fun W h1 h2 => HextZ.out W h1 (by rw [← hg]; exact h2)) hzZ, ?_, ?_, ?_, ?_, ?_, ?_, ?_, ?_, ?_, ?_, ?_, ?_, ?_, ?_, ?_⟩
      all_goals (first | exact hI.f0 | exact hI.f1 | exact hI.f2 | exact hI.f3 | exact hI.f4 | exact hI.f5 | exact hI.f6 | exact hI.f7 | exact hI.f8 | exact hI.f9 | exact hI.f10 | exact hI.f11 | exact hI.f13 | exact fun _ => by rw [show bk (updF us 12 _ 11) = g from hg]; exact BZ | exact fun _ h => by cases h | skip)
    · intro L us wx K a ha hp hd hun hI hK
      have HX := hI.o.e
      have u1 := hI.f10 (hp 10 (by kernel_rfl))
      clear hp HX
      replace hd := Lib.hid hd
      simp only [putAll, Act.put, List.setIfInBounds_toArray, List.set_cons_succ, List.set_cons_zero, Nat.reduceAdd, u1] at ha
      subst ha
      simp only [Act.put, List.setIfInBounds_toArray, List.set_cons_succ, List.set_cons_zero] at hK
      go_simp
      refine hK _ _ ?_
      refine ⟨?_, ?_, ?_, ?_, ?_, ?_, ?_, ?_, ?_, ?_, ?_, ?_, ?_, ?_, ?_, ?_⟩
      all_goals (first | exact hI.o.pure rfl _ | exact hI.f0 | exact hI.f1 | exact hI.f2 | exact hI.f3 | exact hI.f4 | exact hI.f5 | exact hI.f6 | exact hI.f7 | exact hI.f8 | exact hI.f9 | exact hI.f10 | exact hI.f11 | exact hI.f12 | exact hI.f13 | exact hI.g11 | exact fun _ => rfl | skip)
    intro L us wx hall hI
    have e11 := hI.f11 (hall 11 (by simp))
    have e13 := hI.f13 (hall 13 (by simp))
    have C9 := hI.f12 (hall 12 (by simp))
    have EX := hI.o.e
    have h9 := hI.o.lt 11 (by simp) (hall 11 (by simp))
    obtain ⟨g9, hg9⟩ : ∃ g, bk (us 11) = g := ⟨_, rfl⟩
    rw [hg9] at e11 C9 h9
    simp only [putAll, Act.put, List.setIfInBounds_toArray, List.set_cons_succ, List.set_cons_zero, Nat.reduceAdd, e11, e13]
    clear hall hI e11 e13 hg9
    have D1 := C1.ext EX
    have D2 := C2.ext EX
    have D3 := C3.ext EX
    have D4 := C4.ext EX
    have hE' := hE.trans EX
    have lX := C4.lt
    clear c1 c2 C1 C2 C3 C4
    have d1 := D1.cell
    have d2 := D2.cell
    have c9 := C9.cell
    cases lb
    · gi_wp2_with fail
      exact ⟨(ext_keeps EX).from _, trivial, ⟨⟨⟨⟨⟨D1, D2⟩, D3⟩, D4⟩, hE'⟩, fun y' hy' => by
        rcases List.mem_append.1 hy' with h | h
        · exact Hne.out y' h
        · rw [List.mem_singleton.1 h]
          exact hHlb.out⟩⟩
    · have f1 : IntKind.u8.wrap (x'.val : Int) = x'.val := IntWalk.u8_in _ (by have := x'.isLt; omega)
      obtain ⟨r, hr⟩ : ∃ r, nearB q (-1000) 1000 = r := ⟨_, rfl⟩
      have hVr : Brk.ok qs.length ⟨i, ⟨q.x, q.y, q.z⟩, x'.val, c⟩ = r := by rw [HVv.out q x'.val x'.isLt]; exact hr
      have HVr := Lib.hid (fun W => valid_is (A := some ⟨kg, koff, none⟩) (cap := qc) hVr W (by unfold maxLen; omega))
      have Hr := Lib.hid hr
      clear hr hVr
      obtain ⟨W8, hW8, En, BN, hz8⟩ := mk_ wx #[.int .i64 i, .int .i64 q.x, .int .i64 q.y, .int .i64 q.z, .int .u8 x'.val, .int .u8 c] 51
      have hsz : X.heap.size ≤ wx.heap.size := EX.size
      have e1 := (D1.ext En).cell
      have e2 := (D2.ext En).cell
      have en := BN.cell
      clear hz8
      gi_wp2_with fail
      refine ⟨trivial, ?_⟩
      gi_at_call 72
      refine (CallsIn.inRound l (callsIn_wide.2 (HVr.out _))).mono ?_
      rintro e W9 ⟨rfl, E9⟩
      replace BN := BN.ext E9
      replace En := En.trans E9
      have G1 := D1.ext En
      have G2 := D2.ext En
      have G3 := D3.ext En
      have G4 := D4.ext En
      have hE9 := hE'.trans En
      have hKp := ext_keeps (EX.trans En)
      clear d1 d2 c9 D1 D2 D3 D4 C9 e1 e2 en hW8 E9 h9
      obtain ⟨g8, hg8⟩ : ∃ g, wx.heap.size = g := ⟨_, rfl⟩
      rw [hg8] at BN hsz ⊢
      clear hg8 EX En
      have bn := BN.cell
      have g3 := G3.cell
      have k3 := G3.frozen
      have g4 := G4.cell
      have k4 := G4.frozen
      cases r
      · gi_wp2_with fail
        exact ⟨hKp.from _, ⟨_, ⟨G2, G3, G4⟩, pre, x', rfl, Hne.out, hHlb.out, Or.inr ⟨rfl, by rw [hHq.out]; exact Hr.out, rfl⟩⟩, hE9⟩
      · gi_wp2_with fail
        obtain ⟨V, hV, BV, CV, EV, hkV⟩ := set7 (.int .i64 i) (.int .i64 q.x) (.int .i64 q.y) (.int .i64 q.z) (.int .u8 x'.val) (.int .u8 c) (.int .i64 0) G3 G4 (by omega) hE9 (by omega) (by omega)
        have G2' : Blk V (T + 1) 51 #[.int .i64 i, .int .i64 x, .int .i64 y, .int .i64 z, .int .u8 t, .int .u8 c] := by
          rw [← hV]
          exact ((((((G2.far (by simp) _).far (by simp) _).far (by simp) _).far (by simp) _).far (by simp) _).far (by simp) _).far (by simp only [ne_eq]; omega) _
        rw [hV]
        clear hV
        exact ⟨(hKp.trans hkV).from _, ⟨_, ⟨G2', BV, CV⟩, pre, x', rfl, Hne.out, hHlb.out, Or.inl ⟨rfl, by rw [hHq.out]; exact Hr.out, by rw [hHq.out]⟩⟩, EV⟩
  case done =>
    rintro D ys X hD rfl ⟨⟨⟨⟨⟨C1, C2⟩, C3⟩, C4⟩, hE⟩, hne⟩ hKd
    obtain rfl : q = (⟨x, y, z⟩, t) := HN.out (fun m hm => hne ⟨m, hm⟩ (mem_upto _))
    rename_i K0 hK0
    refine hK0 _ _ ?_
    have c2 := C2.cell
    have c3 := C3.cell
    have f3 := C3.frozen
    have c4 := C4.cell
    have f4 := C4.frozen
    gi_wp2_with fail
    obtain ⟨V, hV, BV, CV, EV, hkV⟩ := set7 (.int .i64 i) (.int .i64 x) (.int .i64 y) (.int .i64 z) (.int .u8 t) (.int .u8 c) (.int .i64 0) C3 C4 (by omega) hE (by omega) (by omega)
    rw [hV]
    clear hV
    have hKd' := hkV.same _ _ hKd rfl
    refine ⟨by simp, .inl ⟨_, _, rfl, run_takeDeferred hKd', ?_⟩⟩
    have bV := (blk_own _ _ _ () V (V.putObj D (.deferred none)) (some D) BV (grownBy_putObj' V D _) (fun r e => by cases e; exact ⟨_, hKd', rfl⟩)).cell
    have cV := (blk_own _ _ _ () V (V.putObj D (.deferred none)) (some D) CV (grownBy_putObj' V D _) (fun r e => by cases e; exact ⟨_, hKd', rfl⟩)).cell
    refine ⟨.tuple #[.agg #[.int .i64 i, .int .i64 x, .int .i64 y, .int .i64 z, .int .u8 t, .int .u8 c], .int .i64 0], by simp [results, Tryz.results39, go_sem, bV, cV], rfl, Below.trans EV (belowK_b (w := w) (Nat.le_refl _) V D _ _ (by omega) hKd' rfl rfl)⟩
  case stop =>
    rintro D cd pre X hD hpre ⟨⟨q3, ⟨C2, C3, C4⟩, hc⟩, hE⟩ hKd
    obtain ⟨pre0, x0, rfl, h0, h1, hc⟩ := hc
    have hq := HM.out x0.val x0.isLt (fun m hm => h0 _ (pre_upto hpre m hm)) h1
    rcases hc with ⟨rfl, hn, rfl⟩ | ⟨rfl, hn, rfl⟩
    · rw [hn, if_pos rfl] at hq
      subst hq
      gi_wp2
      refine ⟨by simp, .inl ⟨_, _, rfl, run_takeDeferred hKd, ?_⟩⟩
      have bV := (blk_own _ _ _ () X (X.putObj D (.deferred none)) (some D) C3 (grownBy_putObj' X D _) (fun r e => by cases e; exact ⟨_, hKd, rfl⟩)).cell
      have cV := (blk_own _ _ _ () X (X.putObj D (.deferred none)) (some D) C4 (grownBy_putObj' X D _) (fun r e => by cases e; exact ⟨_, hKd, rfl⟩)).cell
      refine ⟨.tuple #[.agg #[.int .i64 i, .int .i64 (likeAt ⟨cells, knobs, wt⟩ t ⟨x, y, z⟩ x0.val).x, .int .i64 (likeAt ⟨cells, knobs, wt⟩ t ⟨x, y, z⟩ x0.val).y, .int .i64 (likeAt ⟨cells, knobs, wt⟩ t ⟨x, y, z⟩ x0.val).z, .int .u8 x0.val, .int .u8 c], .int .i64 0], by simp [results, Tryz.results39, go_sem, bV, cV], rfl, Below.trans hE (belowK_b (w := w) (Nat.le_refl _) X D _ _ (by omega) hKd rfl rfl)⟩
    · rw [hn, if_neg (by decide)] at hq
      subst hq
      have c2 := C2.cell
      have c3 := C3.cell
      have f3 := C3.frozen
      have c4 := C4.cell
      have f4 := C4.frozen
      gi_wp2_with fail
      obtain ⟨V, hV, BV, CV, EV, hkV⟩ := set7 (.int .i64 i) (.int .i64 x) (.int .i64 y) (.int .i64 z) (.int .u8 t) (.int .u8 c) (.int .i64 0) C3 C4 (by omega) hE (by omega) (by omega)
      rw [hV]
      clear hV
      have hKd' := hkV.same _ _ hKd rfl
      refine ⟨by simp, .inl ⟨_, _, rfl, run_takeDeferred hKd', ?_⟩⟩
      have bV := (blk_own _ _ _ () V (V.putObj D (.deferred none)) (some D) BV (grownBy_putObj' V D _) (fun r e => by cases e; exact ⟨_, hKd', rfl⟩)).cell
      have cV := (blk_own _ _ _ () V (V.putObj D (.deferred none)) (some D) CV (grownBy_putObj' V D _) (fun r e => by cases e; exact ⟨_, hKd', rfl⟩)).cell
      refine ⟨.tuple #[.agg #[.int .i64 i, .int .i64 x, .int .i64 y, .int .i64 z, .int .u8 t, .int .u8 c], .int .i64 0], by simp [results, Tryz.results39, go_sem, bV, cV], rfl, Below.trans EV (belowK_b (w := w) (Nat.le_refl _) V D _ _ (by omega) hKd' rfl rfl)⟩
end Go.Proofs.YtjacbhomhjoolaaGreat
