/- Cells and Knobs, of the program and of the reference. Conditions: a brick's turn and colour are bytes. Knobs of the program; Cells and Knobs of the reference. Conditions: a brick's turn and colour are bytes. Great of the reference; SameInts. No conditions. The normal brick: the plain function of both sides, and the contract of the reference's like as a name. Symmetries of the program. No conditions. Normal of the program. Conditions: a brick's turn and colour are bytes. -/
import Derived.Test.YtdlclfcfleckmaaGreatBSame
import Derived.Test.YtdlclfcfleckmaaGreatBSort
import Derived.Test.YtdlclfcfleckmaaGreatBTurnB
import Derived.Stop.RegionWithIn
namespace Go.Proofs.YtdlclfcfleckmaaGreat
open Go.RowKit

theorem kindsErr_valid {l : List Knd} (h : kindsErr l = 0) {k : Knd} (hk : k ∈ l) : k.valid = true := by
  unfold kindsErr at h
  split at h
  · cases h
  · split at h
    · rename_i h2
      obtain ⟨i, hi⟩ := List.getElem?_of_mem hk
      have := allR_at h2 (List.getElem?_eq_some_iff.1 hi).1
      simpa [kindAt, hi] using this
    · cases h
theorem asked_zero {l : List Knd} {b : Brk} (h : askedErr l [b] = 0) : kindsErr l = 0 ∧ b.ok l.length = true := by
  unfold askedErr at h
  split at h
  · rename_i h0
    refine ⟨h0, ?_⟩
    split at h
    · rename_i h2
      exact allR_at h2 (k := 0) (by simp)
    · cases h
  · rename_i h0
    exact absurd h h0
/-- The kind of a valid brick. -/
theorem asked_kind {w : World} {QA : Option Addr} {qc : Nat} {qs : List (Knd × KAt)} (hk : Kinds w QA qc qs) {b : Brk} (h : askedErr (qs.map (·.1)) [b] = 0) : ∃ (i : Nat) (k : Knd) (p : KAt), b.kind = i ∧ qs[i]? = some (k, p) ∧ k.Fine ∧ nearB b.at_ (-1000) 1000 = true ∧ b.turn < 24 := by
  obtain ⟨h1, h2⟩ := asked_zero h
  rw [Brk.ok_iff, List.length_map] at h2
  obtain ⟨a1, a2, a3, a4, _⟩ := h2
  obtain ⟨i, hi⟩ : ∃ i : Nat, b.kind = i := ⟨b.kind.toNat, by omega⟩
  have hil : i < qs.length := by omega
  have hget : qs[i]? = some (qs[i].1, qs[i].2) := List.getElem?_eq_getElem hil
  refine ⟨i, qs[i].1, qs[i].2, hi, hget, ?_, a3, a4⟩
  have hm : qs[i] ∈ qs := List.getElem_mem hil
  exact Knd.fine_of (kindsErr_valid h1 (List.mem_map.2 ⟨_, hm, rfl⟩)) (hk.k _ hm).n.2
/-- A result of cells, or the error. -/
def CellsRes (l : List Pt) (n : Nat) (w : World) (e : Ending) (w' : World) : Prop := ∃ g cap, w.heap.size ≤ g ∧ e = .returned (.tuple #[.slice (some ⟨g, 0, none⟩) n cap, .int .i64 0]) ∧ n ≤ cap ∧ cap ≤ maxLen ∧ RowX w' g 78 (l.map Pt.cs) ∧ Ext w w'
theorem rowX_of_blk {w : World} {g : Nat} {t : TypeId} {rows : List (List Value)} (h : Blk w g t (rowsA rows)) : RowX w g t rows := ⟨#[], by rw [Array.append_empty]; exact h⟩
set_option maxRecDepth 100000 in
set_option maxHeartbeats 8000000 in
theorem Cells_bad (qs : List (Knd × KAt)) (QA : Option Addr) (qc : Nat) (w : World) (hk : Kinds w QA qc qs) (kd x y z t c er : Int) (hb : Brk.byte ⟨kd, ⟨x, y, z⟩, t, c⟩) (he : askedErr (qs.map (·.1)) [⟨kd, ⟨x, y, z⟩, t, c⟩] = er) (h0 : er ≠ 0) :
    Calls Tryz.prog 43 #[.slice QA qs.length qc, .agg #[.int .i64 kd, .int .i64 x, .int .i64 y, .int .i64 z, .int .u8 t, .int .u8 c]] w fun e w' => e = .returned (.tuple #[.slice none 0 0, .int .i64 er]) ∧ Ext w w' := by
  obtain ⟨W1, hW1, E1, B1, hz1⟩ := mk_ w #[.int .i64 kd, .int .i64 x, .int .i64 y, .int .i64 z, .int .u8 t, .int .u8 c] 88
  have b1 := B1.cell
  have CH := check1_c qs QA qc kd x y z t c W1 (hk.ext E1) hb 88
  rw [he] at CH
  have h1 : (er != 0) = true := by simpa using h0
  clear he h0 hz1
  go_enter Tryz.func43, Tryz.ntmps43
  go_wp2_with fail
  refine CH.mono ?_
  rintro e W2 ⟨rfl, E2⟩
  go_wp2_with fail
  go_ret2
  exact ⟨rfl, E1.trans E2⟩
set_option maxRecDepth 100000 in
set_option maxHeartbeats 8000000 in
theorem Cells_ok (qs : List (Knd × KAt)) (QA : Option Addr) (qc : Nat) (w : World) (hk : Kinds w QA qc qs) (i : Nat) (k : Knd) (p : KAt) (hi : qs[i]? = some (k, p)) (hf : k.Fine) (x y z c : Int) (t : Nat) (hb : Brk.byte ⟨i, ⟨x, y, z⟩, t, c⟩) (he : askedErr (qs.map (·.1)) [⟨i, ⟨x, y, z⟩, t, c⟩] = 0) (ht : t < 24) (hp : Pt.ok ⟨x, y, z⟩) :
    Calls Tryz.prog 43 #[.slice QA qs.length qc, .agg #[.int .i64 i, .int .i64 x, .int .i64 y, .int .i64 z, .int .u8 t, .int .u8 c]] w (CellsRes (sortP (placeP k.cells t ⟨x, y, z⟩)) k.cells.length w) := by
  obtain ⟨cells, knobs, wt⟩ := k
  obtain ⟨A, ca, B, cb⟩ := p
  have hil : i < qs.length := (List.getElem?_eq_some_iff.1 hi).1
  have hql : qs.length ≤ 9223372036854775807 := by have := hk.len; unfold maxLen at this; omega
  have hcl : cells.length ≤ 24 := hf.len
  obtain ⟨n, hn⟩ : ∃ n, cells.length = n := ⟨_, rfl⟩
  show Calls _ _ _ _ (CellsRes (sortP (placeP cells t ⟨x, y, z⟩)) cells.length w)
  rw [hn]
  have Hn := Lib.hid hn
  clear hn
  have hcok : ∀ q ∈ cells, q.ok := hf.cok
  have hc : Cells w A ca cells := (hk.k _ (List.mem_of_getElem? hi)).c
  obtain ⟨W1, hW1, E1, B1, hz1⟩ := mk_ w #[.int .i64 i, .int .i64 x, .int .i64 y, .int .i64 z, .int .u8 t, .int .u8 c] 88
  have b1 := B1.cell
  have CH := check1_c qs QA qc i x y z t c W1 (hk.ext E1) hb 88
  rw [he] at CH
  clear he hz1
  have hml : cells.length ≤ maxLen := by unfold maxLen; omega
  have f1 : IntKind.i64.wrap (t : Int) = t := IntWalk.i64_in _ (by omega)
  go_enter Tryz.func43, Tryz.ntmps43
  go_wp2_with fail
  refine CH.mono ?_
  rintro e W2 ⟨rfl, E2⟩
  have E := E1.trans E2
  have BB := B1.ext E2
  obtain ⟨kg, koff, k', p', rfl, hq, hka, hkg, c0, c1, c2⟩ := (hk.ext E).at_ hil
  rw [hi] at hq
  cases hq
  simp only at c0 c1 c2
  clear CH b1 hW1 B1 E1 E2 hka
  have b1 := BB.cell
  have i1 : (0 : Int) ≤ i := by omega
  have i2 : (i : Int) < qs.length := by omega
  have hn := Hn.out
  have CC : ∀ W, Ext W2 W → Calls Tryz.prog 79 #[.agg #[.slice A n ca, .slice B knobs.length cb, .int .i64 wt], .int .i64 t, .agg #[.int .i64 x, .int .i64 y, .int .i64 z]] W (CellsPost (sortP (placeP cells t ⟨x, y, z⟩)) n W) := fun W EW => by
    subst hn
    exact cells_c cells knobs.length cb wt A ca B t x y z W (hc.ext (E.trans EW)) (by omega) hcok ht hp
  have HCC := Lib.hid CC
  rw [hn] at c0 hml
  clear CC hn hi hf hc hcok
  go_upto_region 4 with (fail)
  go_region_law (first
    | (go_simp; go_at_call 79; refine (HCC.out _ (Ext.refl W2).drew).mono ?_; rintro e W3 ⟨g, hg, rfl, B3, E3⟩))
  all_goals
    go_wp2_with fail
    go_ret2
    exact ⟨g, n, Nat.le_trans E.size hg, rfl, Nat.le_refl _, hml, rowX_of_blk B3, E.trans (Ext.drew (Ext.refl W2) |>.trans E3)⟩
end Go.Proofs.YtdlclfcfleckmaaGreat
namespace Go.Proofs.YtdlclfcfleckmaaGreat
open Go.RowKit

def KnobsRes (l : List Knb) (n : Nat) (w : World) (e : Ending) (w' : World) : Prop := ∃ g cap, w.heap.size ≤ g ∧ e = .returned (.tuple #[.slice (some ⟨g, 0, none⟩) n cap, .int .i64 0]) ∧ n ≤ cap ∧ cap ≤ maxLen ∧ RowX w' g 164 (l.map Knb.cs) ∧ Ext w w'
set_option maxRecDepth 100000 in
set_option maxHeartbeats 8000000 in
theorem Knobs_bad (qs : List (Knd × KAt)) (QA : Option Addr) (qc : Nat) (w : World) (hk : Kinds w QA qc qs) (kd x y z t c er : Int) (hb : Brk.byte ⟨kd, ⟨x, y, z⟩, t, c⟩) (he : askedErr (qs.map (·.1)) [⟨kd, ⟨x, y, z⟩, t, c⟩] = er) (h0 : er ≠ 0) :
    Calls Tryz.prog 109 #[.slice QA qs.length qc, .agg #[.int .i64 kd, .int .i64 x, .int .i64 y, .int .i64 z, .int .u8 t, .int .u8 c]] w fun e w' => e = .returned (.tuple #[.slice none 0 0, .int .i64 er]) ∧ Ext w w' := by
  obtain ⟨W1, hW1, E1, B1, hz1⟩ := mk_ w #[.int .i64 kd, .int .i64 x, .int .i64 y, .int .i64 z, .int .u8 t, .int .u8 c] 88
  have b1 := B1.cell
  have CH := check1_c qs QA qc kd x y z t c W1 (hk.ext E1) hb 88
  rw [he] at CH
  have h1 : (er != 0) = true := by simpa using h0
  clear he h0 hz1
  go_enter Tryz.func109, Tryz.ntmps109
  go_wp2_with fail
  refine CH.mono ?_
  rintro e W2 ⟨rfl, E2⟩
  go_wp2_with fail
  go_ret2
  exact ⟨rfl, E1.trans E2⟩
set_option maxRecDepth 100000 in
set_option maxHeartbeats 8000000 in
theorem Knobs_ok (qs : List (Knd × KAt)) (QA : Option Addr) (qc : Nat) (w : World) (hk : Kinds w QA qc qs) (i : Nat) (k : Knd) (p : KAt) (hi : qs[i]? = some (k, p)) (hf : k.Fine) (x y z c : Int) (t : Nat) (hb : Brk.byte ⟨i, ⟨x, y, z⟩, t, c⟩) (he : askedErr (qs.map (·.1)) [⟨i, ⟨x, y, z⟩, t, c⟩] = 0) (ht : t < 24) (hp : Pt.ok ⟨x, y, z⟩) :
    Calls Tryz.prog 109 #[.slice QA qs.length qc, .agg #[.int .i64 i, .int .i64 x, .int .i64 y, .int .i64 z, .int .u8 t, .int .u8 c]] w (KnobsRes (placeK k.knobs t ⟨x, y, z⟩) k.knobs.length w) := by
  obtain ⟨cells, knobs, wt⟩ := k
  obtain ⟨A, ca, B, cb⟩ := p
  have hil : i < qs.length := (List.getElem?_eq_some_iff.1 hi).1
  have hql : qs.length ≤ 9223372036854775807 := by have := hk.len; unfold maxLen at this; omega
  have hcl : knobs.length ≤ 48 := hf.klen
  obtain ⟨n, hn⟩ : ∃ n, knobs.length = n := ⟨_, rfl⟩
  show Calls _ _ _ _ (KnobsRes (placeK knobs t ⟨x, y, z⟩) knobs.length w)
  rw [hn]
  have Hn := Lib.hid hn
  clear hn
  have hcok : ∀ q ∈ knobs, q.fine := hf.kok
  have hc : Knobs w B cb knobs := (hk.k _ (List.mem_of_getElem? hi)).n
  obtain ⟨W1, hW1, E1, B1, hz1⟩ := mk_ w #[.int .i64 i, .int .i64 x, .int .i64 y, .int .i64 z, .int .u8 t, .int .u8 c] 88
  have b1 := B1.cell
  have CH := check1_c qs QA qc i x y z t c W1 (hk.ext E1) hb 88
  rw [he] at CH
  clear he hz1
  have hml : knobs.length ≤ maxLen := by unfold maxLen; omega
  have f1 : IntKind.i64.wrap (t : Int) = t := IntWalk.i64_in _ (by omega)
  go_enter Tryz.func109, Tryz.ntmps109
  go_wp2_with fail
  refine CH.mono ?_
  rintro e W2 ⟨rfl, E2⟩
  have E := E1.trans E2
  have BB := B1.ext E2
  obtain ⟨kg, koff, k', p', rfl, hq, hka, hkg, c0, c1, c2⟩ := (hk.ext E).at_ hil
  rw [hi] at hq
  cases hq
  simp only at c0 c1 c2
  clear CH b1 hW1 B1 E1 E2 hka
  have b1 := BB.cell
  have i1 : (0 : Int) ≤ i := by omega
  have i2 : (i : Int) < qs.length := by omega
  have hn := Hn.out
  have CC : ∀ W, Ext W2 W → Calls Tryz.prog 147 #[.agg #[.slice A cells.length ca, .slice B n cb, .int .i64 wt], .int .i64 t, .agg #[.int .i64 x, .int .i64 y, .int .i64 z]] W (KnobsPost (placeK knobs t ⟨x, y, z⟩) n W) := fun W EW => by
    subst hn
    exact knobs_c cells.length ca knobs wt A B cb t x y z W (hc.ext (E.trans EW)) (by omega) hcok ht hp
  have HCC := Lib.hid CC
  rw [hn] at c1 hml
  clear CC hn hi hf hc hcok
  go_upto_region 4 with (fail)
  go_region_law (first
    | (go_simp; go_at_call 147; refine (HCC.out _ (Ext.refl W2).drew).mono ?_; rintro e W3 ⟨g, hg, rfl, B3, E3⟩))
  all_goals
    go_wp2_with fail
    go_ret2
    exact ⟨g, n, Nat.le_trans E.size hg, rfl, Nat.le_refl _, hml, rowX_of_blk B3, E.trans (Ext.drew (Ext.refl W2) |>.trans E3)⟩
/-! The reference. -/
def RKnobsRes (l : List Knb) (n : Nat) (w : World) (e : Ending) (w' : World) : Prop := ∃ A cap, e = .returned (.tuple #[.slice A n cap, .int .i64 0]) ∧ SliceIs w' A n cap 5 (l.map Knb.cs) ∧ (∀ q, A = some q → w.heap.size ≤ q.block) ∧ Ext w w'
end Go.Proofs.YtdlclfcfleckmaaGreat
namespace Go.Proofs.YtdlclfcfleckmaaGreat
open Go.RowKit

def Knd.great (k : Knd) : Bool := decide (30 < k.cells.length) || decide (60 < k.knobs.length)
def greatB (l : List Knd) (n : Nat) : Bool := decide (20 < l.length) || (decide (45 < n) || !allR l.length fun i => !(kindAt l i).great)
theorem greatB_kinds {l : List Knd} {n : Nat} (h : greatB l n = false) : l.length ≤ 20 ∧ n ≤ 45 ∧ ∀ k ∈ l, k.cells.length ≤ 30 ∧ k.knobs.length ≤ 60 := by
  unfold greatB at h
  simp only [Bool.or_eq_false_iff, decide_eq_false_iff_not, Bool.not_eq_false'] at h
  obtain ⟨h1, h2, h3⟩ := h
  refine ⟨by omega, by omega, fun k hk => ?_⟩
  obtain ⟨i, hi⟩ := List.getElem?_of_mem hk
  have := allR_at h3 (List.getElem?_eq_some_iff.1 hi).1
  unfold Knd.great at this
  have e : kindAt l i = k := by simp [kindAt, hi]
  rw [e] at this
  simp only [Bool.not_eq_true', Bool.or_eq_false_iff, decide_eq_false_iff_not] at this
  omega
set_option maxHeartbeats 3200000 in
theorem great_c (qs : List (Knd × KAt)) (A : Option Addr) (cap : Nat) (B : Option Addr) (n cb : Nat) (w : World) (hk : Kinds w A cap qs) (hn : n ≤ maxLen) :
    Calls Tryz.prog 40 #[.slice A qs.length cap, .agg #[.slice B n cb]] w fun e w' => e = .returned (.bool (greatB (qs.map (·.1)) n)) ∧ Ext w w' := by
  have hl1 : qs.length ≤ 9223372036854775807 := by have := hk.len; unfold maxLen at this; omega
  have hml : (qs.map (·.1)).length = qs.length := List.length_map _
  unfold maxLen at hn
  obtain ⟨W1, hW1, E1, B1, hz1⟩ := mk_ w #[.slice B n cb] 25
  have b1 := B1.cell
  by_cases a1 : (20 : Int) < qs.length
  · have Hb := Lib.hid (show greatB (qs.map (·.1)) n = true by rw [greatB, decide_eq_true (by rw [hml]; omega)]; rfl)
    clear hml
    go_enter Tryz.func40, Tryz.ntmps40
    go_wp2_with fail
    go_ret
    exact ⟨by rw [Hb.out]; rfl, E1⟩
  by_cases a2 : (45 : Int) < n
  · have Hb := Lib.hid (show greatB (qs.map (·.1)) n = true by rw [greatB, decide_eq_true (show 45 < n by omega), Bool.true_or, Bool.or_true])
    clear hml
    go_enter Tryz.func40, Tryz.ntmps40
    go_wp2_with fail
    go_ret
    exact ⟨by rw [Hb.out]; rfl, E1⟩
  have Hg := Lib.hid (show greatB (qs.map (·.1)) n = !allR qs.length fun i => !(kindAt (qs.map (·.1)) i).great by
    unfold greatB
    rw [decide_eq_false (show ¬ 20 < (qs.map (·.1)).length by rw [hml]; omega), decide_eq_false (show ¬ 45 < n by omega), hml]
    rfl)
  clear hml
  go_enter Tryz.func40, Tryz.ntmps40
  go_wp2_with fail
  clear hW1 hz1 b1 a1 a2
  go_loopw [5] (fun i wr => ∃ j : Nat, j ≤ qs.length ∧ i = .int .i64 j ∧ wr = W1 ∧ Hid (∀ i, i < j → (!(kindAt (qs.map (·.1)) i).great) = true)) (fun i _ => qs.length - (intOf i).toNat)
  case atStart => exact ⟨0, by omega, rfl, rfl, Lib.hid (fun i hi => by omega)⟩
  case round =>
    obtain ⟨j, hj, rfl, rfl, Hj⟩ := hrel
    by_cases hlt : j < qs.length
    · obtain ⟨g, off, ⟨kc, kn, kw⟩, ⟨KA, kca, KB, kcb⟩, rfl, hq, ⟨hkc, hkn⟩, hg, c0, c1, c2⟩ := (hk.ext E1).at_ hlt
      have hlc := hkc.len
      have hln := hkn.len
      unfold maxLen at hlc hln
      simp only at c0 c1 c2 hlc hln
      have Hq := Lib.hid (kindAt_eq hq)
      clear hq hkc hkn
      by_cases d1 : (30 : Int) < kc.length
      · have Hb := Lib.hid (show greatB (qs.map (·.1)) n = true by
          rw [Hg.out, allR_bad hlt (by rw [Hq.out, Knd.great, decide_eq_true (show 30 < kc.length by omega)]; rfl)]
          rfl)
        go_wp2_with fail
        go_ret
        exact ⟨by rw [Hb.out]; rfl, E1⟩
      by_cases d2 : (60 : Int) < kn.length
      · have Hb := Lib.hid (show greatB (qs.map (·.1)) n = true by
          rw [Hg.out, allR_bad hlt (by rw [Hq.out, Knd.great, decide_eq_true (show 60 < kn.length by omega), Bool.or_true]; rfl)]
          rfl)
        go_wp2_with fail
        go_ret
        exact ⟨by rw [Hb.out]; rfl, E1⟩
      have hok : ∀ i, i < j + 1 → (!(kindAt (qs.map (·.1)) i).great) = true := fun i hi => by
        rcases Nat.lt_or_ge i j with h' | h'
        · exact Hj.out i h'
        · obtain rfl : i = j := by omega
          rw [Hq.out, Knd.great, decide_eq_false (show ¬ 30 < kc.length by omega), decide_eq_false (show ¬ 60 < kn.length by omega)]
          rfl
      have Hok := Lib.hid hok
      clear hok
      go_wp2_with fail
      go_roundw
      case rel => exact ⟨j + 1, by omega, by go_num, trivial, Hok⟩
      case measure => simp only [intOf]; omega
    · obtain rfl : qs.length = j := by omega
      have Hb := Lib.hid (show greatB (qs.map (·.1)) n = false by rw [Hg.out, allR_good Hj.out]; rfl)
      go_wp2_with fail
      go_ret
      exact ⟨by rw [Hb.out]; rfl, E1⟩
end Go.Proofs.YtdlclfcfleckmaaGreat
namespace Go.Proofs.YtdlclfcfleckmaaGreat
open Go.RowKit

/-- The place and the turn of the normal brick. -/
def normQ (k : Knd) (bt : Nat) (p : Pt) : Pt × Nat :=
  match (List.range 24).find? (fun n => likeB k bt p n) with
  | some n => if nearB (likeAt k bt p n) (-1000) 1000 then (likeAt k bt p n, n) else (p, bt)
  | none => (p, bt)
theorem normQ_hit {k : Knd} {bt : Nat} {p : Pt} {n : Nat} (hn : n < 24) (h0 : ∀ m, m < n → likeB k bt p m = false) (h1 : likeB k bt p n = true) : normQ k bt p = if nearB (likeAt k bt p n) (-1000) 1000 then (likeAt k bt p n, n) else (p, bt) := by
  have h : (List.range 24).find? (fun n => likeB k bt p n) = some n := by
    rw [List.find?_eq_some_iff_getElem]
    refine ⟨h1, n, by simpa using hn, by simp, fun j hj => ?_⟩
    simp [h0 j hj]
  unfold normQ
  rw [h]
theorem normQ_none {k : Knd} {bt : Nat} {p : Pt} (h0 : ∀ m, m < 24 → likeB k bt p m = false) : normQ k bt p = (p, bt) := by
  have h : (List.range 24).find? (fun n => likeB k bt p n) = none := by
    rw [List.find?_eq_none]
    intro m hm
    simp [h0 m (List.mem_range.1 hm)]
  unfold normQ
  rw [h]
theorem normQ_lt {k : Knd} {bt : Nat} {p : Pt} (h : bt < 24) : (normQ k bt p).2 < 24 := by
  unfold normQ
  split
  · rename_i n hn
    split
    · exact List.mem_range.1 (List.mem_of_find?_eq_some hn)
    · exact h
  · exact h
/-- What the reference's like returns. -/
def RLikePost (k : Knd) (i : Int) (bt : Nat) (p : Pt) (n : Nat) (bc : Int) (w : World) (e : Ending) (w' : World) : Prop :=
  e = .returned (.tuple #[.agg #[.int .i64 i, .int .i64 (likeAt k bt p n).x, .int .i64 (likeAt k bt p n).y, .int .i64 (likeAt k bt p n).z, .int .u8 n, .int .u8 bc], .bool (likeB k bt p n)]) ∧ Ext w w'
theorem set6 {W w : World} {g : Nat} {t : TypeId} {a b c d e f : Value} (v1 v2 v3 v4 v5 v6 : Value) (h : Blk W g t #[a, b, c, d, e, f]) (E : Ext w W) (hg : w.heap.size ≤ g) :
    ∃ V, (((((W.setCell ⟨g, 0, none⟩ v1).setCell ⟨g, 1, none⟩ v2).setCell ⟨g, 2, none⟩ v3).setCell ⟨g, 3, none⟩ v4).setCell ⟨g, 4, none⟩ v5).setCell ⟨g, 5, none⟩ v6 = V ∧ Blk V g t #[v1, v2, v3, v4, v5, v6] ∧ Ext w V :=
  ⟨_, rfl, (((((h.set_ 0 v1).set_ 1 v2).set_ 2 v3).set_ 3 v4).set_ 4 v5).set_ 5 v6, (((((E.setCell hg v1).setCell hg v2).setCell hg v3).setCell hg v4).setCell hg v5).setCell hg v6⟩
end Go.Proofs.YtdlclfcfleckmaaGreat
namespace Go.Proofs.YtdlclfcfleckmaaGreat
open Go.RowKit Go.Shelf
attribute [local go_sem] Oper.semAt_some

/-- The turns among some that a kind looks like itself under. -/
def symsOf (k : Knd) (pre : List (Fin 24)) : List Value := (pre.filter fun x => likeB k 0 ⟨0, 0, 0⟩ x.val).map fun x => .int .i64 (x.val : Int)
theorem symsOf_snoc (k : Knd) (pre : List (Fin 24)) (x : Fin 24) : symsOf k (pre ++ [x]) = symsOf k pre ++ if likeB k 0 ⟨0, 0, 0⟩ x.val then [.int .i64 (x.val : Int)] else [] := by
  unfold symsOf
  rw [List.filter_append]
  by_cases h : likeB k 0 ⟨0, 0, 0⟩ x.val = true
  · simp [h]
  · simp [h]
def symN (k : Knd) (pre : List (Fin 24)) : Nat := (pre.filter fun x => likeB k 0 ⟨0, 0, 0⟩ x.val).length
theorem symN_snoc (k : Knd) (pre : List (Fin 24)) (x : Fin 24) : symN k (pre ++ [x]) = symN k pre + if likeB k 0 ⟨0, 0, 0⟩ x.val then 1 else 0 := by
  unfold symN
  rw [List.filter_append]
  by_cases h : likeB k 0 ⟨0, 0, 0⟩ x.val = true
  · simp [h]
  · simp [h]
theorem symN_le (k : Knd) (pre : List (Fin 24)) : symN k pre ≤ pre.length := List.length_filter_le _ _
/-- What the loop keeps: the slice in its box. -/
def SymJ (k : Knd) (B S : Nat) (pre : List (Fin 24)) (X : World) : Prop := ∃ v, Blk X S 26 #[v] ∧ X.ownsRow B 3 1 v (symN k pre) (symsOf k pre)
theorem symJ_own (k : Knd) (B S : Nat) : Own (fun (pre : List (Fin 24)) X => SymJ k B S pre X) := fun s X Y row h hg hr => by
  obtain ⟨v, h1, h2⟩ := h
  refine ⟨v, blk_own _ _ _ () X Y row h1 hg hr, ?_⟩
  rcases h2 with ⟨hl, h2⟩
  refine ⟨hl, ?_⟩
  rcases h2 with h2 | ⟨g, cap, cur, e1, e2, e3, e4⟩
  · exact Or.inl h2
  · exact Or.inr ⟨g, cap, cur, e1, e2, blk_own g _ cur () X Y row e3 hg hr, e4⟩
def SymPost (k : Knd) (w : World) (e : Ending) (w' : World) : Prop := ∃ A cap, e = .returned (.tuple #[.slice A (symN k (upto 24)) cap, .int .i64 0]) ∧ SliceIs w' A (symN k (upto 24)) cap 1 ((symsOf k (upto 24)).map fun v => [v]) ∧ Ext w w'
theorem infoI : (Tryz.prog.info? 3).map (fun i => (i.zero, i.size, i.bytes)) = some (some (.int .i64 0), 1, 8) := by kernel_rfl
theorem singles_flat (l : List Value) : (l.map fun v => [v]).flatten = l := by
  induction l with
  | nil => rfl
  | cons x l ih => simp [ih]
end Go.Proofs.YtdlclfcfleckmaaGreat
namespace Go.Proofs.YtdlclfcfleckmaaGreat
open Go.RowKit Go.Shelf
attribute [local go_sem] Oper.semAt_some

/-- Six stores into a box, and what they keep. -/
theorem set6k {W w : World} {g : Nat} {t : TypeId} {a b c d e f : Value} (v1 v2 v3 v4 v5 v6 : Value) (hb : Blk W g t #[a, b, c, d, e, f]) (E : Ext w W) (hg : w.heap.size ≤ g) :
    ∃ V, (((((W.setCell ⟨g, 0, none⟩ v1).setCell ⟨g, 1, none⟩ v2).setCell ⟨g, 2, none⟩ v3).setCell ⟨g, 3, none⟩ v4).setCell ⟨g, 4, none⟩ v5).setCell ⟨g, 5, none⟩ v6 = V ∧ Blk V g t #[v1, v2, v3, v4, v5, v6] ∧ Ext w V ∧ KeepsOthers W V ∧
      ∀ (h : Nat) (u : TypeId) (cs : Array Value), h ≠ g → Blk W h u cs → Blk V h u cs := by
  obtain ⟨V, hV, h1, h2⟩ := set6 v1 v2 v3 v4 v5 v6 hb E hg
  refine ⟨V, hV, h1, h2, ?_, fun h u cs hn hh => ?_⟩
  · rw [← hV]
    refine KeepsOthers.trans ?_ (KeepsOthers.setCell _ _ _)
    refine KeepsOthers.trans ?_ (KeepsOthers.setCell _ _ _)
    refine KeepsOthers.trans ?_ (KeepsOthers.setCell _ _ _)
    refine KeepsOthers.trans ?_ (KeepsOthers.setCell _ _ _)
    refine KeepsOthers.trans ?_ (KeepsOthers.setCell _ _ _)
    exact KeepsOthers.setCell _ _ _
  · rw [← hV]
    refine Blk.far (p := ⟨g, 5, none⟩) ?_ hn _
    refine Blk.far (p := ⟨g, 4, none⟩) ?_ hn _
    refine Blk.far (p := ⟨g, 3, none⟩) ?_ hn _
    refine Blk.far (p := ⟨g, 2, none⟩) ?_ hn _
    refine Blk.far (p := ⟨g, 1, none⟩) ?_ hn _
    refine Blk.far (p := ⟨g, 0, none⟩) ?_ hn _
    exact hh
/-- Seven stores: a brick into its box, a number into its own. -/
theorem set7 {W w : World} {g h : Nat} {t u : TypeId} {a b c d e f i : Value} (v1 v2 v3 v4 v5 v6 v7 : Value) (hb : Blk W g t #[a, b, c, d, e, f]) (hi : Blk W h u #[i]) (hne : g ≠ h) (E : Ext w W) (hg : w.heap.size ≤ g) (hh : w.heap.size ≤ h) :
    ∃ V, ((((((W.setCell ⟨g, 0, none⟩ v1).setCell ⟨g, 1, none⟩ v2).setCell ⟨g, 2, none⟩ v3).setCell ⟨g, 3, none⟩ v4).setCell ⟨g, 4, none⟩ v5).setCell ⟨g, 5, none⟩ v6).setCell ⟨h, 0, none⟩ v7 = V ∧ Blk V g t #[v1, v2, v3, v4, v5, v6] ∧ Blk V h u #[v7] ∧ Ext w V ∧ KeepsOthers W V := by
  obtain ⟨V, hV, h1, h2, h3, h4⟩ := set6k v1 v2 v3 v4 v5 v6 hb E hg
  rw [hV]
  exact ⟨_, rfl, h1.far hne _, (h4 h u _ (fun e => hne e.symm) hi).set_ 0 v7, h2.setCell hh v7, h3.trans (KeepsOthers.setCell _ _ _)⟩
theorem ok_near {n : Nat} {b : Brk} (h : b.ok n = true) (a : Pt) (m : Nat) (hm : m < 24) : Brk.ok n ⟨b.kind, a, m, b.color⟩ = nearB a (-1000) 1000 := by
  rw [Brk.ok_iff] at h
  rw [Bool.eq_iff_iff, Brk.ok_iff]
  simp only
  constructor
  · exact fun h => h.2.2.1
  · exact fun h' => ⟨h.1, h.2.1, h', by omega, h.2.2.2.2⟩
theorem pre_upto {pre : List (Fin 24)} {x : Fin 24} (h : pre ++ [x] <+: upto 24) : ∀ m, (hm : m < x.val) → (⟨m, by omega⟩ : Fin 24) ∈ pre := by
  obtain ⟨s, hs⟩ := h
  have hu : upto 24 = List.finRange 24 := by
    unfold upto
    exact List.take_of_length_le (by simp)
  rw [hu, List.append_assoc] at hs
  have hl := congrArg List.length hs
  simp only [List.length_append, List.length_cons, List.length_nil, List.length_finRange] at hl
  have hx : pre.length = x.val := by
    have h1 := congrArg (fun l => l[pre.length]?) hs
    simp only [List.getElem?_append_right (Nat.le_refl _), Nat.sub_self, List.cons_append, List.getElem?_cons_zero] at h1
    have hp24 : pre.length < (List.finRange 24).length := by
      rw [List.length_finRange]
      omega
    rw [List.getElem?_eq_getElem hp24] at h1
    simp at h1
    rw [h1]
  intro m hm
  have h1 : (pre ++ ([x] ++ s))[m]? = (List.finRange 24)[m]? := by rw [hs]
  have hm24 : m < (List.finRange 24).length := by
    rw [List.length_finRange]
    omega
  rw [List.getElem?_append_left (by omega), List.getElem?_eq_getElem hm24] at h1
  refine List.mem_of_getElem? (i := m) ?_
  rw [h1]
  simp
/-- What is known in the region that asks like. -/
structure Nm6 (X : World) (vS vI vK vB vN vT vA : Value) (aA : Array Value) (T kg ko : Nat) (b : Bool) (L : Nat → Bool) (us : Nat → Value) (w : World) : Prop where
  o : Owns [11] X L us w
  f0 : L 0 = true → us 0 = vS
  f1 : L 1 = true → us 1 = .pointer (some ⟨T + 1, 0, none⟩)
  f2 : L 2 = true → us 2 = vI
  f3 : L 3 = true → us 3 = .pointer (some ⟨kg, ko, none⟩)
  f4 : L 4 = true → us 4 = vK
  f5 : L 5 = true → us 5 = vB
  f6 : L 6 = true → us 6 = vN
  f7 : L 7 = true → us 7 = vT
  f8 : L 8 = true → us 8 = vT
  f9 : L 9 = true → us 9 = vA
  f10 : L 10 = true → us 10 = .bool b
  f11 : L 11 = true → us 11 = .pointer (some ⟨bk (us 11), 0, none⟩)
  g11 : L 11 = true → L 12 = false → Blk w (bk (us 11)) 78 #[.int .i64 0, .int .i64 0, .int .i64 0]
  f12 : L 12 = true → Blk w (bk (us 11)) 78 aA
  f13 : L 13 = true → us 13 = .bool b
end Go.Proofs.YtdlclfcfleckmaaGreat
