/- The keys of the lattice's maps: cells, pairs of numbers. The bricks of a model on the reference's side: their error; Common; SamePairs and Same at equal lists. SamePairs and Same of the reference, at equal lists. The pairs of bricks that overlap, plain; Overlapping of the reference. Condition: kinds and bricks are valid. Overlapping of the reference. Condition: kinds and bricks are valid. Overlaps and Check of the reference. No conditions. -/
import Derived.Test.YteggkfdipbmgfaaGreatBOrd
import Derived.Test.YteggkfdipbmgfaaGreatBLib
import Derived.Test.YteggkfdipbmgfaaGreatBTurnB
import Derived.ChangeKeysEq
import Derived.Laws.StructEq
import Derived.Test.YteggkfdipbmgfaaGreatBSort
import Derived.Test.YteggkfdipbmgfaaGreatBSame
import Derived.Test.YteggkfdipbmgfaaGreatBRKnob
import Derived.Test.YteggkfdipbmgfaaGreatBApi
namespace Go.Proofs.YteggkfdipbmgfaaGreat
open Go.RowKit

def encPt (p : Pt) : Value := .agg #[.int .i64 p.x, .int .i64 p.y, .int .i64 p.z]
theorem pt_equal (w : World) (a b c d e f : Int) : (Op.equal 43 (.agg #[.int .i64 a, .int .i64 b, .int .i64 c]) (.agg #[.int .i64 d, .int .i64 e, .int .i64 f])).run Tryz.prog w = .ok (decide (a = d) && (decide (b = e) && decide (c = f))) w := by
  have u3 := Tryz.underlying3
  have hS : Tryz.prog.underlying 43 = some (.struct (Tryz.prog.fieldsOf 43)) := by kernel_rfl
  have hp : Tryz.prog.stoodInHeld 43 = false := by kernel_rfl
  rw [Op.equal, Op.maxDepth, show (10000 : Nat) = 9999 + 1 from rfl, run_equalIn_agg w 9999 _ _ _ hS hp]
  simp only [Program.fieldsOf, Tryz.underlying43]
  go_simp
  by_cases h1 : a = d <;> by_cases h2 : b = e <;> by_cases h3 : c = f <;> simp [h1, h2, h3]
theorem ptKey : KeyEnc Tryz.prog 43 encPt where
  wide := by kernel_rfl
  eq w x y := by
    obtain ⟨a, b, c⟩ := x
    obtain ⟨d, e, f⟩ := y
    rw [encPt, encPt, pt_equal]
    simp [Pt.mk.injEq]
  check w em x := by
    obtain ⟨a, b, c⟩ := x
    show (Instr.checkKey em 10000 43 (.agg #[.int .i64 a, .int .i64 b, .int .i64 c])).run Tryz.prog w = .ok () w
    kernel_rfl
  same x := by
    obtain ⟨a, b, c⟩ := x
    simp [encPt, Instr.sameBits]
/-- A pair of numbers. -/
def encPr (x : Int × Int) : Value := .agg #[.int .i64 x.1, .int .i64 x.2]
theorem pr_eq (w : World) (a b c d : Int) : (Op.equal 50 (.agg #[.int .i64 a, .int .i64 b]) (.agg #[.int .i64 c, .int .i64 d])).run Tryz.prog w = .ok (decide (a = c) && decide (b = d)) w := by
  have u3 := Tryz.underlying3
  have hS : Tryz.prog.underlying 50 = some (.array 2 3) := by kernel_rfl
  have hc : Tryz.prog.cellsOf 3 = 1 := by kernel_rfl
  obtain ⟨i, hi⟩ : ∃ i, Tryz.prog.info? 3 = some i := Option.isSome_iff_exists.1 (by kernel_rfl)
  rw [Op.equal, Op.maxDepth, show (10000 : Nat) = 9999 + 1 from rfl, run_equalIn_array w 9999 _ _ hS hi, hc]
  clear hi
  simp only [show List.range 2 = [0, 1] from rfl, Op.eqItems]
  go_simp
  by_cases h1 : a = c <;> by_cases h2 : b = d <;> simp [h1, h2]
theorem prKey : KeyEnc Tryz.prog 50 encPr where
  wide := by kernel_rfl
  eq w x y := by
    obtain ⟨a, b⟩ := x
    obtain ⟨c, d⟩ := y
    rw [encPr, encPr, pr_eq]
    simp
  check w em x := by
    obtain ⟨a, b⟩ := x
    show (Instr.checkKey em 10000 50 (.agg #[.int .i64 a, .int .i64 b])).run Tryz.prog w = .ok () w
    kernel_rfl
  same x := by
    obtain ⟨a, b⟩ := x
    simp [encPr, Instr.sameBits]
theorem pair_same (a b : Int) (w : World) : (binOp .neq 50 (.agg #[.int .i64 a, .int .i64 b]) (.agg #[.int .i64 a, .int .i64 b])).run Tryz.prog w = .ok (.bool false) w := by
  have h := pr_eq w a b a b
  unfold binOp
  simp [h, Result.andThen]
end Go.Proofs.YteggkfdipbmgfaaGreat
namespace Go.Proofs.YteggkfdipbmgfaaGreat
open Go.RowKit

/-- The error of kinds and the bricks of a model. -/
def modelErr (ks : List Knd) (bs : List Brk) : Int := if kindsErr ks = 0 then (if 40 < bs.length then 4 else if bricksB ks.length bs then 0 else 11) else kindsErr ks
theorem modelErr_kinds {ks : List Knd} {bs : List Brk} (h : kindsErr ks ≠ 0) : modelErr ks bs = kindsErr ks := if_neg h
theorem modelErr_many {ks : List Knd} {bs : List Brk} (h : kindsErr ks = 0) (hb : 40 < bs.length) : modelErr ks bs = 4 := by rw [modelErr, if_pos h, if_pos hb]
theorem modelErr_few {ks : List Knd} {bs : List Brk} (h : kindsErr ks = 0) (hb : ¬ 40 < bs.length) : modelErr ks bs = askedErr ks bs := by rw [modelErr, if_pos h, if_neg hb, askedErr, if_pos h]
/-- Whether two lists have a cell in common. -/
def commonB (a b : List Pt) : Bool := !allR a.length fun i => !hasP b (ptAt a i)
theorem commonB_iff {a b : List Pt} : commonB a b = true ↔ ∃ p, p ∈ a ∧ p ∈ b := by
  unfold commonB
  rw [Bool.not_eq_true', ← Bool.not_eq_true]
  constructor
  · intro h
    refine Classical.byContradiction fun hn => h (allR_good fun i hi => ?_)
    have hm : ptAt a i ∈ a := by
      rw [ptAt_eq (List.getElem?_eq_getElem hi)]
      exact List.getElem_mem hi
    cases hp : hasP b (ptAt a i)
    · rfl
    · exact absurd ⟨_, hm, hasP_iff.1 hp⟩ hn
  · rintro ⟨p, h1, h2⟩ h
    obtain ⟨i, hi⟩ := List.getElem?_of_mem h1
    have := allR_at h (List.getElem?_eq_some_iff.1 hi).1
    rw [ptAt_eq hi, hasP_iff.2 h2] at this
    cases this
theorem brk_neq_same (a b c d e f : Int) (w : World) : (binOp .neq 45 (.agg #[.int .i64 a, .int .i64 b, .int .i64 c, .int .i64 d, .int .u8 e, .int .u8 f]) (.agg #[.int .i64 a, .int .i64 b, .int .i64 c, .int .i64 d, .int .u8 e, .int .u8 f])).run Tryz.prog w = .ok (.bool false) w := by
  simp [go_sem]
end Go.Proofs.YteggkfdipbmgfaaGreat
namespace Go.Proofs.YteggkfdipbmgfaaGreat
open Go.RowKit

def prC (p : Int × Int) : List Value := [.int .i64 p.1, .int .i64 p.2]
/-- Pairs of numbers. -/
def Prs (w : World) (A : Option Addr) (cap : Nat) (l : List (Int × Int)) : Prop := SliceIs w A l.length cap 2 (l.map prC)
theorem Prs.ext {w w' : World} {A : Option Addr} {cap : Nat} {l : List (Int × Int)} (h : Prs w A cap l) (e : Ext w w') : Prs w' A cap l := SliceIs.ext h e
theorem Prs.len {w : World} {A : Option Addr} {cap : Nat} {l : List (Int × Int)} (h : Prs w A cap l) : l.length ≤ maxLen := Nat.le_trans h.le h.small
theorem Prs.at_ {w : World} {A : Option Addr} {cap : Nat} {l : List (Int × Int)} (h : Prs w A cap l) {k : Nat} (hk : k < l.length) :
    ∃ b off p, A = some ⟨b, off, none⟩ ∧ l[k]? = some p ∧ b < w.heap.size ∧ w.cell? ⟨b, off + k * 2, none⟩ = some (.int .i64 p.1) ∧ w.cell? ⟨b, off + k * 2 + 1, none⟩ = some (.int .i64 p.2) := by
  obtain ⟨b, off, hA, hb, hc⟩ := SliceIs.cells h (by omega)
  have hget : l[k]? = some l[k] := List.getElem?_eq_getElem hk
  have hr : (l.map prC)[k]? = some (prC l[k]) := by rw [List.getElem?_map, hget]; rfl
  exact ⟨b, off, l[k], hA, hget, hb, hc k _ hr 0 _ rfl, hc k _ hr 1 _ rfl⟩
set_option maxHeartbeats 1600000 in
theorem samePairs_c (A B : Option Addr) (ca cb : Nat) (l : List (Int × Int)) (w : World) (ha : Prs w A ca l) (hb : Prs w B cb l) :
    Calls Tryz.prog 36 #[.slice A l.length ca, .slice B l.length cb] w fun e w' => e = .returned (.bool true) ∧ Ext w w' := by
  have hl1 : l.length ≤ 9223372036854775807 := by have := ha.len; unfold maxLen at this; omega
  go_enter Tryz.func36, Tryz.ntmps36
  go_wp2_with fail
  go_loopw [5] (fun i wr => ∃ k : Nat, k ≤ l.length ∧ i = .int .i64 k ∧ Ext w wr) (fun i _ => l.length - (intOf i).toNat)
  case atStart => exact ⟨0, by omega, rfl, Ext.refl w⟩
  case round =>
    obtain ⟨k, hk, rfl, E⟩ := hrel
    by_cases hlt : k < l.length
    · obtain ⟨g, off, ⟨p1, p2⟩, rfl, hp, hg, c0, c1⟩ := (ha.ext E).at_ hlt
      obtain ⟨g', off', ⟨q1, q2⟩, rfl, hq, hg', e0, e1⟩ := (hb.ext E).at_ hlt
      rw [hp] at hq
      cases hq
      have hneq := pair_same p1 p2
      have i1 : (0 : Int) ≤ k := by omega
      have i2 : (k : Int) < l.length := by omega
      clear hp
      go_upto_region 6 with (fail)
      refine wp_region_grow (by kernel_rfl) (by kernel_rfl) ?_
      repeat (go_big_quiet_step (fail))
      refine wpQuiet_nil ?_
      intro W3 hW3
      have E3 : Ext wr W3 := by
        obtain ⟨x, rfl⟩ := hW3
        exact (Ext.refl _).grow x
      clear hW3
      obtain ⟨hcW3, hfW3, hzW3⟩ := ext_facts E3
      replace E := E.trans E3
      clear hcW3 hfW3 hzW3 E3 c0 c1 e0 e1
      go_wp2_with fail
      go_roundw
      case rel => exact ⟨k + 1, by omega, by go_num, E⟩
      case measure => simp only [intOf]; omega
    · obtain rfl : l.length = k := by omega
      go_wp2_with fail
      go_ret
      exact ⟨rfl, E⟩
end Go.Proofs.YteggkfdipbmgfaaGreat
namespace Go.Proofs.YteggkfdipbmgfaaGreat
open Go.RowKit

/-- The cells of a placed brick. -/
def bcells (ks : List Knd) (b : Brk) : List Pt := sortP (placeP (kindAt ks b.kind.toNat).cells b.turn.toNat b.at_)
def overB (ks : List Knd) (bs : List Brk) (i k : Nat) : Bool := commonB (bcells ks (brkAt bs i)) (bcells ks (brkAt bs k))
/-- The pairs i, k with i given, of the second numbers i + 1 up to m. -/
def rowO (ks : List Knd) (bs : List Brk) (i m : Nat) : List (Int × Int) := ((List.range m).filter fun k => decide (i < k) && overB ks bs i k).map fun (k : Nat) => ((i : Int), (k : Int))
/-- The pairs of the first j numbers. -/
def overL (ks : List Knd) (bs : List Brk) (j : Nat) : List (Int × Int) := (List.range j).flatMap fun i => rowO ks bs i bs.length
theorem rowO_zero (ks : List Knd) (bs : List Brk) (i : Nat) : rowO ks bs i (i + 1) = [] := by
  unfold rowO
  rw [List.map_eq_nil_iff, List.filter_eq_nil_iff]
  intro k hk
  have := List.mem_range.1 hk
  simp
  omega
theorem rowO_succ {ks : List Knd} {bs : List Brk} {i m : Nat} (h : i < m) : rowO ks bs i (m + 1) = rowO ks bs i m ++ if overB ks bs i m then [((i : Int), (m : Int))] else [] := by
  unfold rowO
  rw [List.range_succ, List.filter_append, List.map_append]
  congr 1
  cases hb : overB ks bs i m
  · simp [hb]
  · simp [hb, h]
theorem overL_succ (ks : List Knd) (bs : List Brk) (j : Nat) : overL ks bs (j + 1) = overL ks bs j ++ rowO ks bs j bs.length := by
  unfold overL
  rw [List.range_succ, List.flatMap_append]
  simp
theorem rowO_len (ks : List Knd) (bs : List Brk) (i m : Nat) : (rowO ks bs i m).length ≤ m := by
  unfold rowO
  rw [List.length_map]
  exact Nat.le_trans (List.length_filter_le _ _) (by simp)
theorem overL_len (ks : List Knd) (bs : List Brk) : ∀ j, (overL ks bs j).length ≤ j * bs.length
  | 0 => by simp [overL]
  | j + 1 => by
    rw [overL_succ, List.length_append, Nat.succ_mul]
    have := overL_len ks bs j
    have := rowO_len ks bs j bs.length
    omega
/-- What is used of valid kinds and bricks. -/
structure MFine (qs : List (Knd × KAt)) (bs : List Brk) : Prop where
  n : bs.length ≤ 40
  b : ∀ b ∈ bs, ∃ (i tn : Nat) (k : Knd) (p : KAt), b.kind = i ∧ b.turn = tn ∧ tn < 24 ∧ qs[i]? = some (k, p) ∧ k.Fine ∧ Pt.in_ 1000 b.at_ ∧ b.byte
theorem mfine_of {w : World} {QA : Option Addr} {qc : Nat} {qs : List (Knd × KAt)} (hk : Kinds w QA qc qs) {bs : List Brk} (hb : ∀ b ∈ bs, b.byte) (h : modelErr (qs.map (·.1)) bs = 0) : MFine qs bs := by
  by_cases h0 : kindsErr (qs.map (·.1)) = 0
  rotate_left
  · rw [modelErr_kinds h0] at h
    exact absurd h h0
  by_cases h1 : 40 < bs.length
  · rw [modelErr_many h0 h1] at h
    cases h
  refine ⟨by omega, fun b hm => ?_⟩
  rw [modelErr_few h0 h1] at h
  unfold askedErr at h
  rw [if_pos h0] at h
  split at h
  rotate_left
  · cases h
  rename_i h2
  obtain ⟨j, hj⟩ := List.getElem?_of_mem hm
  have h3 := allR_at h2 (List.getElem?_eq_some_iff.1 hj).1
  rw [brkAt_eq hj] at h3
  have hby := hb b hm
  obtain ⟨kd, at_, t, c⟩ := b
  obtain ⟨i, k, p, a1, a2, a3, a4, a5⟩ := asked_kind hk (b := ⟨kd, at_, t, c⟩) (askedErr_good h0 (fun i hi => by
    have hi0 : i = 0 := by simpa using hi
    subst hi0
    exact h3))
  have hb1 := hby.1.1
  simp only at a1 a5 hb1
  exact ⟨i, t.toNat, k, p, a1, by show t = _; omega, by omega, a2, a3, near_in' a4, hby⟩
theorem bcells_is {qs : List (Knd × KAt)} {b : Brk} {i tn : Nat} {k : Knd} {p : KAt} (h1 : b.kind = i) (h2 : b.turn = tn) (hi : qs[i]? = some (k, p)) : bcells (qs.map (·.1)) b = sortP (placeP k.cells tn b.at_) := by
  unfold bcells kindAt
  rw [h1, h2]
  simp [hi]
end Go.Proofs.YteggkfdipbmgfaaGreat
namespace Go.Proofs.YteggkfdipbmgfaaGreat
open Go.RowKit

structure Ov8 (W0 : World) (vQ vI vK vb vb' : Value) (G : Addr) (B : Option Addr) (bn cb : Nat) (p1 p2 : Addr) (n1 n2 : Nat) (L1 L2 : List Pt) (r : Bool) (L : Nat → Bool) (us : Nat → Value) (w : World) : Prop where
  x : Ext W0 w
  f0 : L 0 = true → us 0 = vQ
  f1 : L 1 = true → us 1 = .pointer (some G)
  f2 : L 2 = true → us 2 = .slice B bn cb
  f3 : L 3 = true → us 3 = vI
  f4 : L 4 = true → us 4 = .pointer (some p1)
  f5 : L 5 = true → us 5 = vb
  f6 : L 6 = true → RowV w (us 6) n1 L1
  f7 : L 7 = true → us 7 = vQ
  f8 : L 8 = true → us 8 = .pointer (some G)
  f9 : L 9 = true → us 9 = .slice B bn cb
  f10 : L 10 = true → us 10 = vK
  f11 : L 11 = true → us 11 = .pointer (some p2)
  f12 : L 12 = true → us 12 = vb'
  f13 : L 13 = true → RowV w (us 13) n2 L2
  f14 : L 14 = true → us 14 = .bool r
theorem info2 : (Tryz.prog.info? 50).map (fun i => (i.zero, i.size, i.bytes)) = some (some (.agg #[.int .i64 0, .int .i64 0]), 2, 16) := by kernel_rfl
def PrsPost (l : List (Int × Int)) (w : World) (e : Ending) (w' : World) : Prop := ∃ A cap, e = .returned (.slice A l.length cap) ∧ Prs w' A cap l ∧ Ext w w'
theorem rRow {w : World} {v : Value} {n : Nat} {l : List Pt} (h : RowV w v n l) (hn : l.length = n) : ∃ g cp, v = .slice (some ⟨g, 0, none⟩) n cp ∧ Cells w (some ⟨g, 0, none⟩) cp l := by
  obtain ⟨cp, h1, h2, h3, h4⟩ := h
  refine ⟨_, cp, h1, ?_⟩
  unfold Cells
  rw [hn]
  exact RowX.slice h4 (pts_wide l) (by rw [List.length_map, hn]) h2 h3
end Go.Proofs.YteggkfdipbmgfaaGreat
namespace Go.Proofs.YteggkfdipbmgfaaGreat
open Go.RowKit

def checkErr (ks : List Knd) (bs : List Brk) : Int := if modelErr ks bs = 0 then (if overL ks bs bs.length = [] then 0 else 12) else modelErr ks bs
theorem checkErr_bad {ks : List Knd} {bs : List Brk} {e : Int} (h : modelErr ks bs = e) (h0 : e ≠ 0) : checkErr ks bs = e := by rw [checkErr, h, if_neg h0]
theorem checkErr_nil {ks : List Knd} {bs : List Brk} (h : modelErr ks bs = 0) (h0 : overL ks bs bs.length = []) : checkErr ks bs = 0 := by rw [checkErr, if_pos h, if_pos h0]
theorem checkErr_over {ks : List Knd} {bs : List Brk} (h : modelErr ks bs = 0) (h0 : overL ks bs bs.length ≠ []) : checkErr ks bs = 12 := by rw [checkErr, if_pos h, if_neg h0]
/-- The pairs, or the error. -/
def ovRes (ks : List Knd) (bs : List Brk) : List (Int × Int) := if modelErr ks bs = 0 then overL ks bs bs.length else []
def PrsRes (l : List (Int × Int)) (e0 : Int) (w : World) (e : Ending) (w' : World) : Prop := ∃ A cap, e = .returned (.tuple #[.slice A l.length cap, .int .i64 e0]) ∧ Prs w' A cap l ∧ Ext w w'
theorem prs_nil (w : World) : Prs w none 0 [] := ⟨rfl, Nat.le_refl _, Nat.zero_le _, by simp, fun h => by cases h⟩
end Go.Proofs.YteggkfdipbmgfaaGreat
