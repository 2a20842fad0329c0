/- Texts of another chapter in a namespace of their own (printed by lat.py). ComposeModel, plain: the model of a composition is valid for its kinds. -/
import Derived.Test.YtaaeapjnjjbglaaGreatDoorCd3
import Derived.Test.YtaaeapjnjjbglaaGreatDoorCd15
import Derived.Test.YtaaeapjnjjbglaaGreatDoorCd16
import Derived.Test.YtaaeapjnjjbglaaGreatDoorCd17
import Derived.Test.YtaaeapjnjjbglaaGreatDoorCd19
import Derived.Test.YtaaeapjnjjbglaaGreatDoorCd20
import Derived.Test.YtaaeapjnjjbglaaGreatDoorCd21
import Derived.Test.YtaaeapjnjjbglaaGreatDoorCd22
import Derived.Test.YtaaeapjnjjbglaaGreatDoorCd23
import Derived.RangeFuncNested
import Derived.RangeFuncBound
import Derived.RangeFuncCalls
import Derived.RangeFuncLeaves
import Derived.Shelf.Abstract
import Derived.Shelf.RegionOpen
import Derived.OwnWalkIn
import Derived.TacticsInMore
import Derived.LoopNIn
import Derived.LoopIn
import Derived.ChangeKeysEq
import Derived.Laws.StructEq

-- holds: Api1 BrickB BrickM CellsP CheckKind Compose Composed GroupS Has Inverse KindS KnobsP Like LikeS LinkS Near Ord Ovl OvlS PairKey RKind RKnobbed RLikeW ROver RPlaced RSorted RValidKind SameL SameM SortC SortLaid Step Turn TurnD Turned Turners Which
namespace Go.Proofs.YtaaeapjnjjbglaaGreatDoor.Lat
open Go.RowKit Go.Shelf
attribute [local go_sem] Oper.semAt_some

theorem ext_grownBy {A B : World} (h : Ext A B) (row : Option Nat) : A.grownBy B row := ⟨h.1, h.2, h.3, h.size, fun k hk _ => h.block k hk⟩
theorem ext_keeps {A B : World} (h : Ext A B) : KeepsOthers A B := ⟨h.size, fun k _ hk _ => (h.block k (Array.getElem?_eq_some_iff.1 hk).1).trans hk⟩

/-- What a turn makes of (1, 2, 3). -/
def p123 : Pt := ⟨1, 2, 3⟩
theorem p123_ok : p123.ok := by
  unfold p123 Pt.ok CB
  simp
def at123 (n : Nat) : Value := .agg #[.int .i64 (turnS p123 n).x, .int .i64 (turnS p123 n).y, .int .i64 (turnS p123 n).z]
abbrev encW (x : Fin 24) : Array Value := #[.int .i64 (x.val : Int), at123 x.val]
/-- The first k of the turns. -/
def upto (k : Nat) : List (Fin 24) := (List.finRange 24).take k
theorem upto_succ {k : Nat} (h : k < 24) : upto (k + 1) = upto k ++ [⟨k, h⟩] := by
  unfold upto
  rw [List.take_add_one]
  simp [h]
theorem upto_len {k : Nat} (h : k ≤ 24) : (upto k).length = k := by
  simp [upto]
  omega

end Go.Proofs.YtaaeapjnjjbglaaGreatDoor.Lat
namespace Go.Proofs.YtaaeapjnjjbglaaGreatDoor.Lat
open Go.RowKit

/-- The turn that undoes a. -/
def invT (a : Nat) : Nat := ((List.range 24).find? fun n => compT a n == 0).getD 0

end Go.Proofs.YtaaeapjnjjbglaaGreatDoor.Lat
namespace Go.Proofs.YtaaeapjnjjbglaaGreatDoor.Lat
open Go.RowKit Go.Shelf
attribute [local go_sem] Oper.semAt_some

deriving instance DecidableEq for Pt
theorem turn123_inj : ∀ a, a < 24 → ∀ b, b < 24 → turnS p123 a = turnS p123 b → a = b := by decide +kernel
theorem compT_spec : ∀ a, a < 24 → ∀ b, b < 24 → turnS p123 (compT a b) = turnS (turnS p123 a) b ∧ compT a b < 24 := by decide +kernel
theorem invT_spec : ∀ a, a < 24 → turnS (turnS p123 (invT a)) a = p123 ∧ invT a < 24 := by decide +kernel
theorem inv123_inj : ∀ a, a < 24 → ∀ b, b < 24 → turnS (turnS p123 b) a = p123 → b = invT a := by decide +kernel

theorem blk_own {β : Type} (g : Nat) (t : TypeId) (cs : Array Value) : Own (fun (_ : β) W => Blk W g t cs) := fun s X Y row h hg hr => h.grown hg (fun e => by
  obtain ⟨o, ho, hc⟩ := hr g e.symm
  rw [show X.heap[g]? = _ from h] at ho
  cases ho
  cases hc)
theorem mem_upto (x : Fin 24) : x ∈ upto 24 := by
  unfold upto
  rw [List.take_of_length_le (by simp)]
  exact List.mem_finRange x
theorem ok_at123 {n : Nat} : (turnS p123 n).ok := turnS_ok p123_ok n

end Go.Proofs.YtaaeapjnjjbglaaGreatDoor.Lat
namespace Go.Proofs.YtaaeapjnjjbglaaGreatDoor.Lat
open Go.RowKit

def encPt (p : Pt) : Value := .agg #[.int .i64 p.x, .int .i64 p.y, .int .i64 p.z]
theorem pt_equal (w : World) (a b c d e f : Int) : (Op.equal 53 (.agg #[.int .i64 a, .int .i64 b, .int .i64 c]) (.agg #[.int .i64 d, .int .i64 e, .int .i64 f])).run Tryz.prog w = .ok (decide (a = d) && (decide (b = e) && decide (c = f))) w := by
  have u3 := Tryz.underlying3
  have hS : Tryz.prog.underlying 53 = some (.struct (Tryz.prog.fieldsOf 53)) := by kernel_rfl
  have hp : Tryz.prog.stoodInHeld 53 = false := by kernel_rfl
  rw [Op.equal, Op.maxDepth, show (10000 : Nat) = 9999 + 1 from rfl, run_equalIn_agg w 9999 _ _ _ hS hp]
  simp only [Program.fieldsOf, Tryz.underlying53]
  go_simp
  by_cases h1 : a = d <;> by_cases h2 : b = e <;> by_cases h3 : c = f <;> simp [h1, h2, h3]
theorem ptKey : KeyEnc Tryz.prog 53 encPt where
  wide := by kernel_rfl
  eq w x y := by
    obtain ⟨a, b, c⟩ := x
    obtain ⟨d, e, f⟩ := y
    rw [encPt, encPt, pt_equal]
    simp [Pt.mk.injEq]
  check w em x := by
    obtain ⟨a, b, c⟩ := x
    show (Instr.checkKey em 10000 53 (.agg #[.int .i64 a, .int .i64 b, .int .i64 c])).run Tryz.prog w = .ok () w
    kernel_rfl
  same x := by
    obtain ⟨a, b, c⟩ := x
    simp [encPt, Instr.sameBits]
/-- A pair of numbers. -/
def encPr (x : Int × Int) : Value := .agg #[.int .i64 x.1, .int .i64 x.2]
theorem pr_eq (w : World) (a b c d : Int) : (Op.equal 133 (.agg #[.int .i64 a, .int .i64 b]) (.agg #[.int .i64 c, .int .i64 d])).run Tryz.prog w = .ok (decide (a = c) && decide (b = d)) w := by
  have u3 := Tryz.underlying3
  have hS : Tryz.prog.underlying 133 = some (.array 2 3) := by kernel_rfl
  have hc : Tryz.prog.cellsOf 3 = 1 := by kernel_rfl
  obtain ⟨i, hi⟩ : ∃ i, Tryz.prog.info? 3 = some i := Option.isSome_iff_exists.1 (by kernel_rfl)
  rw [Op.equal, Op.maxDepth, show (10000 : Nat) = 9999 + 1 from rfl, run_equalIn_array w 9999 _ _ hS hi, hc]
  clear hi
  simp only [show List.range 2 = [0, 1] from rfl, Op.eqItems]
  go_simp
  by_cases h1 : a = c <;> by_cases h2 : b = d <;> simp [h1, h2]
theorem prKey : KeyEnc Tryz.prog 133 encPr where
  wide := by kernel_rfl
  eq w x y := by
    obtain ⟨a, b⟩ := x
    obtain ⟨c, d⟩ := y
    rw [encPr, encPr, pr_eq]
    simp
  check w em x := by
    obtain ⟨a, b⟩ := x
    show (Instr.checkKey em 10000 133 (.agg #[.int .i64 a, .int .i64 b])).run Tryz.prog w = .ok () w
    kernel_rfl
  same x := by
    obtain ⟨a, b⟩ := x
    simp [encPr, Instr.sameBits]
theorem pair_same (a b : Int) (w : World) : (binOp .neq 133 (.agg #[.int .i64 a, .int .i64 b]) (.agg #[.int .i64 a, .int .i64 b])).run Tryz.prog w = .ok (.bool false) w := by
  have h := pr_eq w a b a b
  unfold binOp
  simp [h, Result.andThen]
end Go.Proofs.YtaaeapjnjjbglaaGreatDoor.Lat
namespace Go.Proofs.YtaaeapjnjjbglaaGreatDoor.Lat
open Go.RowKit

/-- The error of kinds and the bricks of a model. -/
def modelErr (ks : List Knd) (bs : List Brk) : Int := if kindsErr ks = 0 then (if 40 < bs.length then 4 else if bricksB ks.length bs then 0 else 11) else kindsErr ks
theorem modelErr_kinds {ks : List Knd} {bs : List Brk} (h : kindsErr ks ≠ 0) : modelErr ks bs = kindsErr ks := if_neg h
theorem modelErr_many {ks : List Knd} {bs : List Brk} (h : kindsErr ks = 0) (hb : 40 < bs.length) : modelErr ks bs = 4 := by rw [modelErr, if_pos h, if_pos hb]
theorem modelErr_few {ks : List Knd} {bs : List Brk} (h : kindsErr ks = 0) (hb : ¬ 40 < bs.length) : modelErr ks bs = askedErr ks bs := by rw [modelErr, if_pos h, if_neg hb, askedErr, if_pos h]
/-- Whether two lists have a cell in common. -/
def commonB (a b : List Pt) : Bool := !allR a.length fun i => !hasP b (ptAt a i)
theorem commonB_iff {a b : List Pt} : commonB a b = true ↔ ∃ p, p ∈ a ∧ p ∈ b := by
  unfold commonB
  rw [Bool.not_eq_true', ← Bool.not_eq_true]
  constructor
  · intro h
    refine Classical.byContradiction fun hn => h (allR_good fun i hi => ?_)
    have hm : ptAt a i ∈ a := by
      rw [ptAt_eq (List.getElem?_eq_getElem hi)]
      exact List.getElem_mem hi
    cases hp : hasP b (ptAt a i)
    · rfl
    · exact absurd ⟨_, hm, hasP_iff.1 hp⟩ hn
  · rintro ⟨p, h1, h2⟩ h
    obtain ⟨i, hi⟩ := List.getElem?_of_mem h1
    have := allR_at h (List.getElem?_eq_some_iff.1 hi).1
    rw [ptAt_eq hi, hasP_iff.2 h2] at this
    cases this
theorem brk_neq_same (a b c d e f : Int) (w : World) : (binOp .neq 60 (.agg #[.int .i64 a, .int .i64 b, .int .i64 c, .int .i64 d, .int .u8 e, .int .u8 f]) (.agg #[.int .i64 a, .int .i64 b, .int .i64 c, .int .i64 d, .int .u8 e, .int .u8 f])).run Tryz.prog w = .ok (.bool false) w := by
  simp [go_sem]
end Go.Proofs.YtaaeapjnjjbglaaGreatDoor.Lat
namespace Go.Proofs.YtaaeapjnjjbglaaGreatDoor.Lat
open Go.RowKit

def prC (p : Int × Int) : List Value := [.int .i64 p.1, .int .i64 p.2]
/-- Pairs of numbers. -/
def Prs (w : World) (A : Option Addr) (cap : Nat) (l : List (Int × Int)) : Prop := SliceIs w A l.length cap 2 (l.map prC)
theorem Prs.ext {w w' : World} {A : Option Addr} {cap : Nat} {l : List (Int × Int)} (h : Prs w A cap l) (e : Ext w w') : Prs w' A cap l := SliceIs.ext h e
theorem Prs.len {w : World} {A : Option Addr} {cap : Nat} {l : List (Int × Int)} (h : Prs w A cap l) : l.length ≤ maxLen := Nat.le_trans h.le h.small
theorem Prs.at_ {w : World} {A : Option Addr} {cap : Nat} {l : List (Int × Int)} (h : Prs w A cap l) {k : Nat} (hk : k < l.length) :
    ∃ b off p, A = some ⟨b, off, none⟩ ∧ l[k]? = some p ∧ b < w.heap.size ∧ w.cell? ⟨b, off + k * 2, none⟩ = some (.int .i64 p.1) ∧ w.cell? ⟨b, off + k * 2 + 1, none⟩ = some (.int .i64 p.2) := by
  obtain ⟨b, off, hA, hb, hc⟩ := SliceIs.cells h (by omega)
  have hget : l[k]? = some l[k] := List.getElem?_eq_getElem hk
  have hr : (l.map prC)[k]? = some (prC l[k]) := by rw [List.getElem?_map, hget]; rfl
  exact ⟨b, off, l[k], hA, hget, hb, hc k _ hr 0 _ rfl, hc k _ hr 1 _ rfl⟩
end Go.Proofs.YtaaeapjnjjbglaaGreatDoor.Lat
namespace Go.Proofs.YtaaeapjnjjbglaaGreatDoor.Lat
open Go.RowKit

/-- Rows in a block that a slice points to. -/
def RowV (w : World) (v : Value) (n : Nat) (l : List Pt) : Prop := ∃ cp, v = .slice (some ⟨bk v, 0, none⟩) n cp ∧ n ≤ cp ∧ cp ≤ maxLen ∧ RowX w (bk v) 53 (l.map Pt.cs)
theorem RowV.ext {w w' : World} {v : Value} {n : Nat} {l : List Pt} (h : RowV w v n l) (E : Ext w w') : RowV w' v n l := by
  obtain ⟨cp, h1, h2, h3, h4⟩ := h
  exact ⟨cp, h1, h2, h3, h4.ext E⟩
theorem RowV.farB {w w' : World} {v : Value} {n g : Nat} {l : List Pt} (h : RowV w v n l) (hf : ∀ k t cs, k ≠ g → Blk w k t cs → Blk w' k t cs) (hn : bk v ≠ g) : RowV w' v n l := by
  obtain ⟨cp, h1, h2, h3, ex, h4⟩ := h
  exact ⟨cp, h1, h2, h3, ex, hf _ _ _ hn h4⟩
theorem _root_.Go.Proofs.YtaaeapjnjjbglaaGreatDoor.RowX.far {w : World} {g : Nat} {t : TypeId} {rows : List (List Value)} (h : RowX w g t rows) {p : Addr} (hp : g ≠ p.block) (u : Value) : RowX (w.setCell p u) g t rows := by
  obtain ⟨ex, hb⟩ := h
  exact ⟨ex, hb.far hp u⟩
/-- The first row of cells. -/
theorem rowX_cell {w : World} {g : Nat} {l : List Pt} (h : RowX w g 53 (l.map Pt.cs)) (hp : 0 < l.length) : w.cell? ⟨g, 0, none⟩ = some (.int .i64 (ptAt l 0).x) ∧ w.cell? ⟨g, 1, none⟩ = some (.int .i64 (ptAt l 0).y) ∧ w.cell? ⟨g, 2, none⟩ = some (.int .i64 (ptAt l 0).z) := by
  have h0 : l[0]? = some (ptAt l 0) := by
    rw [ptAt_eq (List.getElem?_eq_getElem hp)]
    exact List.getElem?_eq_getElem hp
  have hr : (l.map Pt.cs)[0]? = some (Pt.cs (ptAt l 0)) := by
    rw [List.getElem?_map, h0]
    rfl
  have hw : ∀ r ∈ l.map Pt.cs, r.length = 3 := fun r h => by
    obtain ⟨p, _, rfl⟩ := List.mem_map.1 h
    rfl
  have a0 := h.cell hw hr (j := 0) rfl
  have a1 := h.cell hw hr (j := 1) rfl
  have a2 := h.cell hw hr (j := 2) rfl
  simp only [Nat.zero_mul, Nat.zero_add] at a0 a1 a2
  exact ⟨a0, a1, a2⟩
theorem pts_wide' (l : List Pt) : ∀ r ∈ l.map Pt.cs, r.length = 3 := fun r h => by
  obtain ⟨p, _, rfl⟩ := List.mem_map.1 h
  rfl
theorem set6' {W w : World} {g : Nat} {t : TypeId} {a b c d e f : Value} (v1 v2 v3 v4 v5 v6 : Value) (h : Blk W g t #[a, b, c, d, e, f]) (E : Ext w W) (hg : w.heap.size ≤ g) :
    ∃ V, (((((W.setCell ⟨g, 0, none⟩ v1).setCell ⟨g, 1, none⟩ v2).setCell ⟨g, 2, none⟩ v3).setCell ⟨g, 3, none⟩ v4).setCell ⟨g, 4, none⟩ v5).setCell ⟨g, 5, none⟩ v6 = V ∧ Blk V g t #[v1, v2, v3, v4, v5, v6] ∧ Ext w V :=
  ⟨_, rfl, (((((h.set_ 0 v1).set_ 1 v2).set_ 2 v3).set_ 3 v4).set_ 4 v5).set_ 5 v6, (((((E.setCell hg v1).setCell hg v2).setCell hg v3).setCell hg v4).setCell hg v5).setCell hg v6⟩
def ptV (p : Pt) : Value := .agg #[.int .i64 p.x, .int .i64 p.y, .int .i64 p.z]
def ptC (p : Pt) : Array Value := #[.int .i64 p.x, .int .i64 p.y, .int .i64 p.z]
/-- What is known in the region that takes the first cells. -/
structure Lk2 (W0 : World) (vQ v1 v6 : Value) (n : Nat) (L1 L2 : List Pt) (L : Nat → Bool) (us : Nat → Value) (w : World) : Prop where
  o : Owns [2, 7, 10, 11] W0 L us w
  f0 : L 0 = true → us 0 = vQ
  f1 : L 1 = true → us 1 = v1
  f2 : L 2 = true → RowV w (us 2) n L2
  f3 : L 3 = true → us 3 = .pointer (some ⟨bk (us 2), 0, none⟩)
  f4 : L 4 = true → us 4 = ptV (ptAt L2 0)
  f5 : L 5 = true → us 5 = vQ
  f6 : L 6 = true → us 6 = v6
  f7 : L 7 = true → RowV w (us 7) n L1
  f8 : L 8 = true → us 8 = .pointer (some ⟨bk (us 7), 0, none⟩)
  f9 : L 9 = true → us 9 = ptV (ptAt L1 0)
  f10 : L 10 = true → us 10 = .pointer (some ⟨bk (us 10), 0, none⟩)
  g10 : L 10 = true → L 12 = false → Blk w (bk (us 10)) 53 (ptC ⟨0, 0, 0⟩)
  f11 : L 11 = true → us 11 = .pointer (some ⟨bk (us 11), 0, none⟩)
  g11 : L 11 = true → L 13 = false → Blk w (bk (us 11)) 53 (ptC ⟨0, 0, 0⟩)
  f12 : L 12 = true → Blk w (bk (us 10)) 53 (ptC (ptAt L2 0))
  f13 : L 13 = true → Blk w (bk (us 11)) 53 (ptC (ptAt L1 0))
/-- Knobs that a slice points to. -/
def KV (w : World) (v : Value) (n : Nat) (l : List Knb) : Prop := ∃ A cp, v = .slice A n cp ∧ SliceIs w A n cp 5 (l.map Knb.cs)
theorem KV.ext {w w' : World} {v : Value} {n : Nat} {l : List Knb} (h : KV w v n l) (E : Ext w w') : KV w' v n l := by
  obtain ⟨A, cp, h1, h2⟩ := h
  exact ⟨A, cp, h1, h2.ext E⟩
/-- What is known in the region that compares. -/
structure Lk4 (w0 W5 : World) (S : Nat) (vQ vC vB : Value) (aC : Array Value) (n1 n2 : Nat) (L1 L3 : List Pt) (K1 K2 : List Knb) (r s : Bool) (L : Nat → Bool) (us : Nat → Value) (w : World) : Prop where
  e : Ext w0 w
  x : L 17 = false → Ext W5 w
  f0 : L 0 = true → us 0 = vC
  f1 : L 1 = true → us 1 = vQ
  f2 : L 2 = true → us 2 = vC
  f3 : L 3 = true → L 17 = false → RowV w (us 3) n1 L3
  f4 : L 4 = true → us 4 = vQ
  f5 : L 5 = true → us 5 = vB
  f6 : L 6 = true → L 17 = false → RowV w (us 6) n1 L1
  f7 : L 7 = true → us 7 = .bool r
  f8 : L 8 = true → us 8 = .bool r
  f9 : L 9 = true → r = true → us 9 = vQ
  f10 : L 10 = true → r = true → us 10 = vC
  f11 : L 11 = true → r = true → L 17 = false → KV w (us 11) n2 K2
  f12 : L 12 = true → r = true → us 12 = vQ
  f13 : L 13 = true → r = true → us 13 = vB
  f14 : L 14 = true → r = true → L 17 = false → KV w (us 14) n2 K1
  f15 : L 15 = true → r = true → us 15 = .bool s
  f16 : L 16 = true → us 16 = .bool (r && s)
  f17 : L 17 = true → Blk w (S + 1) 60 aC
  f18 : L 18 = true → us 18 = .bool (r && s)
/-- The posts of Placed and Knobbed. -/
def RCP (l : List Pt) (n : Nat) (w : World) (e : Ending) (w' : World) : Prop := ∃ g cap, w.heap.size ≤ g ∧ e = .returned (.slice (some ⟨g, 0, none⟩) n cap) ∧ n ≤ cap ∧ cap ≤ maxLen ∧ RowX w' g 53 (l.map Pt.cs) ∧ Ext w w'
def RKP (l : List Knb) (n : Nat) (w : World) (e : Ending) (w' : World) : Prop := ∃ A cap, e = .returned (.slice A n cap) ∧ SliceIs w' A n cap 5 (l.map Knb.cs) ∧ (∀ q, A = some q → w.heap.size ≤ q.block) ∧ Ext w w'
end Go.Proofs.YtaaeapjnjjbglaaGreatDoor.Lat
namespace Go.Proofs.YtaaeapjnjjbglaaGreatDoor.Lat
open Go.RowKit

/-- The cells of a placed brick. -/
def bcells (ks : List Knd) (b : Brk) : List Pt := sortP (placeP (kindAt ks b.kind.toNat).cells b.turn.toNat b.at_)
def overB (ks : List Knd) (bs : List Brk) (i k : Nat) : Bool := commonB (bcells ks (brkAt bs i)) (bcells ks (brkAt bs k))
/-- The pairs i, k with i given, of the second numbers i + 1 up to m. -/
def rowO (ks : List Knd) (bs : List Brk) (i m : Nat) : List (Int × Int) := ((List.range m).filter fun k => decide (i < k) && overB ks bs i k).map fun (k : Nat) => ((i : Int), (k : Int))
/-- The pairs of the first j numbers. -/
def overL (ks : List Knd) (bs : List Brk) (j : Nat) : List (Int × Int) := (List.range j).flatMap fun i => rowO ks bs i bs.length
theorem rowO_zero (ks : List Knd) (bs : List Brk) (i : Nat) : rowO ks bs i (i + 1) = [] := by
  unfold rowO
  rw [List.map_eq_nil_iff, List.filter_eq_nil_iff]
  intro k hk
  have := List.mem_range.1 hk
  simp
  omega
theorem rowO_succ {ks : List Knd} {bs : List Brk} {i m : Nat} (h : i < m) : rowO ks bs i (m + 1) = rowO ks bs i m ++ if overB ks bs i m then [((i : Int), (m : Int))] else [] := by
  unfold rowO
  rw [List.range_succ, List.filter_append, List.map_append]
  congr 1
  cases hb : overB ks bs i m
  · simp [hb]
  · simp [hb, h]
theorem overL_succ (ks : List Knd) (bs : List Brk) (j : Nat) : overL ks bs (j + 1) = overL ks bs j ++ rowO ks bs j bs.length := by
  unfold overL
  rw [List.range_succ, List.flatMap_append]
  simp
theorem rowO_len (ks : List Knd) (bs : List Brk) (i m : Nat) : (rowO ks bs i m).length ≤ m := by
  unfold rowO
  rw [List.length_map]
  exact Nat.le_trans (List.length_filter_le _ _) (by simp)
theorem overL_len (ks : List Knd) (bs : List Brk) : ∀ j, (overL ks bs j).length ≤ j * bs.length
  | 0 => by simp [overL]
  | j + 1 => by
    rw [overL_succ, List.length_append, Nat.succ_mul]
    have := overL_len ks bs j
    have := rowO_len ks bs j bs.length
    omega
/-- What is used of valid kinds and bricks. -/
structure MFine (qs : List (Knd × KAt)) (bs : List Brk) : Prop where
  n : bs.length ≤ 40
  b : ∀ b ∈ bs, ∃ (i tn : Nat) (k : Knd) (p : KAt), b.kind = i ∧ b.turn = tn ∧ tn < 24 ∧ qs[i]? = some (k, p) ∧ k.Fine ∧ Pt.in_ 1000 b.at_ ∧ b.byte
theorem mfine_of {w : World} {QA : Option Addr} {qc : Nat} {qs : List (Knd × KAt)} (hk : Kinds w QA qc qs) {bs : List Brk} (hb : ∀ b ∈ bs, b.byte) (h : modelErr (qs.map (·.1)) bs = 0) : MFine qs bs := by
  by_cases h0 : kindsErr (qs.map (·.1)) = 0
  rotate_left
  · rw [modelErr_kinds h0] at h
    exact absurd h h0
  by_cases h1 : 40 < bs.length
  · rw [modelErr_many h0 h1] at h
    cases h
  refine ⟨by omega, fun b hm => ?_⟩
  rw [modelErr_few h0 h1] at h
  unfold askedErr at h
  rw [if_pos h0] at h
  split at h
  rotate_left
  · cases h
  rename_i h2
  obtain ⟨j, hj⟩ := List.getElem?_of_mem hm
  have h3 := allR_at h2 (List.getElem?_eq_some_iff.1 hj).1
  rw [brkAt_eq hj] at h3
  have hby := hb b hm
  obtain ⟨kd, at_, t, c⟩ := b
  obtain ⟨i, k, p, a1, a2, a3, a4, a5⟩ := asked_kind hk (b := ⟨kd, at_, t, c⟩) (askedErr_good h0 (fun i hi => by
    have hi0 : i = 0 := by simpa using hi
    subst hi0
    exact h3))
  have hb1 := hby.1.1
  simp only at a1 a5 hb1
  exact ⟨i, t.toNat, k, p, a1, by show t = _; omega, by omega, a2, a3, near_in' a4, hby⟩
theorem bcells_is {qs : List (Knd × KAt)} {b : Brk} {i tn : Nat} {k : Knd} {p : KAt} (h1 : b.kind = i) (h2 : b.turn = tn) (hi : qs[i]? = some (k, p)) : bcells (qs.map (·.1)) b = sortP (placeP k.cells tn b.at_) := by
  unfold bcells kindAt
  rw [h1, h2]
  simp [hi]
end Go.Proofs.YtaaeapjnjjbglaaGreatDoor.Lat
namespace Go.Proofs.YtaaeapjnjjbglaaGreatDoor.Lat
open Go.RowKit

structure Ov8 (W0 : World) (vQ vI vK vb vb' : Value) (G : Addr) (B : Option Addr) (bn cb : Nat) (p1 p2 : Addr) (n1 n2 : Nat) (L1 L2 : List Pt) (r : Bool) (L : Nat → Bool) (us : Nat → Value) (w : World) : Prop where
  x : Ext W0 w
  f0 : L 0 = true → us 0 = vQ
  f1 : L 1 = true → us 1 = .pointer (some G)
  f2 : L 2 = true → us 2 = .slice B bn cb
  f3 : L 3 = true → us 3 = vI
  f4 : L 4 = true → us 4 = .pointer (some p1)
  f5 : L 5 = true → us 5 = vb
  f6 : L 6 = true → RowV w (us 6) n1 L1
  f7 : L 7 = true → us 7 = vQ
  f8 : L 8 = true → us 8 = .pointer (some G)
  f9 : L 9 = true → us 9 = .slice B bn cb
  f10 : L 10 = true → us 10 = vK
  f11 : L 11 = true → us 11 = .pointer (some p2)
  f12 : L 12 = true → us 12 = vb'
  f13 : L 13 = true → RowV w (us 13) n2 L2
  f14 : L 14 = true → us 14 = .bool r
theorem info2 : (Tryz.prog.info? 133).map (fun i => (i.zero, i.size, i.bytes)) = some (some (.agg #[.int .i64 0, .int .i64 0]), 2, 16) := by kernel_rfl
def PrsPost (l : List (Int × Int)) (w : World) (e : Ending) (w' : World) : Prop := ∃ A cap, e = .returned (.slice A l.length cap) ∧ Prs w' A cap l ∧ Ext w w'
theorem rRow {w : World} {v : Value} {n : Nat} {l : List Pt} (h : RowV w v n l) (hn : l.length = n) : ∃ g cp, v = .slice (some ⟨g, 0, none⟩) n cp ∧ Cells w (some ⟨g, 0, none⟩) cp l := by
  obtain ⟨cp, h1, h2, h3, h4⟩ := h
  refine ⟨_, cp, h1, ?_⟩
  unfold Cells
  rw [hn]
  exact RowX.slice h4 (pts_wide l) (by rw [List.length_map, hn]) h2 h3
end Go.Proofs.YtaaeapjnjjbglaaGreatDoor.Lat
namespace Go.Proofs.YtaaeapjnjjbglaaGreatDoor.Lat
open Go.RowKit

def checkErr (ks : List Knd) (bs : List Brk) : Int := if modelErr ks bs = 0 then (if overL ks bs bs.length = [] then 0 else 12) else modelErr ks bs
theorem checkErr_bad {ks : List Knd} {bs : List Brk} {e : Int} (h : modelErr ks bs = e) (h0 : e ≠ 0) : checkErr ks bs = e := by rw [checkErr, h, if_neg h0]
theorem checkErr_nil {ks : List Knd} {bs : List Brk} (h : modelErr ks bs = 0) (h0 : overL ks bs bs.length = []) : checkErr ks bs = 0 := by rw [checkErr, if_pos h, if_pos h0]
theorem checkErr_over {ks : List Knd} {bs : List Brk} (h : modelErr ks bs = 0) (h0 : overL ks bs bs.length ≠ []) : checkErr ks bs = 12 := by rw [checkErr, if_pos h, if_neg h0]
/-- The pairs, or the error. -/
def ovRes (ks : List Knd) (bs : List Brk) : List (Int × Int) := if modelErr ks bs = 0 then overL ks bs bs.length else []
def PrsRes (l : List (Int × Int)) (e0 : Int) (w : World) (e : Ending) (w' : World) : Prop := ∃ A cap, e = .returned (.tuple #[.slice A l.length cap, .int .i64 e0]) ∧ Prs w' A cap l ∧ Ext w w'
theorem prs_nil (w : World) : Prs w none 0 [] := ⟨rfl, Nat.le_refl _, Nat.zero_le _, by simp, fun h => by cases h⟩
end Go.Proofs.YtaaeapjnjjbglaaGreatDoor.Lat

namespace Go.Proofs.YtaaeapjnjjbglaaGreatDoor
open Go.RowKit

theorem color_in {s : Shape} (ok : s.Ok) (x y z : Int) : s.colorAt x y z ≤ 15 := by
  unfold Shape.colorAt
  split
  · rw [List.getD_eq_getElem?_getD]
    cases h : s.cells[(s.idx x y z).toNat]? with
    | none => simp
    | some c => exact ok.plain c (List.mem_of_getElem? h)
  · omega
theorem laid_get {c : List Laid} {k : Nat} (hk : k < c.length) : c[k]? = some (laidAt c k) := by
  unfold laidAt
  rw [List.getD_eq_getElem?_getD, List.getElem?_eq_getElem hk]
  rfl
theorem brk_ok {s : Shape} {l : List Plate} {a : Laid} (ok : s.Ok) (okl : platesB l = true) (hl : liesB s l a = true) : (brkOf s l a).ok l.length = true := by
  obtain ⟨hp, hin, -, -, -, -⟩ := lies_iff.1 hl
  have hpl : l[a.plate.toNat]? = some (plateAt l a.plate.toNat) := by
    unfold plateAt
    rw [List.getD_eq_getElem?_getD, List.getElem?_eq_getElem (by omega)]
    rfl
  have pok := plate_ok okl hpl
  have hw1 := pok.w
  have hd1 := pok.d
  have hloc := (Shape.inside_iff s _ _ _).1 hin
  have hW := ok.w
  have hD := ok.d
  have hH := ok.h
  have hbx : -1000 ≤ brickX l a ∧ brickX l a ≤ 1000 := by
    unfold brickX
    split <;> omega
  rw [Lat.Brk.ok_iff]
  refine ⟨hp.1, hp.2, Lat.nearB_iff.2 ⟨hbx, by show -1000 ≤ a.y ∧ a.y ≤ 1000; omega, by show -1000 ≤ a.z ∧ a.z ≤ 1000; omega⟩, ?_, color_in ok _ _ _⟩
  show (if a.turned then (1 : Int) else 0) < 24
  split <;> omega
theorem bcell_has {s : Shape} {l : List Plate} {a : Laid} (okl : platesB l = true) (hp : 0 ≤ a.plate ∧ a.plate < l.length) {q : Lat.Pt} (hq : q ∈ Lat.bcells (l.map kndOf) (brkOf s l a)) : hasB l a q.x q.y q.z = true := by
  unfold Lat.bcells at hq
  have hq := (List.mergeSort_perm _ _).mem_iff.1 hq
  rw [brk_turn, show (brkOf s l a).kind = a.plate from rfl, kindAt_map (by omega)] at hq
  exact placed_has okl hp hq
theorem model_check {s : Shape} {l : List Plate} {c : List Laid} (hce : compErr s l c = 0) (hk : Lat.kindsErr (l.map kndOf) = 0) (hn : c.length ≤ 40) : Lat.checkErr (l.map kndOf) (c.map (brkOf s l)) = 0 := by
  obtain ⟨hv, okl, hcomp⟩ := comp_parts hce
  have ok := Shape.ok_of hv
  refine Lat.checkErr_nil ?_ ?_
  · rw [Lat.modelErr_few hk (by rw [List.length_map]; omega)]
    refine Lat.askedErr_good hk fun j hj => ?_
    rw [List.length_map] at hj
    rw [brkAt_map hj, List.length_map]
    exact brk_ok ok okl (comp_lies hcomp (laid_get hj))
  · unfold Lat.overL
    refine List.flatMap_eq_nil_iff.2 fun i hi => ?_
    unfold Lat.rowO
    rw [List.map_eq_nil_iff, List.filter_eq_nil_iff]
    intro k hk2 h
    have hi := List.mem_range.1 hi
    have hk2 := List.mem_range.1 hk2
    rw [List.length_map] at hi hk2
    rw [Bool.and_eq_true, decide_eq_true_eq] at h
    obtain ⟨hik, h⟩ := h
    unfold Lat.overB at h
    rw [brkAt_map hi, brkAt_map hk2] at h
    obtain ⟨q, h1, h2⟩ := Lat.commonB_iff.1 h
    have e := comp_once ok hcomp hi hk2 (bcell_has okl (lies_iff.1 (comp_lies hcomp (laid_get hi))).1 h1) (bcell_has okl (lies_iff.1 (comp_lies hcomp (laid_get hk2))).1 h2)
    omega
end Go.Proofs.YtaaeapjnjjbglaaGreatDoor
