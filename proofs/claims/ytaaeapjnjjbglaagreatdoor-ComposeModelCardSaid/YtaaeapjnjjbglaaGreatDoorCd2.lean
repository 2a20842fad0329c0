/- CheckShape and ValidShape. A drawn region whose first n operations are quiet in a class of worlds, and whose other operations come one behind the other, behind all of those: one walk of the text's order serves every order. Plates: a list of them in memory, and which lists are valid. Compare and Or of the library. What a world that has only grown keeps, as rules for the walk. The board: the numbers of full cells; at. -/
import Derived.Test.YtaaeapjnjjbglaaGreatDoorCd1
import Derived.StillTail

namespace Go.Proofs.YtaaeapjnjjbglaaGreatDoor
open Go.RowKit

def Shape.valid (s : Shape) : Bool := inB 1 8 s.W && (inB 1 8 s.D && (inB 1 4 s.H && (decide ((s.cells.length : Int) = s.W * s.D * s.H) && (plainB s.cells && inB 1 16 (fullN s.cells)))))
theorem mul_bd {a b : Int} {A B : Nat} (h1 : 1 ≤ a) (h2 : a ≤ A) (h3 : 1 ≤ b) (h4 : b ≤ B) : 1 ≤ a * b ∧ a * b ≤ (A * B : Nat) := by
  constructor
  · have := Int.mul_pos (a := a) (b := b) (by omega) (by omega)
    omega
  · rw [Int.natCast_mul]
    exact Int.mul_le_mul h2 h4 (by omega) (by omega)
theorem vol_wrap {a b c : Int} (ha : inB 1 8 a = true) (hb : inB 1 8 b = true) (hc : inB 1 4 c = true) : wrap64 (wrap64 (a * b) * c) = a * b * c ∧ wrap64 (a * b) = a * b := by
  rw [inB_iff] at ha hb hc
  have h1 := mul_bd (A := 8) (B := 8) ha.1 ha.2 hb.1 hb.2
  have h2 := mul_bd (A := 64) (B := 4) h1.1 h1.2 hc.1 hc.2
  have e1 : wrap64 (a * b) = a * b := IntWalk.wrap64_in _ (by omega)
  exact ⟨by rw [e1]; exact IntWalk.wrap64_in _ (by omega), e1⟩

theorem from_is {lo hi n : Int} {b : Bool} (h : inB lo hi n = b) (w : World) : Calls Tryz.prog 45 #[.int .i64 lo, .int .i64 hi, .int .i64 n] w fun e w' => e = .returned (.bool b) ∧ w = w' := by
  subst h
  exact from_c lo hi n w
theorem contains_is {A : Option Addr} {cap : Nat} {cs : List Int} {b : Bool} (h : plainB cs = b) (w : World) (hs : Bytes w A cap cs) :
    Calls Tryz.prog 82 #[.slice A cs.length cap, .func (.func 81) #[] #[]] w fun e w' => e = .returned (.bool (!b)) ∧ w = w' := by
  subst h
  exact contains_c A cap cs w hs
def shapeErr (s : Shape) : Int := if s.valid then 0 else 70

set_option maxHeartbeats 1600000 in
theorem checkShape_c (A : Option Addr) (cap : Nat) (wd d h : Int) (cs : List Int) (w : World) (hs : Bytes w A cap cs) :
    Calls Tryz.prog 61 #[.agg #[.int .i64 wd, .int .i64 d, .int .i64 h, .slice A cs.length cap]] w fun e w' => e = .returned (.int .i64 (shapeErr ⟨wd, d, h, cs⟩)) ∧ Ext w w' := by
  have hl := hs.len
  unfold maxLen at hl
  obtain ⟨W, hW, E, B, hz⟩ := box_ w #[.int .i64 wd, .int .i64 d, .int .i64 h, .slice A cs.length cap] 24
  have bc := B.cell
  have hb := B.lt
  have hs2 := hs.ext E
  cases h1 : inB 1 8 wd
  · go_enter Tryz.func61, Tryz.ntmps61
    go_wp2_with fail
    refine (from_is h1 _).mono ?_
    rintro e w0 ⟨rfl, rfl⟩
    go_wp2_with fail
    go_ret
    exact ⟨by simp [shapeErr, Shape.valid, h1], E⟩
  cases h2 : inB 1 8 d
  · go_enter Tryz.func61, Tryz.ntmps61
    go_wp2_with fail
    refine (from_is h1 _).mono ?_
    rintro e w0 ⟨rfl, rfl⟩
    go_wp2_with fail
    refine (from_is h2 _).mono ?_
    rintro e w1 ⟨rfl, rfl⟩
    go_wp2_with fail
    go_ret
    exact ⟨by simp [shapeErr, Shape.valid, h2], E⟩
  cases h3 : inB 1 4 h
  · go_enter Tryz.func61, Tryz.ntmps61
    go_wp2_with fail
    refine (from_is h1 _).mono ?_
    rintro e w0 ⟨rfl, rfl⟩
    go_wp2_with fail
    refine (from_is h2 _).mono ?_
    rintro e w1 ⟨rfl, rfl⟩
    go_wp2_with fail
    refine (from_is h3 _).mono ?_
    rintro e w2 ⟨rfl, rfl⟩
    go_wp2_with fail
    go_ret
    exact ⟨by simp [shapeErr, Shape.valid, h3], E⟩
  obtain ⟨hv, hv2⟩ := vol_wrap h1 h2 h3
  rw [hv2] at hv
  by_cases h4 : (cs.length : Int) = wd * d * h
  · cases h5 : plainB cs
    · go_enter Tryz.func61, Tryz.ntmps61
      go_wp2_with fail
      refine (from_is h1 _).mono ?_
      rintro e w0 ⟨rfl, rfl⟩
      go_wp2_with fail
      refine (from_is h2 _).mono ?_
      rintro e w1 ⟨rfl, rfl⟩
      go_wp2_with fail
      refine (from_is h3 _).mono ?_
      rintro e w2 ⟨rfl, rfl⟩
      go_wp2_with fail
      refine (contains_is h5 _ hs2).mono ?_
      rintro e w3 ⟨rfl, rfl⟩
      go_wp2_with fail
      go_ret
      exact ⟨by simp [shapeErr, Shape.valid, h5], E⟩
    · cases h6 : inB 1 16 (fullN cs)
      · go_enter Tryz.func61, Tryz.ntmps61
        go_wp2_with fail
        refine (from_is h1 _).mono ?_
        rintro e w0 ⟨rfl, rfl⟩
        go_wp2_with fail
        refine (from_is h2 _).mono ?_
        rintro e w1 ⟨rfl, rfl⟩
        go_wp2_with fail
        refine (from_is h3 _).mono ?_
        rintro e w2 ⟨rfl, rfl⟩
        go_wp2_with fail
        refine (contains_is h5 _ hs2).mono ?_
        rintro e w3 ⟨rfl, rfl⟩
        go_wp2_with fail
        refine (full_c A cap wd d h cs _ hs2).mono ?_
        rintro e w4 ⟨rfl, E1⟩
        go_wp2_with fail
        refine (from_is h6 _).mono ?_
        rintro e w5 ⟨rfl, rfl⟩
        go_wp2_with fail
        go_ret
        exact ⟨by simp [shapeErr, Shape.valid, h6], E.trans E1⟩
      · go_enter Tryz.func61, Tryz.ntmps61
        go_wp2_with fail
        refine (from_is h1 _).mono ?_
        rintro e w0 ⟨rfl, rfl⟩
        go_wp2_with fail
        refine (from_is h2 _).mono ?_
        rintro e w1 ⟨rfl, rfl⟩
        go_wp2_with fail
        refine (from_is h3 _).mono ?_
        rintro e w2 ⟨rfl, rfl⟩
        go_wp2_with fail
        refine (contains_is h5 _ hs2).mono ?_
        rintro e w3 ⟨rfl, rfl⟩
        go_wp2_with fail
        refine (full_c A cap wd d h cs _ hs2).mono ?_
        rintro e w4 ⟨rfl, E1⟩
        go_wp2_with fail
        refine (from_is h6 _).mono ?_
        rintro e w5 ⟨rfl, rfl⟩
        go_wp2_with fail
        go_ret
        exact ⟨by simp [shapeErr, Shape.valid, h1, h2, h3, h4, h5, h6], E.trans E1⟩
  · go_enter Tryz.func61, Tryz.ntmps61
    go_wp2_with fail
    refine (from_is h1 _).mono ?_
    rintro e w0 ⟨rfl, rfl⟩
    go_wp2_with fail
    refine (from_is h2 _).mono ?_
    rintro e w1 ⟨rfl, rfl⟩
    go_wp2_with fail
    refine (from_is h3 _).mono ?_
    rintro e w2 ⟨rfl, rfl⟩
    go_wp2_with fail
    go_ret
    exact ⟨by simp [shapeErr, Shape.valid, h4], E⟩
end Go.Proofs.YtaaeapjnjjbglaaGreatDoor

namespace Go.Proofs.YtaaeapjnjjbglaaGreatDoor
open Go.RowKit

section
variable {P : Program} {ops : Array Oper} {md : Region.Mode} {C : World → Prop}

/-- Whatever order is picked for the head; L holds of the frame when it is done. -/
def headQ (P : Program) (md : Region.Mode) (ops : Array Oper) (C : World → Prop) (n : Nat) (L : Array Bool → Act → Prop) : Nat → Array Bool → Act → Prop
  | 0, listed, a => L listed a
  | f + 1, listed, a => Region.ready md ops listed ≠ [] ∧ ∀ i ∈ Region.ready md ops listed, i < n ∧ qOp P ops C i (headQ P md ops C n L f (listed.setIfInBounds i true)) a

theorem any_of_headQ {n g : Nat} {L : Array Bool → Act → Prop} {Q' : Exit → Act → World → Prop} (hL : ∀ listed a, L listed a → ∀ w, C w → wpAny P md ops Q' g listed a w) (f : Nat) :
    ∀ (listed : Array Bool) (a : Act), headQ P md ops C n L f listed a → ∀ w, C w → wpAny P md ops Q' (f + g) listed a w := by
  induction f with
  | zero =>
    intro listed a h w hw
    rw [Nat.zero_add]
    exact hL _ _ h w hw
  | succ f ih =>
    intro listed a h w hw
    rw [show f + 1 + g = (f + g) + 1 from by omega]
    refine ⟨fun h0 => absurd h0 h.1, fun i hi => ?_⟩
    exact wpOp_of_qOp hw (fun a' w' hw' h' => ih _ a' h' w' hw') (h.2 i hi).2

theorem headQ_first {n i : Nat} {oi : Oper} {v : Value} {L : Array Bool → Act → Prop} (hi : ops[i]? = some oi) (hsel : ∀ (j : Nat) (o : Oper) cs b, ops[j]? = some o → o.op ≠ .select cs b)
    (hs : Region.sinkB md ops n = true) (hc : Region.chainB md ops n = true) (hn : n < ops.size) (hin : i < n) (hdone : ∀ listed a, L listed a → ∀ j ∈ Region.ready md ops listed, n ≤ j) (f : Nat) :
    ∀ (listed : Array Bool) (a : Act), HeadInv md ops n listed →
      (∀ j oj, ops[j]? = some oj → j ≠ i → listed.getD j true = false → (∀ e ∈ oj.after, Region.binds md e = true → e.on ≠ i) → oi.apart ops oj = true) →
      i ∈ Region.ready md ops listed → YieldsIn P ops C oi v a → headQ P md ops C n L f (listed.setIfInBounds i true) (a.put oi.dst v) → headQ P md ops C n L (f + 1) listed a := by
  have small : ∀ {listed : Array Bool}, HeadInv md ops n listed → i ∈ Region.ready md ops listed → ∀ j ∈ Region.ready md ops listed, j < n := fun inv hr j hj => by
    rcases Nat.lt_or_ge j n with h | h
    · exact h
    · exact absurd hj (tail_waits hs hc hn inv _ i rfl hin (mem_ready.1 hr).1 j h)
  induction f with
  | zero =>
    intro listed a inv _ hr hy H
    refine ⟨fun h => (by rw [h] at hr; cases hr), fun j hj => ⟨small inv hr j hj, ?_⟩⟩
    by_cases hji : j = i
    · subst hji
      exact hy.qOp hi H
    · have h1 := hdone _ _ H j (ready_mono hj hji)
      have h2 := small inv hr j hj
      omega
  | succ f ih =>
    intro listed a inv hfree hr hy H
    refine ⟨fun h => (by rw [h] at hr; cases hr), fun j hj => ⟨small inv hr j hj, ?_⟩⟩
    by_cases hji : j = i
    · subst hji
      exact hy.qOp hi H
    · have hun := (mem_ready.1 hr).1
      have h1 := (H.2 j (ready_mono hj hji)).2
      obtain ⟨hjun, oj, hoj, hall⟩ := mem_ready.1 hj
      have hnot : ∀ e ∈ oj.after, Region.binds md e = true → e.on ≠ i := fun e he hb heq => by
        have h3 := hall e he hb
        rw [heq, getD_both hun] at h3
        cases h3
      have h2 := qOp_put hoj (hfree j oj hoj hji hjun hnot) (fun cs b => hsel i oi cs b hi) (fun cs b => hsel j oj cs b hoj) hy h1
      refine qOp_mono (fun a' h3 => ih (listed.setIfInBounds j true) a' (inv.set hj (small inv hr j hj)) (fun k ok hk hki hunk hno => ?_) (ready_mono hr (Ne.symm hji)) h3.1 ?_) h2
      · refine hfree k ok hk hki ?_ hno
        by_cases hjk : j = k
        · subst hjk
          exact hjun
        · rwa [getD_set_ne true hjk] at hunk
      · rw [Array.setIfInBounds_comm _ _ hji]
        exact h3.2

theorem headQ_lex {n g : Nat} {Lq : Act → Prop} (hsel : Region.noSelect ops = true) (hs : Region.sinkB md ops n = true) (hc : Region.chainB md ops n = true) (hn : n < ops.size) (l : List Oper) :
    ∀ (k : Nat) (listed : Array Bool) (a : Act), (∀ j, j < l.length → l[j]? = ops[k + j]?) → k + l.length = n → HeadInv md ops n listed →
    Region.lexHead md ops g l.length k listed = true → wpQuiet P ops C Lq l a →
    headQ P md ops C n (fun listed' a' => Region.seqB md ops g n listed' = true ∧ Lq a') l.length listed a := by
  induction l with
  | nil =>
    intro k listed a _ hk _ hB h
    have hk' : k = n := by simpa using hk
    subst hk'
    exact ⟨by simpa [Region.lexHead] using hB, h⟩
  | cons o l ih =>
    intro k listed a hl hk inv hB h
    have h0 : ops[k]? = some o := by simpa using (hl 0 (by simp)).symm
    simp only [List.length_cons, Region.lexHead, Bool.and_eq_true] at hB hk
    obtain ⟨⟨hr, hf⟩, hB'⟩ := hB
    have hr' : k ∈ Region.ready md ops listed := by simpa using hr
    have hq : qOp P ops C k (wpQuiet P ops C Lq l) a := by
      unfold qOp
      simp only [h0]
      exact h
    obtain ⟨v, hy, hK⟩ := yieldsIn_of_qOp h0 hq
    refine headQ_first h0 (Region.noSelect_spec hsel) hs hc hn (by omega) (fun listed' a' hL => seqB_ready hL.1) l.length listed a inv (Region.free_spec h0 hf) hr' hy ?_
    refine ih (k + 1) _ _ (fun j hj => ?_) (by omega) (inv.set hr' (by omega)) hB' hK
    have := hl (j + 1) (by simp; omega)
    simpa [Nat.add_assoc, Nat.add_comm 1 j] using this

/-- The theorem, at the class of the worlds that have only grown. -/
theorem wp_region_tail {id : Nat} {Q : Exit → Act → World → Prop} {a : Act} {w : World} {l : List Oper} (n : Nat) (hm : P.follows .mixedOrders = true) (hB : Region.lexTailB .any l.toArray n = true)
    (h : wpQuiet P l.toArray (fun w' => ∃ x, w' = grow w x) (fun a' => ∀ w', (∃ x, w' = grow w x) → wpList P l.toArray Q (l.drop n) a' w') (l.take n) a) : (Code.region id l.toArray true).wp P Q a w := by
  simp only [Region.lexTailB, Bool.and_eq_true, decide_eq_true_eq] at hB
  obtain ⟨⟨⟨⟨hsel, hn⟩, hs⟩, hc⟩, hlex⟩ := hB
  have hn' : n < l.length := by simpa using hn
  have htl : (l.take n).length = n := by simp; omega
  have hdl : (l.drop n).length = l.toArray.size - n := by simp
  have inv0 : HeadInv .any l.toArray n (Array.replicate l.toArray.size false) :=
    ⟨by simp, fun j oj _ hl => (by rw [getD_replicate_false] at hl; cases hl), fun t _ ht => getD_in (by simpa using ht) (getD_replicate_false _ _)⟩
  have H := headQ_lex (P := P) (C := fun w' => ∃ x, w' = grow w x) (md := .any) (g := l.toArray.size - n) hsel hs hc hn (l.take n) 0 _ a (fun j hj => by
    rw [htl] at hj
    simp [hj]) (by simpa using htl) inv0 (by rw [htl]; exact hlex) h
  refine wp_region_any hm ?_
  have H2 := any_of_headQ (Q' := Q) (g := l.toArray.size - n) (fun listed a' hL w' hw' => by
    have := wpAny_of_seq (md := .any) (Q' := Q) (l.drop n) n listed a' w' (fun j => by simp [List.getElem?_drop]) (by rw [hdl]; exact hL.1) (hL.2 w' hw')
    rwa [hdl] at this) _ _ _ H { w with drawn := w.drawn + 1 } ⟨⟨#[], w.drawn + 1⟩, by simp [grow]⟩
  rw [htl, show n + (l.toArray.size - n) = l.toArray.size from by omega] at H2
  exact H2
end
end Go.Proofs.YtaaeapjnjjbglaaGreatDoor

namespace Go.Proofs.YtaaeapjnjjbglaaGreatDoor
open Go.RowKit

structure Plate where
  W : Int
  D : Int
  N : Int
  color : Int
def Plate.cells (p : Plate) : List Value := [.int .i64 p.W, .int .i64 p.D, .int .i64 p.N, .int .u8 p.color]
def Plates (w : World) (A : Option Addr) (cap : Nat) (l : List Plate) : Prop := SliceIs w A l.length cap 4 (l.map Plate.cells)
theorem Plates.ext {w w' : World} {A : Option Addr} {cap : Nat} {l : List Plate} (h : Plates w A cap l) (e : Ext w w') : Plates w' A cap l := SliceIs.ext h e
theorem Plates.len {w : World} {A : Option Addr} {cap : Nat} {l : List Plate} (h : Plates w A cap l) : l.length ≤ maxLen := Nat.le_trans h.le h.small
theorem Plates.at_ {w : World} {A : Option Addr} {cap : Nat} {l : List Plate} (h : Plates w A cap l) {k : Nat} (hk : k < l.length) :
    ∃ b off p, A = some ⟨b, off, none⟩ ∧ l[k]? = some p ∧ b < w.heap.size ∧ w.cell? ⟨b, off + k * 4, none⟩ = some (.int .i64 p.W) ∧ w.cell? ⟨b, off + k * 4 + 1, none⟩ = some (.int .i64 p.D) ∧
      w.cell? ⟨b, off + k * 4 + 2, none⟩ = some (.int .i64 p.N) ∧ w.cell? ⟨b, off + k * 4 + 3, none⟩ = some (.int .u8 p.color) := by
  obtain ⟨b, off, hA, hb, hc⟩ := SliceIs.cells h (by omega)
  have hget : l[k]? = some l[k] := List.getElem?_eq_getElem hk
  have hr : (l.map Plate.cells)[k]? = some l[k].cells := by rw [List.getElem?_map, hget]; rfl
  exact ⟨b, off, l[k], hA, hget, hb, hc k _ hr 0 _ rfl, hc k _ hr 1 _ rfl, hc k _ hr 2 _ rfl, hc k _ hr 3 _ rfl⟩

/-! One plate by itself; one behind another. -/
def Plate.one (p : Plate) : Bool := inB 1 p.D p.W && (decide (p.D ≤ 8) && (inB 0 99 p.N && decide (p.color ≤ 15)))
def pairB (q p : Plate) : Bool := decide (q.W < p.W) || (decide (q.W = p.W) && (decide (q.D < p.D) || (decide (q.D = p.D) && (decide (q.color ≠ 0) && decide (q.color < p.color)))))
def plateAt (l : List Plate) (k : Nat) : Plate := l.getD k ⟨0, 0, 0, 0⟩
def okAt (l : List Plate) (k : Nat) : Bool := (plateAt l k).one && (decide (k = 0) || pairB (plateAt l (k - 1)) (plateAt l k))
def platesB (l : List Plate) : Bool := inB 1 8 l.length && (List.range l.length).all (okAt l)
def platesErr (l : List Plate) : Int := if platesB l then 0 else 71
theorem platesB_bad {l : List Plate} {k : Nat} (hk : k < l.length) (h : okAt l k = false) : platesB l = false := by
  unfold platesB
  rw [Bool.and_eq_false_iff]
  right
  rw [List.all_eq_false]
  exact ⟨k, List.mem_range.2 hk, by simp [h]⟩
theorem platesB_good {l : List Plate} (h1 : inB 1 8 l.length = true) (h : ∀ j, j < l.length → okAt l j = true) : platesB l = true := by
  unfold platesB
  rw [Bool.and_eq_true, List.all_eq_true]
  exact ⟨h1, fun j hj => h j (List.mem_range.1 hj)⟩
theorem plateAt_eq {l : List Plate} {k : Nat} {p : Plate} (h : l[k]? = some p) : plateAt l k = p := by simp [plateAt, h]

/-! cmp.Compare, cmp.Or. -/
def cmpI (a b : Int) : Int := if a < b then -1 else if b < a then 1 else 0
theorem isNaN_c (a : Int) (w : World) : Calls Tryz.prog 72 #[.int .i64 a] w fun e w' => e = .returned (.bool false) ∧ w = w' := by
  go_enter Tryz.func72, Tryz.ntmps72
  go_wp2
  go_ret
  exact ⟨by simp, rfl⟩
set_option maxHeartbeats 400000 in
theorem compare_c (a b : Int) (w : World) : Calls Tryz.prog 47 #[.int .i64 a, .int .i64 b] w fun e w' => e = .returned (.int .i64 (cmpI a b)) ∧ w = w' := by
  by_cases h1 : a < b
  · go_enter Tryz.func47, Tryz.ntmps47
    go_wp2_with (go_at_call 72; refine (isNaN_c _ _).mono ?_; rintro e w' ⟨rfl, rfl⟩)
    go_ret
    exact ⟨by simp [cmpI, h1], rfl⟩
  · by_cases h2 : b < a
    · go_enter Tryz.func47, Tryz.ntmps47
      go_wp2_with (go_at_call 72; refine (isNaN_c _ _).mono ?_; rintro e w' ⟨rfl, rfl⟩)
      go_ret
      exact ⟨by simp [cmpI, h1, h2], rfl⟩
    · have hc : cmpI a b = 0 := by rw [cmpI, if_neg h1, if_neg h2]
      have Hc := Lib.hid hc
      clear hc
      go_enter Tryz.func47, Tryz.ntmps47
      go_wp2_with (go_at_call 72; refine (isNaN_c _ _).mono ?_; rintro e w' ⟨rfl, rfl⟩)
      go_ret
      exact ⟨by rw [Hc.out]; rfl, rfl⟩
def orI (a b : Int) : Int := if a = 0 then b else a
set_option maxHeartbeats 800000 in
theorem or_c (B : Nat) (a b : Int) (w : World) (_hB : B < w.heap.size) (h0 : w.cell? ⟨B, 0, none⟩ = some (.int .i64 a)) (h1 : w.cell? ⟨B, 1, none⟩ = some (.int .i64 b)) :
    Calls Tryz.prog 46 #[.slice (some ⟨B, 0, none⟩) 2 2] w fun e w' => e = .returned (.int .i64 (orI a b)) ∧ w = w' := by
  by_cases ha : a = 0
  · subst ha
    by_cases hb : b = 0
    · subst hb
      go_enter Tryz.func46, Tryz.ntmps46
      go_wp2
      go_loop [8] (fun i => ∃ k : Nat, k ≤ 2 ∧ i = .int .i64 k) (fun i => 2 - (intOf i).toNat)
      case atStart => exact ⟨0, by omega, rfl⟩
      case round =>
        obtain ⟨k, hk, rfl⟩ := hrel
        obtain rfl | rfl | rfl : k = 0 ∨ k = 1 ∨ k = 2 := by omega
        · go_wp2
          go_round
          case rel => exact ⟨1, by omega, rfl⟩
          case measure => simp [intOf]
        · go_wp2
          go_round
          case rel => exact ⟨2, by omega, rfl⟩
          case measure => simp [intOf]
        · go_wp2
          go_ret
          exact ⟨rfl, rfl⟩
    · go_enter Tryz.func46, Tryz.ntmps46
      go_wp2
      go_loop [8] (fun i => ∃ k : Nat, k ≤ 1 ∧ i = .int .i64 k) (fun i => 2 - (intOf i).toNat)
      case atStart => exact ⟨0, by omega, rfl⟩
      case round =>
        obtain ⟨k, hk, rfl⟩ := hrel
        obtain rfl | rfl : k = 0 ∨ k = 1 := by omega
        · go_wp2
          go_round
          case rel => exact ⟨1, by omega, rfl⟩
          case measure => simp [intOf]
        · go_wp2
          go_ret
          exact ⟨rfl, rfl⟩
  · go_enter Tryz.func46, Tryz.ntmps46
    go_wp2
    go_loop [8] (fun i => i = .int .i64 0) (fun i => 0)
    case atStart => rfl
    case round =>
      subst hrel
      go_wp2
      go_ret
      exact ⟨by simp [orI, ha], rfl⟩
end Go.Proofs.YtaaeapjnjjbglaaGreatDoor

namespace Go.Proofs.YtaaeapjnjjbglaaGreatDoor
open Go.RowKit

theorem ext_facts {w w' : World} (E : Ext w w') :
    (∀ a, (w.cell? a).isSome = true → w'.cell? a = w.cell? a) ∧ (∀ a, (w.cell? a).isSome = true → w'.frozen? a = w.frozen? a) ∧ w.heap.size ≤ w'.heap.size := by
  refine ⟨fun a h => ?_, fun a h => ?_, E.size⟩
  · obtain ⟨u, hu⟩ := Option.isSome_iff_exists.1 h
    rw [hu]
    exact E.cell hu
  · obtain ⟨u, hu⟩ := Option.isSome_iff_exists.1 h
    exact E.frozen (World.block_lt_of_cell? w a hu)

/-! A loop that may leave early, as a fold that may fail. -/
section
variable {α : Type}
/-- k rounds of a step that may fail. -/
def runs (f : Nat → α → Option α) : Nat → α → Option α
  | 0, a => some a
  | k + 1, a => (runs f k a).bind (f k)
theorem runs_none {f : Nat → α → Option α} {a : α} {k n : Nat} (h : runs f k a = none) (hk : k ≤ n) : runs f n a = none := by
  induction n with
  | zero =>
    obtain rfl : k = 0 := by omega
    exact h
  | succ n ih =>
    rcases Nat.lt_or_ge n k with h' | h'
    · obtain rfl : k = n + 1 := by omega
      exact h
    · show (runs f n a).bind (f n) = none
      rw [ih h']
      rfl
theorem runs_fail {f : Nat → α → Option α} {a b : α} {k n : Nat} (h : runs f k a = some b) (hf : f k b = none) (hk : k < n) : runs f n a = none :=
  runs_none (k := k + 1) (by show (runs f k a).bind (f k) = none; rw [h]; exact hf) hk
theorem runs_succ {f : Nat → α → Option α} {a b : α} {k : Nat} (h : runs f k a = some b) : runs f (k + 1) a = f k b := by
  show (runs f k a).bind (f k) = _
  rw [h]
  rfl
theorem runs_prefix {f : Nat → α → Option α} {a b : α} {k n : Nat} (h : runs f n a = some b) (hk : k ≤ n) : ∃ c, runs f k a = some c := by
  cases hc : runs f k a with
  | some c => exact ⟨c, rfl⟩
  | none => rw [runs_none hc hk] at h; cases h
end
end Go.Proofs.YtaaeapjnjjbglaaGreatDoor

namespace Go.Proofs.YtaaeapjnjjbglaaGreatDoor
open Go.RowKit

/-- The slice reads as these numbers. -/
def Ints (w : World) (A : Option Addr) (cap : Nat) (xs : List Int) : Prop := SliceIs w A xs.length cap 1 (xs.map fun n => [.int .i64 n])
theorem Ints.ext {w w' : World} {A : Option Addr} {cap : Nat} {xs : List Int} (h : Ints w A cap xs) (e : Ext w w') : Ints w' A cap xs := SliceIs.ext h e
theorem Ints.len {w : World} {A : Option Addr} {cap : Nat} {xs : List Int} (h : Ints w A cap xs) : xs.length ≤ maxLen := Nat.le_trans h.le h.small
theorem Ints.at_ {w : World} {A : Option Addr} {cap : Nat} {xs : List Int} (h : Ints w A cap xs) {k : Nat} {n : Int} (hk : xs[k]? = some n) :
    ∃ b off, A = some ⟨b, off, none⟩ ∧ b < w.heap.size ∧ w.cell? ⟨b, off + k, none⟩ = some (.int .i64 n) := by
  have hlt : k < xs.length := (List.getElem?_eq_some_iff.1 hk).1
  obtain ⟨b, off, rfl, hb, hc⟩ := SliceIs.cells h (by omega)
  have hc0 := hc k [.int .i64 n] (by rw [List.getElem?_map, hk]; rfl) 0 _ rfl
  simp only [Nat.mul_one, Nat.add_zero] at hc0
  exact ⟨b, off, rfl, hb, hc0⟩

/-! ### the numbers of full cells -/
/-- The number of the cell with an index: how many full cells are before it; -1 if it is not full. -/
def numOf (cs : List Int) (i : Nat) : Int := if cs.getD i 0 = 0 then -1 else (fullN (cs.take i) : Int)
def numsOf (cs : List Int) : List Int := (List.range cs.length).map (numOf cs)
theorem numsOf_len (cs : List Int) : (numsOf cs).length = cs.length := by simp [numsOf]
theorem numsOf_get {cs : List Int} {i : Nat} (h : i < cs.length) : (numsOf cs)[i]? = some (numOf cs i) := by simp [numsOf, h]
theorem numOf_lo (cs : List Int) (i : Nat) : -1 ≤ numOf cs i := by
  unfold numOf
  split <;> omega
theorem numOf_hi {cs : List Int} {i : Nat} (h : i < cs.length) : numOf cs i < fullN cs := by
  unfold numOf
  split
  · omega
  · rename_i h0
    have hc : cs[i]? = some cs[i] := List.getElem?_eq_getElem h
    have h1 := fullN_succ hc
    rw [List.getD_eq_getElem?_getD, hc] at h0
    simp only [Option.getD_some] at h0
    rw [if_neg h0] at h1
    have h2 : fullN (cs.take (i + 1)) ≤ fullN cs := (List.take_sublist _ _).countP_le
    omega

/-- The index of a place. -/
def Shape.idx (s : Shape) (x y z : Int) : Int := (z * s.D + y) * s.W + x
def Shape.inside (s : Shape) (x y z : Int) : Bool := inB 0 (s.W - 1) x && (inB 0 (s.D - 1) y && inB 0 (s.H - 1) z)
/-- The number of a full cell; -1 if it is none. -/
def Shape.num (s : Shape) (x y z : Int) : Int := if s.inside x y z then numOf s.cells (s.idx x y z).toNat else -1

structure Shape.Ok (s : Shape) : Prop where
  w : 1 ≤ s.W ∧ s.W ≤ 8
  d : 1 ≤ s.D ∧ s.D ≤ 8
  h : 1 ≤ s.H ∧ s.H ≤ 4
  len : (s.cells.length : Int) = s.W * s.D * s.H
  plain : ∀ c ∈ s.cells, c ≤ 15
  full : 1 ≤ fullN s.cells ∧ fullN s.cells ≤ 16
theorem Shape.ok_of {s : Shape} (h : s.valid = true) : s.Ok := by
  simp only [Shape.valid, Bool.and_eq_true, inB_iff, decide_eq_true_eq] at h
  obtain ⟨h1, h2, h3, h4, h5, h6⟩ := h
  refine ⟨h1, h2, h3, h4, fun c hc => ?_, by omega⟩
  have := List.all_eq_true.1 h5 c hc
  simpa using this
theorem Shape.idx_in {s : Shape} (ok : s.Ok) {x y z : Int} (h : s.inside x y z = true) : 0 ≤ s.idx x y z ∧ s.idx x y z < s.cells.length ∧ 0 ≤ z * s.D ∧ z * s.D ≤ 32 ∧ 0 ≤ (z * s.D + y) * s.W ∧ (z * s.D + y) * s.W ≤ 320 ∧ s.idx x y z ≤ 330 := by
  simp only [Shape.inside, Bool.and_eq_true, inB_iff] at h
  obtain ⟨⟨x1, x2⟩, ⟨y1, y2⟩, z1, z2⟩ := h
  obtain ⟨w1, w2⟩ := ok.w
  obtain ⟨d1, d2⟩ := ok.d
  obtain ⟨h1, h2⟩ := ok.h
  have e1 : 0 ≤ z * s.D := Int.mul_nonneg z1 (by omega)
  have e2 : z * s.D ≤ (s.H - 1) * s.D := Int.mul_le_mul_of_nonneg_right z2 (by omega)
  have e3 : 0 ≤ (z * s.D + y) * s.W := Int.mul_nonneg (by omega) (by omega)
  have e4 : (z * s.D + y) * s.W ≤ ((s.H - 1) * s.D + (s.D - 1)) * s.W := Int.mul_le_mul_of_nonneg_right (by omega) (by omega)
  have e5 : ((s.H - 1) * s.D + (s.D - 1)) * s.W = s.W * s.D * s.H - s.W := by
    rw [Int.sub_mul, Int.one_mul, Int.add_mul, Int.sub_mul, Int.sub_mul, Int.one_mul, Int.mul_comm s.H s.D, Int.mul_comm (s.D * s.H) s.W, ← Int.mul_assoc]
    omega
  have e6 : z * s.D ≤ 3 * 8 := Int.mul_le_mul (by omega) d2 (by omega) (by omega)
  have e7 : (z * s.D + y) * s.W ≤ 32 * 8 := Int.mul_le_mul (by omega) w2 (by omega) (by omega)
  unfold Shape.idx
  rw [ok.len]
  omega

/-! ### in memory -/
/-- What at reads of a board. -/
structure Base (w : World) (g : Nat) (s : Shape) (A : Option Addr) (cap : Nat) (NA : Option Addr) (ncap : Nat) : Prop where
  c0 : w.cell? ⟨g, 0, none⟩ = some (.int .i64 s.W)
  c1 : w.cell? ⟨g, 1, none⟩ = some (.int .i64 s.D)
  c2 : w.cell? ⟨g, 2, none⟩ = some (.int .i64 s.H)
  c3 : w.cell? ⟨g, 3, none⟩ = some (.slice A s.cells.length cap)
  c5 : w.cell? ⟨g, 5, none⟩ = some (.slice NA s.cells.length ncap)
  bytes : Bytes w A cap s.cells
  nums : Ints w NA ncap (numsOf s.cells)
theorem Base.ext {w w' : World} {g : Nat} {s : Shape} {A : Option Addr} {cap : Nat} {NA : Option Addr} {ncap : Nat} (h : Base w g s A cap NA ncap) (e : Ext w w') : Base w' g s A cap NA ncap :=
  ⟨e.cell h.c0, e.cell h.c1, e.cell h.c2, e.cell h.c3, e.cell h.c5, h.bytes.ext e, h.nums.ext e⟩

set_option maxHeartbeats 1000000 in
theorem at_c (x y z : Int) (g : Nat) (s : Shape) (A : Option Addr) (cap : Nat) (NA : Option Addr) (ncap : Nat) (ok : s.Ok) (w : World) (h : Base w g s A cap NA ncap) :
    Calls Tryz.prog 62 #[.pointer (some ⟨g, 0, none⟩), .int .i64 x, .int .i64 y, .int .i64 z] w fun e w' => e = .returned (.int .i64 (s.num x y z)) ∧ Ext w w' := by
  obtain ⟨c0, c1, c2, -, c5, -, hn⟩ := h
  have w1 := ok.w
  have d1 := ok.d
  have h1 := ok.h
  obtain ⟨w1, w2⟩ := w1
  obtain ⟨d1, d2⟩ := d1
  obtain ⟨h1, h2⟩ := h1
  go_enter Tryz.func62, Tryz.ntmps62
  go_wp2_with fail
  refine (from_c _ _ _ _).mono ?_
  rintro e w0 ⟨rfl, rfl⟩
  cases k1 : inB 0 (s.W - 1) x
  · go_wp2_with fail
    go_ret
    exact ⟨by simp [Shape.num, Shape.inside, k1], Ext.refl _⟩
  go_wp2_with fail
  refine (from_c _ _ _ _).mono ?_
  rintro e w0 ⟨rfl, rfl⟩
  cases k2 : inB 0 (s.D - 1) y
  · go_wp2_with fail
    go_ret
    exact ⟨by simp [Shape.num, Shape.inside, k2], Ext.refl _⟩
  go_wp2_with fail
  refine (from_c _ _ _ _).mono ?_
  rintro e w0 ⟨rfl, rfl⟩
  cases k3 : inB 0 (s.H - 1) z
  · go_wp2_with fail
    go_ret
    exact ⟨by simp [Shape.num, Shape.inside, k3], Ext.refl _⟩
  have hin : s.inside x y z = true := by simp [Shape.inside, k1, k2, k3]
  have hres : s.num x y z = numOf s.cells (s.idx x y z).toNat := by rw [Shape.num, if_pos hin]
  have hid := s.idx_in ok hin
  obtain ⟨i1, i2, i3, i4, i5, i6, -⟩ := hid
  rw [inB_iff] at k1 k2 k3
  obtain ⟨b, off, rfl, hb, hc⟩ := hn.at_ (numsOf_get (i := (s.idx x y z).toNat) (by omega))
  have ei : (z * s.D + y) * s.W + x = s.idx x y z := rfl
  have hi2 : (s.idx x y z) < (s.cells.length : Int) := i2
  have Hres := Lib.hid hres
  clear hres
  have hw1 : IntKind.i64.wrap (z * s.D) = z * s.D := IntWalk.i64_in _ (by omega)
  have hw2 : IntKind.i64.wrap ((z * s.D + y) * s.W) = (z * s.D + y) * s.W := IntWalk.i64_in _ (by omega)
  have hw3 : IntKind.i64.wrap (s.idx x y z) = s.idx x y z := IntWalk.i64_in _ (by omega)
  go_wp2_with fail
  refine wp_region_grow (by kernel_rfl) (by kernel_rfl) ?_
  repeat (go_big_quiet_step (fail))
  refine wpQuiet_nil ?_
  intro W3 hW3
  have E3 : Ext w W3 := by
    obtain ⟨x, rfl⟩ := hW3
    exact (Ext.refl _).grow x
  clear hW3
  obtain ⟨hcW3, hfW3, hzW3⟩ := ext_facts E3
  go_wp2_with fail
  go_ret
  exact ⟨by rw [Hres.out]; rfl, E3⟩
end Go.Proofs.YtaaeapjnjjbglaaGreatDoor
