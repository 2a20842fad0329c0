/- Knobs of the program; Cells and Knobs of the reference. Conditions: a brick's turn and colour are bytes. The normal brick: the plain function of both sides, and the contract of the reference's like as a name. which: the iterator over the 24 turns and what each makes of (1, 2, 3). The reference's Compose, Inverse, Invert. compose, Compose, Invert of the program. Compose, Invert of the program. Symmetries of the program. No conditions. Symmetries of the reference. No conditions, but that the contract of like is taken as a premise by its name. -/
import Derived.Test.YtenigkngmdofiaaLk6
import Derived.RangeFuncNested
import Derived.RangeFuncBound
import Derived.RangeFuncCalls
import Derived.RangeFuncLeaves
import Derived.Shelf.Abstract
import Derived.Shelf.RegionOpen
import Derived.OwnWalkIn
import Derived.TacticsInMore
import Derived.LoopNIn
import Derived.LoopIn

namespace Go.Proofs.Ytenigkngmdofiaa
open Go.RowKit

def KnobsRes (l : List Knb) (n : Nat) (w : World) (e : Ending) (w' : World) : Prop := ∃ g cap, w.heap.size ≤ g ∧ e = .returned (.tuple #[.slice (some ⟨g, 0, none⟩) n cap, .int .i64 0]) ∧ n ≤ cap ∧ cap ≤ maxLen ∧ RowX w' g 68 (l.map Knb.cs) ∧ Ext w w'
set_option maxRecDepth 100000 in
set_option maxHeartbeats 8000000 in
theorem Knobs_bad (qs : List (Knd × KAt)) (QA : Option Addr) (qc : Nat) (w : World) (hk : Kinds w QA qc qs) (kd x y z t c er : Int) (hb : Brk.byte ⟨kd, ⟨x, y, z⟩, t, c⟩) (he : askedErr (qs.map (·.1)) [⟨kd, ⟨x, y, z⟩, t, c⟩] = er) (h0 : er ≠ 0) :
    Calls Try.prog 26 #[.slice QA qs.length qc, .agg #[.int .i64 kd, .int .i64 x, .int .i64 y, .int .i64 z, .int .u8 t, .int .u8 c]] w fun e w' => e = .returned (.tuple #[.slice none 0 0, .int .i64 er]) ∧ Ext w w' := by
  obtain ⟨W1, hW1, E1, B1, hz1⟩ := mk_ w #[.int .i64 kd, .int .i64 x, .int .i64 y, .int .i64 z, .int .u8 t, .int .u8 c] 42
  have b1 := B1.cell
  have CH := check1_c qs QA qc kd x y z t c W1 (hk.ext E1) hb 42
  rw [he] at CH
  have h1 : (er != 0) = true := by simpa using h0
  clear he h0 hz1
  go_enter Try.func26, Try.ntmps26
  go_wp2_with fail
  refine CH.mono ?_
  rintro e W2 ⟨rfl, E2⟩
  go_wp2_with fail
  go_ret2
  exact ⟨rfl, E1.trans E2⟩
set_option maxRecDepth 100000 in
set_option maxHeartbeats 8000000 in
theorem Knobs_ok (qs : List (Knd × KAt)) (QA : Option Addr) (qc : Nat) (w : World) (hk : Kinds w QA qc qs) (i : Nat) (k : Knd) (p : KAt) (hi : qs[i]? = some (k, p)) (hf : k.Fine) (x y z c : Int) (t : Nat) (hb : Brk.byte ⟨i, ⟨x, y, z⟩, t, c⟩) (he : askedErr (qs.map (·.1)) [⟨i, ⟨x, y, z⟩, t, c⟩] = 0) (ht : t < 24) (hp : Pt.ok ⟨x, y, z⟩) :
    Calls Try.prog 26 #[.slice QA qs.length qc, .agg #[.int .i64 i, .int .i64 x, .int .i64 y, .int .i64 z, .int .u8 t, .int .u8 c]] w (KnobsRes (placeK k.knobs t ⟨x, y, z⟩) k.knobs.length w) := by
  obtain ⟨cells, knobs, wt⟩ := k
  obtain ⟨A, ca, B, cb⟩ := p
  have hil : i < qs.length := (List.getElem?_eq_some_iff.1 hi).1
  have hql : qs.length ≤ 9223372036854775807 := by have := hk.len; unfold maxLen at this; omega
  have hcl : knobs.length ≤ 48 := hf.klen
  obtain ⟨n, hn⟩ : ∃ n, knobs.length = n := ⟨_, rfl⟩
  show Calls _ _ _ _ (KnobsRes (placeK knobs t ⟨x, y, z⟩) knobs.length w)
  rw [hn]
  have Hn := Lib.hid hn
  clear hn
  have hcok : ∀ q ∈ knobs, q.fine := hf.kok
  have hc : Knobs w B cb knobs := (hk.k _ (List.mem_of_getElem? hi)).n
  obtain ⟨W1, hW1, E1, B1, hz1⟩ := mk_ w #[.int .i64 i, .int .i64 x, .int .i64 y, .int .i64 z, .int .u8 t, .int .u8 c] 42
  have b1 := B1.cell
  have CH := check1_c qs QA qc i x y z t c W1 (hk.ext E1) hb 42
  rw [he] at CH
  clear he hz1
  have hml : knobs.length ≤ maxLen := by unfold maxLen; omega
  have f1 : IntKind.i64.wrap (t : Int) = t := IntWalk.i64_in _ (by omega)
  go_enter Try.func26, Try.ntmps26
  go_wp2_with fail
  refine CH.mono ?_
  rintro e W2 ⟨rfl, E2⟩
  have E := E1.trans E2
  have BB := B1.ext E2
  obtain ⟨kg, koff, k', p', rfl, hq, hka, hkg, c0, c1, c2⟩ := (hk.ext E).at_ hil
  rw [hi] at hq
  cases hq
  simp only at c0 c1 c2
  clear CH b1 hW1 B1 E1 E2 hka
  have b1 := BB.cell
  have i1 : (0 : Int) ≤ i := by omega
  have i2 : (i : Int) < qs.length := by omega
  have hn := Hn.out
  have CC : ∀ W, Ext W2 W → Calls Try.prog 67 #[.agg #[.slice A cells.length ca, .slice B n cb, .int .i64 wt], .int .i64 t, .agg #[.int .i64 x, .int .i64 y, .int .i64 z]] W (KnobsPost (placeK knobs t ⟨x, y, z⟩) n W) := fun W EW => by
    subst hn
    exact knobs_c cells.length ca knobs wt A B cb t x y z W (hc.ext (E.trans EW)) (by omega) hcok ht hp
  have HCC := Lib.hid CC
  rw [hn] at c1 hml
  clear CC hn hi hf hc hcok
  go_upto_region 4 with (fail)
  go_region_law (first
    | (go_simp; go_at_call 67; refine (HCC.out _ (Ext.refl W2).drew).mono ?_; rintro e W3 ⟨g, hg, rfl, B3, E3⟩))
  all_goals
    go_wp2_with fail
    go_ret2
    exact ⟨g, n, Nat.le_trans E.size hg, rfl, Nat.le_refl _, hml, rowX_of_blk B3, E.trans (Ext.drew (Ext.refl W2) |>.trans E3)⟩
/-! The reference. -/
def RKnobsRes (l : List Knb) (n : Nat) (w : World) (e : Ending) (w' : World) : Prop := ∃ A cap, e = .returned (.tuple #[.slice A n cap, .int .i64 0]) ∧ SliceIs w' A n cap 5 (l.map Knb.cs) ∧ (∀ q, A = some q → w.heap.size ≤ q.block) ∧ Ext w w'
set_option maxRecDepth 100000 in
set_option maxHeartbeats 8000000 in
theorem rCells_bad (qs : List (Knd × KAt)) (QA : Option Addr) (qc : Nat) (w : World) (hk : Kinds w QA qc qs) (kd x y z t c er : Int) (he : askedErr (qs.map (·.1)) [⟨kd, ⟨x, y, z⟩, t, c⟩] = er) (h0 : er ≠ 0) :
    Calls Try.prog 24 #[.slice QA qs.length qc, .agg #[.int .i64 kd, .int .i64 x, .int .i64 y, .int .i64 z, .int .u8 t, .int .u8 c]] w fun e w' => e = .returned (.tuple #[.slice none 0 0, .int .i64 er]) ∧ Ext w w' := by
  obtain ⟨W1, hW1, E1, B1, hz1⟩ := mk_ w #[.int .i64 kd, .int .i64 x, .int .i64 y, .int .i64 z, .int .u8 t, .int .u8 c] 42
  have b1 := B1.cell
  have CH := rAsked_c qs QA qc kd x y z t c W1 (hk.ext E1)
  rw [he] at CH
  have h1 : (er != 0) = true := by simpa using h0
  clear he h0 hz1
  go_enter Try.func24, Try.ntmps24
  go_wp2_with fail
  refine CH.mono ?_
  rintro e W2 ⟨rfl, E2⟩
  go_wp2_with fail
  go_ret2
  exact ⟨rfl, E1.trans E2⟩
set_option maxRecDepth 100000 in
set_option maxHeartbeats 8000000 in
theorem rKnobs_bad (qs : List (Knd × KAt)) (QA : Option Addr) (qc : Nat) (w : World) (hk : Kinds w QA qc qs) (kd x y z t c er : Int) (he : askedErr (qs.map (·.1)) [⟨kd, ⟨x, y, z⟩, t, c⟩] = er) (h0 : er ≠ 0) :
    Calls Try.prog 27 #[.slice QA qs.length qc, .agg #[.int .i64 kd, .int .i64 x, .int .i64 y, .int .i64 z, .int .u8 t, .int .u8 c]] w fun e w' => e = .returned (.tuple #[.slice none 0 0, .int .i64 er]) ∧ Ext w w' := by
  obtain ⟨W1, hW1, E1, B1, hz1⟩ := mk_ w #[.int .i64 kd, .int .i64 x, .int .i64 y, .int .i64 z, .int .u8 t, .int .u8 c] 42
  have b1 := B1.cell
  have CH := rAsked_c qs QA qc kd x y z t c W1 (hk.ext E1)
  rw [he] at CH
  have h1 : (er != 0) = true := by simpa using h0
  clear he h0 hz1
  go_enter Try.func27, Try.ntmps27
  go_wp2_with fail
  refine CH.mono ?_
  rintro e W2 ⟨rfl, E2⟩
  go_wp2_with fail
  go_ret2
  exact ⟨rfl, E1.trans E2⟩
set_option maxRecDepth 100000 in
set_option maxHeartbeats 8000000 in
theorem rCells_ok (qs : List (Knd × KAt)) (QA : Option Addr) (qc : Nat) (w : World) (hk : Kinds w QA qc qs) (i : Nat) (k : Knd) (p : KAt) (hi : qs[i]? = some (k, p)) (hf : k.Fine) (x y z c : Int) (t : Nat) (he : askedErr (qs.map (·.1)) [⟨i, ⟨x, y, z⟩, t, c⟩] = 0) (ht : t < 24) (hp : Pt.ok ⟨x, y, z⟩) :
    Calls Try.prog 24 #[.slice QA qs.length qc, .agg #[.int .i64 i, .int .i64 x, .int .i64 y, .int .i64 z, .int .u8 t, .int .u8 c]] w (CellsRes (sortP (placeP k.cells t ⟨x, y, z⟩)) k.cells.length w) := by
  obtain ⟨cells, knobs, wt⟩ := k
  obtain ⟨A, ca, B, cb⟩ := p
  obtain ⟨W1, hW1, E1, B1, hz1⟩ := mk_ w #[.int .i64 i, .int .i64 x, .int .i64 y, .int .i64 z, .int .u8 t, .int .u8 c] 42
  have b1 := B1.cell
  have CH := rAsked_c qs QA qc i x y z t c W1 (hk.ext E1)
  rw [he] at CH
  have PL := Lib.hid (fun W (EW : Ext w W) => rPlaced_c qs QA qc i cells knobs wt A ca B cb hi t x y z c W (hk.ext EW) hf.pos (Nat.le_trans hf.len (by omega)) hf.cok ht hp)
  clear he hz1 hi hf
  go_enter Try.func24, Try.ntmps24
  go_wp2_with fail
  refine CH.mono ?_
  rintro e W2 ⟨rfl, E2⟩
  have b2 := (B1.ext E2).cell
  go_wp2_with fail
  refine (PL.out _ (E1.trans E2)).mono ?_
  rintro e W3 ⟨g, cap, hg, rfl, q1, q2, X, E3⟩
  go_wp2_with fail
  go_ret2
  exact ⟨g, cap, Nat.le_trans (E1.trans E2).size hg, rfl, q1, q2, X, (E1.trans E2).trans E3⟩
set_option maxRecDepth 100000 in
set_option maxHeartbeats 8000000 in
theorem rKnobs_ok (qs : List (Knd × KAt)) (QA : Option Addr) (qc : Nat) (w : World) (hk : Kinds w QA qc qs) (i : Nat) (k : Knd) (p : KAt) (hi : qs[i]? = some (k, p)) (hf : k.Fine) (x y z c : Int) (t : Nat) (he : askedErr (qs.map (·.1)) [⟨i, ⟨x, y, z⟩, t, c⟩] = 0) (ht : t < 24) (hp : Pt.ok ⟨x, y, z⟩) :
    Calls Try.prog 27 #[.slice QA qs.length qc, .agg #[.int .i64 i, .int .i64 x, .int .i64 y, .int .i64 z, .int .u8 t, .int .u8 c]] w (RKnobsRes (placeK k.knobs t ⟨x, y, z⟩) k.knobs.length w) := by
  obtain ⟨cells, knobs, wt⟩ := k
  obtain ⟨A, ca, B, cb⟩ := p
  obtain ⟨W1, hW1, E1, B1, hz1⟩ := mk_ w #[.int .i64 i, .int .i64 x, .int .i64 y, .int .i64 z, .int .u8 t, .int .u8 c] 42
  have b1 := B1.cell
  have CH := rAsked_c qs QA qc i x y z t c W1 (hk.ext E1)
  rw [he] at CH
  have PL := Lib.hid (fun W (EW : Ext w W) => rKnobbed_c qs QA qc i cells knobs wt A ca B cb hi t x y z c W (hk.ext EW) (Nat.le_trans hf.klen (by omega)) hf.kok ht hp)
  clear he hz1 hi hf
  go_enter Try.func27, Try.ntmps27
  go_wp2_with fail
  refine CH.mono ?_
  rintro e W2 ⟨rfl, E2⟩
  have b2 := (B1.ext E2).cell
  go_wp2_with fail
  refine (PL.out _ (E1.trans E2)).mono ?_
  rintro e W3 ⟨RA, cap, rfl, hs, hg, E3⟩
  go_wp2_with fail
  go_ret2
  exact ⟨RA, cap, rfl, hs, fun q hq => Nat.le_trans (E1.trans E2).size (hg q hq), (E1.trans E2).trans E3⟩
end Go.Proofs.Ytenigkngmdofiaa

namespace Go.Proofs.Ytenigkngmdofiaa
open Go.RowKit

/-- The place and the turn of the normal brick. -/
def normQ (k : Knd) (bt : Nat) (p : Pt) : Pt × Nat :=
  match (List.range 24).find? (fun n => likeB k bt p n) with
  | some n => if nearB (likeAt k bt p n) (-1000) 1000 then (likeAt k bt p n, n) else (p, bt)
  | none => (p, bt)
theorem normQ_hit {k : Knd} {bt : Nat} {p : Pt} {n : Nat} (hn : n < 24) (h0 : ∀ m, m < n → likeB k bt p m = false) (h1 : likeB k bt p n = true) : normQ k bt p = if nearB (likeAt k bt p n) (-1000) 1000 then (likeAt k bt p n, n) else (p, bt) := by
  have h : (List.range 24).find? (fun n => likeB k bt p n) = some n := by
    rw [List.find?_eq_some_iff_getElem]
    refine ⟨h1, n, by simpa using hn, by simp, fun j hj => ?_⟩
    simp [h0 j hj]
  unfold normQ
  rw [h]
theorem normQ_none {k : Knd} {bt : Nat} {p : Pt} (h0 : ∀ m, m < 24 → likeB k bt p m = false) : normQ k bt p = (p, bt) := by
  have h : (List.range 24).find? (fun n => likeB k bt p n) = none := by
    rw [List.find?_eq_none]
    intro m hm
    simp [h0 m (List.mem_range.1 hm)]
  unfold normQ
  rw [h]
theorem normQ_lt {k : Knd} {bt : Nat} {p : Pt} (h : bt < 24) : (normQ k bt p).2 < 24 := by
  unfold normQ
  split
  · rename_i n hn
    split
    · exact List.mem_range.1 (List.mem_of_find?_eq_some hn)
    · exact h
  · exact h
/-- What the reference's like returns. -/
def RLikePost (k : Knd) (i : Int) (bt : Nat) (p : Pt) (n : Nat) (bc : Int) (w : World) (e : Ending) (w' : World) : Prop :=
  e = .returned (.tuple #[.agg #[.int .i64 i, .int .i64 (likeAt k bt p n).x, .int .i64 (likeAt k bt p n).y, .int .i64 (likeAt k bt p n).z, .int .u8 n, .int .u8 bc], .bool (likeB k bt p n)]) ∧ Ext w w'
/-- The contract of the reference's like. -/
def RLikeOk : Prop := ∀ (qs : List (Knd × KAt)) (QA : Option Addr) (qc : Nat) (i : Nat) (k : Knd) (p : KAt), qs[i]? = some (k, p) → ∀ (w : World), Kinds w QA qc qs → k.Fine → ∀ (x y z bc : Int) (bt n : Nat), bt < 24 → n < 24 → Pt.in_ 1000 ⟨x, y, z⟩ →
    Calls Try.prog 62 #[.slice QA qs.length qc, .agg #[.int .i64 i, .int .i64 x, .int .i64 y, .int .i64 z, .int .u8 bt, .int .u8 bc], .int .i64 n] w (RLikePost k i bt ⟨x, y, z⟩ n bc w)
end Go.Proofs.Ytenigkngmdofiaa

namespace Go.Proofs.Ytenigkngmdofiaa
open Go.RowKit Go.Shelf
attribute [local go_sem] Oper.semAt_some

theorem ext_grownBy {A B : World} (h : Ext A B) (row : Option Nat) : A.grownBy B row := ⟨h.1, h.2, h.3, h.size, fun k hk _ => h.block k hk⟩
theorem ext_keeps {A B : World} (h : Ext A B) : KeepsOthers A B := ⟨h.size, fun k _ hk _ => (h.block k (Array.getElem?_eq_some_iff.1 hk).1).trans hk⟩

/-- What a turn makes of (1, 2, 3). -/
def p123 : Pt := ⟨1, 2, 3⟩
theorem p123_ok : p123.ok := by
  unfold p123 Pt.ok CB
  simp
def at123 (n : Nat) : Value := .agg #[.int .i64 (turnS p123 n).x, .int .i64 (turnS p123 n).y, .int .i64 (turnS p123 n).z]
abbrev encW (x : Fin 24) : Array Value := #[.int .i64 (x.val : Int), at123 x.val]
/-- The first k of the turns. -/
def upto (k : Nat) : List (Fin 24) := (List.finRange 24).take k
theorem upto_succ {k : Nat} (h : k < 24) : upto (k + 1) = upto k ++ [⟨k, h⟩] := by
  unfold upto
  rw [List.take_add_one]
  simp [h]
theorem upto_len {k : Nat} (h : k ≤ 24) : (upto k).length = k := by
  simp [upto]
  omega

set_option maxRecDepth 100000 in
set_option maxHeartbeats 2000000 in
theorem which1_in (n : Nat) (hn : 1 ≤ n) (l : Nat) (J Jx : List (Fin 24) → World → Prop)
    (hJ : ∀ s A B, J s A → Ext A B → J s B) (Kp : World → World → Prop)
    (hY : ∀ pre x W, J pre W → pre.length < 24 → YieldAt Fence.wide (n - 1) Try.prog l (encW x) W fun e W' =>
      (e = .returned (.bool true) ∧ J (pre ++ [x]) W' ∧ Kp W W') ∨ (e = .returned (.bool false) ∧ Jx (pre ++ [x]) W'))
    (W : World) (h0 : J [] W) :
    CallsIn Fence.wide n Try.prog 82 #[.func (.yield l) #[] #[]] W fun e W' => (∃ v, e = .returned v) ∧
      ((∃ ys, ys = upto 24 ∧ J ys W') ∨ (∃ pre, pre <+: upto 24 ∧ Jx pre W')) := by
  refine callsIn_of_wp Try.func82 rfl trivial ?_ rfl
  simp only [Try.ntmps82, List.size_toArray, List.length_cons, List.length_nil, Nat.reduceAdd, Nat.reduceSub, Array.replicate_succ, Array.replicate_zero, List.push_toArray, List.append_toArray, List.nil_append, List.cons_append]
  gi_wp2
  gi_loopw [3] (fun i wr => ∃ k : Nat, k ≤ 24 ∧ i = .int .i64 k ∧ J (upto k) wr) (fun i _ => 24 - (intOf i).toNat)
  case atStart => exact ⟨0, by omega, rfl, h0⟩
  case round =>
    obtain ⟨k, hk, rfl, hJs⟩ := hrel
    by_cases h : k < 24
    · have hl : (upto k).length < 24 := by rw [upto_len (by omega)]; exact h
      have hi : (k : Int) < 24 := by omega
      have hY' := fun w1 (E : Ext wr w1) => hY (upto k) ⟨k, h⟩ w1 (hJ _ _ _ hJs E) hl
      clear hY
      gi_wp2_with (refine ⟨trivial, ?_⟩; gi_at_call 43; refine (callsIn_wide.2 (turn_c 1 2 3 k _ h p123_ok)).mono ?_; rintro e w1 ⟨rfl, E1⟩; obtain ⟨fn, tmps, assign, body, hy, hR⟩ := hY' w1 E1; dsimp only [encW, at123, p123] at hy)
      refine hR.mono ?_
      rintro e W3 (⟨rfl, hJ3, -⟩ | ⟨rfl, hJx3⟩)
      · gi_wp2
        go_roundw
        case rel => exact ⟨k + 1, by omega, rfl, by rw [upto_succ h]; exact hJ3⟩
        case measure => rw [intOf, intOf]; omega
      · gi_wp2
        refine bodyPost_ret (results_none rfl _ _ _) rfl ?_
        refine ⟨⟨_, rfl⟩, .inr ⟨_, ?_, hJx3⟩⟩
        rw [← upto_succ h]
        exact List.take_prefix_take_left (by omega)
    · obtain rfl : k = 24 := by omega
      gi_wp2
      go_end0
      exact ⟨⟨_, rfl⟩, .inl ⟨_, rfl, hJs⟩⟩

theorem which_stops (n : Nat) (hn : 1 ≤ n) (Kp : World → World → Prop) (w : World) :
    SeqStopsK Fence.wide n Try.prog 82 #[] encW Kp (fun ys => ys = upto 24) (fun pre => pre <+: upto 24) 24 w := fun l J Jx W _ hJ _ hY h0 =>
  which1_in n hn l J Jx (fun s A B hs hE => hJ s A B none hs (ext_grownBy hE none) (fun r e => by cases e)) Kp hY W h0

theorem which_c (w : World) : Calls Try.prog 53 #[] w fun e w' => e = .returned (.func (.func 82) #[] #[]) ∧ w' = w := by
  go_enter Try.func53, Try.ntmps53
  go_wp2
  go_ret
  exact ⟨rfl, rfl⟩
end Go.Proofs.Ytenigkngmdofiaa

namespace Go.Proofs.Ytenigkngmdofiaa
open Go.RowKit

/-- The turn that undoes a. -/
def invT (a : Nat) : Nat := ((List.range 24).find? fun n => compT a n == 0).getD 0

set_option maxHeartbeats 800000 in
theorem inverse_c (a : Nat) (ha : a < 24) (w : World) :
    Calls Try.prog 54 #[.int .i64 a] w fun e w' => e = .returned (.int .i64 (invT a)) ∧ Ext w w' := by
  go_enter Try.func54, Try.ntmps54
  go_wp2
  go_loopw [3] (fun i wr => ∃ k : Nat, k ≤ 24 ∧ i = .int .i64 k ∧ Ext w wr ∧ ∀ j, j < k → (compT a j == 0) = false) (fun i _ => 24 - (intOf i).toNat)
  case atStart => exact ⟨0, by omega, rfl, Ext.refl _, fun j hj => by omega⟩
  case round =>
    obtain ⟨k, hk, rfl, E1, hj⟩ := hrel
    have Hj := Lib.hid hj
    clear hj
    by_cases hlt : k < 24
    · by_cases hc : compT a k = 0
      · have hf : invT a = k := by rw [invT, find_at _ 24 k hlt Hj.out (by simp [hc])]; rfl
        have Hf := Lib.hid hf
        have Hc := Lib.hid hc
        clear hf hc
        go_wp2_with (go_at_call 52; refine (composed_c a k ha hlt _).mono ?_; rintro e w1 ⟨rfl, E2⟩; rw [Hc.out])
        go_ret
        exact ⟨by rw [Hf.out]; rfl, E1.trans E2⟩
      · have hz : ((compT a k : Int) == 0) = false := by simp [hc]
        have Hc := Lib.hid hc
        clear hc
        go_wp2_with (go_at_call 52; refine (composed_c a k ha hlt _).mono ?_; rintro e w1 ⟨rfl, E2⟩)
        go_roundw
        case rel =>
          refine ⟨k + 1, by omega, by go_num, E1.trans E2, fun j hj => ?_⟩
          rcases Nat.lt_or_ge j k with h | h
          · exact Hj.out j h
          · obtain rfl : j = k := by omega
            simp [Hc.out]
        case measure => simp [intOf]; omega
    · obtain rfl : k = 24 := by omega
      have hf : invT a = 0 := by rw [invT, find_no _ 24 Hj.out]; rfl
      have Hf := Lib.hid hf
      clear hf
      go_wp2
      go_ret
      exact ⟨by rw [Hf.out]; rfl, E1⟩

set_option maxHeartbeats 400000 in
theorem rInvert_ok (a : Nat) (ha : a < 24) (w : World) :
    Calls Try.prog 13 #[.int .i64 a] w fun e w' => e = .returned (.tuple #[.int .i64 (invT a), .int .i64 0]) ∧ Ext w w' := by
  have hi : inB 0 23 (a : Int) = true := inB_iff.2 (by omega)
  go_enter Try.func13, Try.ntmps13
  go_wp2_with (first | (go_at_call 45; refine (risTurn_c _ _).mono ?_; rintro e w' ⟨rfl, rfl⟩) | (go_at_call 54; refine (inverse_c a ha _).mono ?_; rintro e w1 ⟨rfl, E1⟩))
  go_ret2
  exact ⟨rfl, E1⟩
set_option maxHeartbeats 400000 in
theorem rInvert_bad (a : Int) (ha : ¬ (0 ≤ a ∧ a < 24)) (w : World) :
    Calls Try.prog 13 #[.int .i64 a] w fun e w' => e = .returned (.tuple #[.int .i64 0, .int .i64 2]) ∧ Ext w w' := by
  have hi : inB 0 23 a = false := inB_not.2 (by omega)
  go_enter Try.func13, Try.ntmps13
  go_wp2_with (first | (go_at_call 45; refine (risTurn_c _ _).mono ?_; rintro e w' ⟨rfl, rfl⟩))
  go_ret2
  exact ⟨rfl, Ext.refl _⟩
set_option maxHeartbeats 400000 in
theorem rCompose_ok (a b : Nat) (ha : a < 24) (hb : b < 24) (w : World) :
    Calls Try.prog 11 #[.int .i64 a, .int .i64 b] w fun e w' => e = .returned (.tuple #[.int .i64 (compT a b), .int .i64 0]) ∧ Ext w w' := by
  have hi : inB 0 23 (a : Int) = true := inB_iff.2 (by omega)
  have hj : inB 0 23 (b : Int) = true := inB_iff.2 (by omega)
  go_enter Try.func11, Try.ntmps11
  go_wp2_with (first | (go_at_call 45; refine (risTurn_c _ _).mono ?_; rintro e w' ⟨rfl, rfl⟩) | (go_at_call 52; refine (composed_c a b ha hb _).mono ?_; rintro e w1 ⟨rfl, E1⟩))
  go_ret2
  exact ⟨rfl, E1⟩
set_option maxHeartbeats 400000 in
theorem rCompose_bad (a b : Int) (hb : ¬ ((0 ≤ a ∧ a < 24) ∧ 0 ≤ b ∧ b < 24)) (w : World) :
    Calls Try.prog 11 #[.int .i64 a, .int .i64 b] w fun e w' => e = .returned (.tuple #[.int .i64 0, .int .i64 2]) ∧ Ext w w' := by
  cases hj : inB 0 23 a
  · clear hb
    go_enter Try.func11, Try.ntmps11
    go_wp2_with (first | (go_at_call 45; refine (risTurn_c _ _).mono ?_; rintro e w' ⟨rfl, rfl⟩))
    go_ret2
    exact ⟨rfl, Ext.refl _⟩
  · have hi : inB 0 23 b = false := inB_not.2 (fun h => hb ⟨by have := inB_iff.1 hj; omega, by omega⟩)
    clear hb
    go_enter Try.func11, Try.ntmps11
    go_wp2_with (first | (go_at_call 45; refine (risTurn_c _ _).mono ?_; rintro e w' ⟨rfl, rfl⟩))
    go_ret2
    exact ⟨rfl, Ext.refl _⟩
end Go.Proofs.Ytenigkngmdofiaa

namespace Go.Proofs.Ytenigkngmdofiaa
open Go.RowKit Go.Shelf
attribute [local go_sem] Oper.semAt_some

deriving instance DecidableEq for Pt
theorem turn123_inj : ∀ a, a < 24 → ∀ b, b < 24 → turnS p123 a = turnS p123 b → a = b := by decide +kernel
theorem compT_spec : ∀ a, a < 24 → ∀ b, b < 24 → turnS p123 (compT a b) = turnS (turnS p123 a) b ∧ compT a b < 24 := by decide +kernel
theorem invT_spec : ∀ a, a < 24 → turnS (turnS p123 (invT a)) a = p123 ∧ invT a < 24 := by decide +kernel
theorem inv123_inj : ∀ a, a < 24 → ∀ b, b < 24 → turnS (turnS p123 b) a = p123 → b = invT a := by decide +kernel

theorem blk_own {β : Type} (g : Nat) (t : TypeId) (cs : Array Value) : Own (fun (_ : β) W => Blk W g t cs) := fun s X Y row h hg hr => h.grown hg (fun e => by
  obtain ⟨o, ho, hc⟩ := hr g e.symm
  rw [show X.heap[g]? = _ from h] at ho
  cases ho
  cases hc)
theorem mem_upto (x : Fin 24) : x ∈ upto 24 := by
  unfold upto
  rw [List.take_of_length_le (by simp)]
  exact List.mem_finRange x
theorem ok_at123 {n : Nat} : (turnS p123 n).ok := turnS_ok p123_ok n

set_option maxRecDepth 100000 in
set_option maxHeartbeats 2000000 in
theorem compose_c (a b : Nat) (ha : a < 24) (hb : b < 24) (w : World) :
    Calls Try.prog 51 #[.int .i64 a, .int .i64 b] w fun e w' => e = .returned (.int .i64 (compT a b)) ∧ Ext w w' := by
  refine (callsIn_wide (n := 5)).1 ?_
  refine callsIn_of_wp_marks Try.func51 rfl trivial ?_ rfl
  simp only [Try.ntmps51, List.size_toArray, List.length_cons, List.length_nil, Nat.reduceAdd, Nat.reduceSub, Array.replicate_succ, Array.replicate_zero, List.push_toArray, List.append_toArray, List.nil_append, List.cons_append]
  have hok := @ok_at123 a
  have Hs := Lib.hid (compT_spec a ha b hb)
  gi_wp2_with fail
  refine ⟨trivial, ?_⟩
  gi_at_call 43
  refine (callsIn_wide.2 (turn_c 1 2 3 a _ ha p123_ok)).mono ?_
  rintro e w1 ⟨rfl, E1⟩
  obtain ⟨q, hq⟩ : ∃ q, turnS ⟨1, 2, 3⟩ a = q := ⟨_, rfl⟩
  rw [show turnS p123 a = q from hq] at hok
  have Hq := Lib.hid hq
  rw [hq]
  clear hq
  gi_wp2_with fail
  refine ⟨trivial, ?_⟩
  gi_at_call 43
  refine (callsIn_wide.2 (turn_c q.x q.y q.z b _ hb hok)).mono ?_
  rintro e w2 ⟨rfl, E2⟩
  obtain ⟨r, hr⟩ : ∃ r, turnS ⟨q.x, q.y, q.z⟩ b = r := ⟨_, rfl⟩
  have Hr := Lib.hid hr
  rw [hr]
  clear hr
  gi_wp2_with (refine ⟨trivial, ?_⟩; gi_at_call 53; refine (callsIn_wide.2 (which_c _)).mono ?_; rintro e w3 ⟨rfl, rfl⟩)
  have hsz2 := E2.size
  have hsz1 := E1.size
  rw [World.size_alloc] at hsz1
  have B4 := ((((Blk.new w #[.int .i64 0] 3).ext E1).ext E2).alloc (.cells #[.int .i64 r.x, .int .i64 r.y, .int .i64 r.z] 23))
  have B5 := Blk.new w2 #[.int .i64 r.x, .int .i64 r.y, .int .i64 r.z] 23
  have hE0 : Ext w (w2.alloc (.cells #[.int .i64 r.x, .int .i64 r.y, .int .i64 r.z] 23)) := (((((Ext.refl w).alloc _).trans E1).trans E2).alloc _)
  have hsz : (w2.alloc (.cells #[.int .i64 r.x, .int .i64 r.y, .int .i64 r.z] 23)).heap.size = w2.heap.size + 1 := by simp
  obtain ⟨W0, hW0⟩ : ∃ W0, w2.alloc (.cells #[.int .i64 r.x, .int .i64 r.y, .int .i64 r.z] 23) = W0 := ⟨_, rfl⟩
  rw [hW0] at B4 B5 hE0 hsz ⊢
  clear hW0
  refine wpIn_rangeFunc_ownH rfl (by omega) (gf := 82) (lb := #[]) rfl trivial (enters_of Try.func82 (by kernel_rfl) rfl)
    (which_stops _ (by omega) (fun _ _ => True) W0) (fun _ _ => trivial) (fun _ _ _ _ _ _ _ _ => trivial) (Below.refl _ _) (fun _ => rfl)
    (fun pre W => ((Blk W w.heap.size 3 #[.int .i64 0] ∧ Blk W w2.heap.size 23 #[.int .i64 r.x, .int .i64 r.y, .int .i64 r.z]) ∧ Ext w W) ∧ ∀ y ∈ pre, turnS p123 y.val ≠ r)
    (fun c _ W => (∃ x : Fin 24, Blk W w.heap.size 3 #[.int .i64 (x.val : Int)] ∧ turnS p123 x.val = r ∧ c = .ret) ∧ Ext w W)
    (OwnFrom.and (OwnFrom.and (OwnFrom.and (Own.from (blk_own _ _ _) _) (Own.from (blk_own _ _ _) _)) (ownFrom_below (Nat.le_refl _) (by omega))) (ownFrom_pure _ _))
    (fun c => OwnFrom.and (fun s X Y row hs hg hr => by
      obtain ⟨x, h, h'⟩ := hs
      exact ⟨x, blk_own _ _ _ () X Y row h hg (fun r e => (hr r e).2), h'⟩) (ownFrom_below (Nat.le_refl _) (by omega)))
    ⟨⟨⟨B4, B5⟩, hE0⟩, fun _ h => by cases h⟩
    (fun x a' W => ∃ g, W0.heap.size ≤ g ∧ Blk W g 23 #[.int .i64 (turnS p123 x.val).x, .int .i64 (turnS p123 x.val).y, .int .i64 (turnS p123 x.val).z] ∧
      a' = { tmps := #[.int .i64 a, .int .i64 b, undef, undef, .pointer (some ⟨w.heap.size, 0, none⟩), .pointer (some ⟨w2.heap.size, 0, none⟩), .int .i64 (x.val : Int), .pointer (some ⟨g, 0, none⟩), .agg #[.int .i64 1, .int .i64 2, .int .i64 3], .int .i64 a, .agg #[.int .i64 q.x, .int .i64 q.y, .int .i64 q.z], .int .i64 b, .agg #[.int .i64 r.x, .int .i64 r.y, .int .i64 r.z], .func (.func 82) #[] #[], .int .i64 (x.val : Int), at123 x.val, undef, undef, undef, undef], defers := [] })
    (fun x a' _ X Y row hs hg hr => by
      obtain ⟨g, h1, h2, h3⟩ := hs
      exact ⟨g, h1, blk_own _ _ _ () X Y row h2 hg (fun r e => (hr r e).2), h3⟩)
    ?assign ?body ?done ?stop
  case assign =>
    rintro l pre x W K ⟨⟨⟨C4, C5⟩, hE⟩, hne⟩ hK
    have h5 := hE.size
    have h4 := C5.lt
    dsimp only [encW, at123]
    gi_wp2
    exact hK _ _ ((KeepsOthers.alloc _ _).from _) trivial ⟨⟨⟨C4.alloc _, C5.alloc _⟩, hE.alloc _⟩, hne⟩ ⟨W.heap.size, by omega, Blk.new _ _ _, rfl⟩
  case body =>
    rintro l pre x a' W hl - ⟨⟨⟨C4, C5⟩, hE⟩, hne⟩ ⟨g, hg, C7, rfl⟩ -
    have Hne := Lib.hid hne
    clear hne
    obtain ⟨p, hp⟩ : ∃ p, turnS p123 x.val = p := ⟨_, rfl⟩
    have Hp := Lib.hid hp
    rw [hp] at C7
    have hat : at123 x.val = .agg #[.int .i64 p.x, .int .i64 p.y, .int .i64 p.z] := by rw [← hp]; rfl
    rw [hat]
    clear hat hp
    have c4 := C4.cell
    have f4 := C4.frozen
    have c5 := C5.cell
    have c7 := C7.cell
    have hq : ∀ w, (binOp .eql 23 (.agg #[.int .i64 p.x, .int .i64 p.y, .int .i64 p.z]) (.agg #[.int .i64 r.x, .int .i64 r.y, .int .i64 r.z])).run Try.prog w = .ok (.bool (Pt.eqB p r)) w := fun w => pt_eql _ _ _ _ _ _ _
    by_cases h : Pt.eqB p r = true
    · rw [h] at hq
      gi_wp2
      exact ⟨(KeepsOthers.setCell _ _ _).from _, ⟨x, C4.set_ 0 _, Hp.out.trans (Pt.eqB_iff.1 h), rfl⟩, hE.setCell (Nat.le_refl _) _⟩
    · have h' : Pt.eqB p r = false := by simpa using h
      rw [h'] at hq
      gi_wp2
      refine ⟨KeepsFrom.refl _ _, trivial, ⟨⟨C4, C5⟩, hE⟩, fun y hy => ?_⟩
      rcases List.mem_append.1 hy with hy | hy
      · exact Hne.out y hy
      · obtain rfl : y = x := by simpa using hy
        rw [Hp.out]
        exact fun e => h (Pt.eqB_iff.2 e)
  case done =>
    rintro D ys W hD rfl ⟨-, hne⟩ hK
    obtain ⟨h1, h2⟩ := Hs.out
    refine absurd ?_ (hne ⟨compT a b, h2⟩ (mem_upto _))
    rw [h1, show turnS p123 a = q from Hq.out]
    exact Hr.out
  case stop =>
    rintro D c pre W hD hpre ⟨⟨x, C4, hx, rfl⟩, hE⟩ hK
    gi_wp2
    refine ⟨by simp, .inl ⟨_, _, rfl, run_takeDeferred hK, ?_⟩⟩
    have C4' : Blk (W.putObj D (.deferred none)) w.heap.size 3 #[.int .i64 (x.val : Int)] := C4.grown (grownBy_putObj' W D _) (fun e => by cases e; rw [show W.heap[w.heap.size]? = _ from C4] at hK; cases hK)
    have c4 := C4'.cell
    refine ⟨.int .i64 (x.val : Int), by simp [results, Try.results51, go_sem, c4], ?_, Below.trans hE (belowK_b (w := w) (Nat.le_refl _) W D _ _ (by omega) hK rfl rfl)⟩
    obtain ⟨h1, h2⟩ := Hs.out
    rw [turn123_inj x.val x.isLt _ h2 (by rw [hx, h1, show turnS p123 a = q from Hq.out]; exact Hr.out.symm)]
end Go.Proofs.Ytenigkngmdofiaa

namespace Go.Proofs.Ytenigkngmdofiaa
open Go.RowKit Go.Shelf
attribute [local go_sem] Oper.semAt_some

theorem ints2 (w : World) (m n : Int) (t : TypeId) : SliceIs (w.alloc (.cells #[.int .i64 m, .int .i64 n] t)) (some ⟨w.heap.size, 0, none⟩) 2 2 1 ([m, n].map fun n => [.int .i64 n]) := by
  refine ⟨rfl, Nat.le_refl _, by unfold maxLen; omega, by simp, fun _ => ⟨_, 0, rfl, by simp, fun i r hr j u hu => ?_⟩⟩
  have hi : i = 0 ∨ i = 1 := by
    rcases Nat.lt_or_ge i 2 with h | h
    · omega
    · rw [List.getElem?_eq_none (by simp; omega)] at hr; cases hr
  rcases hi with rfl | rfl <;>
  · simp at hr
    subst hr
    have hj : j = 0 := by
      rcases Nat.eq_zero_or_pos j with h | h
      · exact h
      · rw [List.getElem?_eq_none (by simp; omega)] at hu; cases hu
    subst hj
    simp at hu
    subst hu
    rw [cell_new]
    rfl
theorem isTurn2_c (w : World) (m n : Int) (t : TypeId) :
    Calls Try.prog 42 #[.slice (some ⟨w.heap.size, 0, none⟩) 2 2] (w.alloc (.cells #[.int .i64 m, .int .i64 n] t)) fun e w' => e = .returned (.bool (inB 0 23 m && inB 0 23 n)) ∧ w.alloc (.cells #[.int .i64 m, .int .i64 n] t) = w' :=
  (isTurn_c _ 2 [m, n] _ (ints2 w m n t)).mono fun e w' ⟨he, hw⟩ => ⟨by rw [he]; simp [allTurn], hw⟩

set_option maxHeartbeats 400000 in
theorem Compose_ok (a b : Nat) (ha : a < 24) (hb : b < 24) (w : World) :
    Calls Try.prog 10 #[.int .i64 a, .int .i64 b] w fun e w' => e = .returned (.tuple #[.int .i64 (compT a b), .int .i64 0]) ∧ Ext w w' := by
  have hi : (inB 0 23 (a : Int) && inB 0 23 (b : Int)) = true := by rw [inB_iff.2 (by omega), inB_iff.2 (by omega)]; rfl
  go_enter Try.func10, Try.ntmps10
  go_wp2_with fail
  refine (isTurn2_c w a b _).mono ?_
  rintro e w2 ⟨rfl, rfl⟩
  go_wp2_with fail
  refine (compose_c a b ha hb _).mono ?_
  rintro e w1 ⟨rfl, E1⟩
  go_wp2_with fail
  go_ret2
  exact ⟨rfl, ((Ext.refl w).alloc _).trans E1⟩
set_option maxHeartbeats 400000 in
theorem Compose_bad (a b : Int) (hb : ¬ ((0 ≤ a ∧ a < 24) ∧ 0 ≤ b ∧ b < 24)) (w : World) :
    Calls Try.prog 10 #[.int .i64 a, .int .i64 b] w fun e w' => e = .returned (.tuple #[.int .i64 0, .int .i64 2]) ∧ Ext w w' := by
  have hi : (inB 0 23 (a : Int) && inB 0 23 (b : Int)) = false := by
    cases ha : inB 0 23 a
    · rfl
    · exact inB_not.2 (fun h => hb ⟨by have := inB_iff.1 ha; omega, by omega⟩)
  clear hb
  go_enter Try.func10, Try.ntmps10
  go_wp2_with fail
  refine (isTurn2_c w a b _).mono ?_
  rintro e w2 ⟨rfl, rfl⟩
  go_wp2_with fail
  go_ret2
  exact ⟨rfl, (Ext.refl w).alloc _⟩
theorem blocks3 (w : World) (a b c : Array Value) (t u v : TypeId) : ∃ W, ((w.alloc (.cells a t)).alloc (.cells b u)).alloc (.cells c v) = W ∧ W.heap.size = w.heap.size + 1 + 1 + 1 ∧
    Blk W w.heap.size t a ∧ Blk W (w.heap.size + 1) u b ∧ Blk W (w.heap.size + 1 + 1) v c ∧ Ext w W := by
  refine ⟨_, rfl, by simp, ((Blk.new _ _ _).alloc _).alloc _, ?_, ?_, (((Ext.refl w).alloc _).alloc _).alloc _⟩
  · have := (Blk.new (w.alloc (.cells a t)) b u).alloc (.cells c v)
    rwa [World.size_alloc] at this
  · have := Blk.new ((w.alloc (.cells a t)).alloc (.cells b u)) c v
    rwa [World.size_alloc, World.size_alloc] at this
theorem kept2 {V w : World} {g h : Nat} {t u : TypeId} {a b c d : Value} (hg : Blk V g t #[a]) (hh : Blk V h u #[b]) (hne : g ≠ h) (hE : Ext w V) (h1 : w.heap.size ≤ g) (h2 : w.heap.size ≤ h) :
    ∃ V', (V.setCell ⟨g, 0, none⟩ c).setCell ⟨h, 0, none⟩ d = V' ∧ Blk V' g t #[c] ∧ Blk V' h u #[d] ∧ Ext w V' ∧ KeepsOthers V V' :=
  ⟨_, rfl, (hg.set_ 0 c).far hne _, (hh.far (fun e => hne e.symm) _).set_ 0 d, (hE.setCell h1 _).setCell h2 _, (KeepsOthers.setCell _ _ _).trans (KeepsOthers.setCell _ _ _)⟩

set_option maxHeartbeats 400000 in
theorem Invert_bad (a : Int) (ha : ¬ (0 ≤ a ∧ a < 24)) (w : World) :
    Calls Try.prog 12 #[.int .i64 a] w fun e w' => e = .returned (.tuple #[.int .i64 0, .int .i64 2]) ∧ Ext w w' := by
  have hi : inB 0 23 a = false := inB_not.2 (by omega)
  refine (callsIn_wide (n := 5)).1 ?_
  refine callsIn_of_wp_marks Try.func12 rfl trivial ?_ rfl
  simp only [Try.ntmps12, List.size_toArray, List.length_cons, List.length_nil, Nat.reduceAdd, Nat.reduceSub, Array.replicate_succ, Array.replicate_zero, List.push_toArray, List.append_toArray, List.nil_append, List.cons_append]
  gi_wp2_with fail
  refine ⟨trivial, ?_⟩
  obtain ⟨W, hW, hz, -, B2, B3, E⟩ := blocks3 w #[.int .i64 a] #[.int .i64 0] #[.int .i64 0] 3 3 24
  rw [hW, ← hz]
  clear hW
  refine (callsIn_wide.2 (isTurn1_c W a _)).mono ?_
  rintro e w2 ⟨rfl, rfl⟩
  obtain ⟨V, hV⟩ : ∃ V, W.alloc (.cells #[.int .i64 a] 3) = V := ⟨_, rfl⟩
  have C2 := B2.alloc (.cells #[.int .i64 a] 3)
  have C3 := B3.alloc (.cells #[.int .i64 a] 3)
  have E' := E.alloc (.cells #[.int .i64 a] 3)
  rw [hV] at C2 C3 E' ⊢
  clear hV
  have c2 := C2.cell
  have f2 := C2.frozen
  have c3 := C3.cell
  have f3 := C3.frozen
  gi_wp2_with fail
  obtain ⟨V', hV', D2, D3, F, -⟩ := kept2 (c := .int .i64 0) (d := .int .i64 2) C2 C3 (by omega) E' (by omega) (by omega)
  rw [hV']
  clear hV'
  have d2 := D2.cell
  have d3 := D3.cell
  exact ⟨.tuple #[.int .i64 0, .int .i64 2], by simp [results, Try.results12, go_sem, d2, d3], rfl, F⟩

set_option maxRecDepth 100000 in
set_option maxHeartbeats 1000000 in
theorem Invert_ok (a : Nat) (ha : a < 24) (w : World) :
    Calls Try.prog 12 #[.int .i64 a] w fun e w' => e = .returned (.tuple #[.int .i64 (invT a), .int .i64 0]) ∧ Ext w w' := by
  have hi : inB 0 23 (a : Int) = true := inB_iff.2 (by omega)
  have Hs := Lib.hid (invT_spec a ha)
  refine (callsIn_wide (n := 5)).1 ?_
  refine callsIn_of_wp_marks Try.func12 rfl trivial ?_ rfl
  simp only [Try.ntmps12, List.size_toArray, List.length_cons, List.length_nil, Nat.reduceAdd, Nat.reduceSub, Array.replicate_succ, Array.replicate_zero, List.push_toArray, List.append_toArray, List.nil_append, List.cons_append]
  gi_wp2_with fail
  refine ⟨trivial, ?_⟩
  obtain ⟨W, hW, hz, B1, B2, B3, E⟩ := blocks3 w #[.int .i64 a] #[.int .i64 0] #[.int .i64 0] 3 3 24
  rw [hW, ← hz]
  clear hW
  refine (callsIn_wide.2 (isTurn1_c W a _)).mono ?_
  rintro e w2 ⟨rfl, rfl⟩
  obtain ⟨V, hV⟩ : ∃ V, W.alloc (.cells #[.int .i64 a] 3) = V := ⟨_, rfl⟩
  have hzV : V.heap.size = W.heap.size + 1 := by rw [← hV]; simp
  have C1 := B1.alloc (.cells #[.int .i64 a] 3)
  have C2 := B2.alloc (.cells #[.int .i64 a] 3)
  have C3 := B3.alloc (.cells #[.int .i64 a] 3)
  have E' := E.alloc (.cells #[.int .i64 a] 3)
  rw [hV] at C1 C2 C3 E' ⊢
  clear hV B1 B2 B3
  gi_wp2_with (refine ⟨trivial, ?_⟩; gi_at_call 53; refine (callsIn_wide.2 (which_c _)).mono ?_; rintro e w3 ⟨rfl, hw3⟩; subst w3)
  refine wpIn_rangeFunc_ownH rfl (by omega) (gf := 82) (lb := #[]) rfl trivial (enters_of Try.func82 (by kernel_rfl) rfl)
    (which_stops _ (by omega) (fun _ _ => True) V) (fun _ _ => trivial) (fun _ _ _ _ _ _ _ _ => trivial) (Below.refl _ _) (fun _ => rfl)
    (fun pre X => (((Blk X w.heap.size 3 #[.int .i64 a] ∧ Blk X (w.heap.size + 1) 3 #[.int .i64 0]) ∧ Blk X (w.heap.size + 1 + 1) 24 #[.int .i64 0]) ∧ Ext w X) ∧ ∀ y ∈ pre, turnS (turnS p123 y.val) a ≠ p123)
    (fun c _ X => (∃ x : Fin 24, (Blk X (w.heap.size + 1) 3 #[.int .i64 (x.val : Int)] ∧ Blk X (w.heap.size + 1 + 1) 24 #[.int .i64 0]) ∧ turnS (turnS p123 x.val) a = p123 ∧ c = .ret) ∧ Ext w X)
    (OwnFrom.and (OwnFrom.and (OwnFrom.and (OwnFrom.and (Own.from (blk_own _ _ _) _) (Own.from (blk_own _ _ _) _)) (Own.from (blk_own _ _ _) _)) (ownFrom_below (Nat.le_refl _) (by omega))) (ownFrom_pure _ _))
    (fun c => OwnFrom.and (fun s X Y row hs hg hr => by
      obtain ⟨x, ⟨h, k⟩, h'⟩ := hs
      exact ⟨x, ⟨blk_own _ _ _ () X Y row h hg (fun r e => (hr r e).2), blk_own _ _ _ () X Y row k hg (fun r e => (hr r e).2)⟩, h'⟩) (ownFrom_below (Nat.le_refl _) (by omega)))
    ⟨⟨⟨⟨C1, C2⟩, C3⟩, E'⟩, fun _ h => by cases h⟩
    (fun x a' X => ∃ g, Blk X g 23 #[.int .i64 (turnS p123 x.val).x, .int .i64 (turnS p123 x.val).y, .int .i64 (turnS p123 x.val).z] ∧
      a' = { tmps := #[.int .i64 a, .pointer (some ⟨w.heap.size, 0, none⟩), .pointer (some ⟨w.heap.size + 1, 0, none⟩), .pointer (some ⟨w.heap.size + 1 + 1, 0, none⟩), .int .i64 (x.val : Int), .pointer (some ⟨g, 0, none⟩), .int .i64 a,
        .slice (some ⟨w.heap.size + 1 + 1 + 1, 0, none⟩) 1 1, .bool true, .bool false, .func (.func 82) #[] #[], .int .i64 (x.val : Int), at123 x.val, undef, undef, undef, undef, undef, undef], defers := [] })
    (fun x a' _ X Y row hs hg hr => by
      obtain ⟨g, h2, h3⟩ := hs
      exact ⟨g, blk_own _ _ _ () X Y row h2 hg (fun r e => (hr r e).2), h3⟩)
    ?assign ?body ?done ?stop
  case assign =>
    rintro l pre x X K ⟨⟨⟨⟨C1, C2⟩, C3⟩, hE⟩, hne⟩ hK
    have h4 := hE.size
    dsimp only [encW, at123]
    gi_wp2
    have h3 := C3.lt
    exact hK _ _ ((KeepsOthers.alloc _ _).from _) trivial ⟨⟨⟨⟨C1.alloc _, C2.alloc _⟩, C3.alloc _⟩, hE.alloc _⟩, hne⟩ ⟨X.heap.size, Blk.new _ _ _, rfl⟩
  case body =>
    rintro l pre x a' X hl - ⟨⟨⟨⟨C1, C2⟩, C3⟩, hE⟩, hne⟩ ⟨g, C5, rfl⟩ -
    have Hne := Lib.hid hne
    clear hne
    obtain ⟨p, hp⟩ : ∃ p, turnS p123 x.val = p := ⟨_, rfl⟩
    have hpo : p.ok := by rw [← hp]; exact ok_at123
    have Hp := Lib.hid hp
    rw [hp] at C5
    have hat : at123 x.val = .agg #[.int .i64 p.x, .int .i64 p.y, .int .i64 p.z] := by rw [← hp]; rfl
    rw [hat]
    clear hat hp
    have c1 := C1.cell
    have c5 := C5.cell
    gi_wp2_with fail
    refine ⟨trivial, ?_⟩
    gi_at_call 43
    refine (CallsIn.inRound l (callsIn_wide.2 (turn_c p.x p.y p.z a _ ha hpo))).mono ?_
    rintro e X2 ⟨rfl, E2⟩
    obtain ⟨r, hr⟩ : ∃ r, turnS ⟨p.x, p.y, p.z⟩ a = r := ⟨_, rfl⟩
    have Hr := Lib.hid hr
    rw [hr]
    clear hr
    have D1 := C1.ext E2
    have D2 := C2.ext E2
    have D3 := C3.ext E2
    have c2 := D2.cell
    have f2 := D2.frozen
    have c3 := D3.cell
    have f3 := D3.frozen
    have hq : ∀ w, (binOp .eql 23 (.agg #[.int .i64 r.x, .int .i64 r.y, .int .i64 r.z]) (.agg #[.int .i64 1, .int .i64 2, .int .i64 3])).run Try.prog w = .ok (.bool (Pt.eqB r p123)) w := fun w => pt_eql _ _ _ _ _ _ _
    by_cases h : Pt.eqB r p123 = true
    · rw [h] at hq
      gi_wp2
      obtain ⟨X', hX', F2, F3, F, hk⟩ := kept2 (c := .int .i64 (x.val : Int)) (d := .int .i64 0) D2 D3 (by omega) (hE.trans E2) (by omega) (by omega)
      rw [hX']
      exact ⟨((ext_keeps E2).trans hk).from _, ⟨x, ⟨F2, F3⟩, by rw [Hp.out]; exact Hr.out.trans (Pt.eqB_iff.1 h), rfl⟩, F⟩
    · have h' : Pt.eqB r p123 = false := by simpa using h
      rw [h'] at hq
      gi_wp2
      refine ⟨(ext_keeps E2).from _, trivial, ⟨⟨⟨D1, D2⟩, D3⟩, hE.trans E2⟩, fun y hy => ?_⟩
      rcases List.mem_append.1 hy with hy | hy
      · exact Hne.out y hy
      · obtain rfl : y = x := by simpa using hy
        rw [Hp.out]
        exact fun e => h (Pt.eqB_iff.2 (Hr.out.symm.trans e))
  case done =>
    rintro D ys X hD rfl ⟨-, hne⟩ hK
    obtain ⟨h1, h2⟩ := Hs.out
    exact absurd h1 (hne ⟨invT a, h2⟩ (mem_upto _))
  case stop =>
    rintro D c pre X hD hpre ⟨⟨x, ⟨C2, C3⟩, hx, rfl⟩, hE⟩ hK
    gi_wp2
    refine ⟨by simp, .inl ⟨_, _, rfl, run_takeDeferred hK, ?_⟩⟩
    have C2' : Blk (X.putObj D (.deferred none)) (w.heap.size + 1) 3 #[.int .i64 (x.val : Int)] := C2.grown (grownBy_putObj' X D _) (fun e => by cases e; rw [show X.heap[w.heap.size + 1]? = _ from C2] at hK; cases hK)
    have C3' : Blk (X.putObj D (.deferred none)) (w.heap.size + 1 + 1) 24 #[.int .i64 0] := C3.grown (grownBy_putObj' X D _) (fun e => by cases e; rw [show X.heap[w.heap.size + 1 + 1]? = _ from C3] at hK; cases hK)
    have c2 := C2'.cell
    have c3 := C3'.cell
    refine ⟨.tuple #[.int .i64 (x.val : Int), .int .i64 0], by simp [results, Try.results12, go_sem, c2, c3], ?_, Below.trans hE (belowK_b (w := w) (Nat.le_refl _) X D _ _ (by omega) hK rfl rfl)⟩
    rw [inv123_inj a ha x.val x.isLt hx]
end Go.Proofs.Ytenigkngmdofiaa

namespace Go.Proofs.Ytenigkngmdofiaa
open Go.RowKit Go.Shelf
attribute [local go_sem] Oper.semAt_some

/-- The turns among some that a kind looks like itself under. -/
def symsOf (k : Knd) (pre : List (Fin 24)) : List Value := (pre.filter fun x => likeB k 0 ⟨0, 0, 0⟩ x.val).map fun x => .int .i64 (x.val : Int)
theorem symsOf_snoc (k : Knd) (pre : List (Fin 24)) (x : Fin 24) : symsOf k (pre ++ [x]) = symsOf k pre ++ if likeB k 0 ⟨0, 0, 0⟩ x.val then [.int .i64 (x.val : Int)] else [] := by
  unfold symsOf
  rw [List.filter_append]
  by_cases h : likeB k 0 ⟨0, 0, 0⟩ x.val = true
  · simp [h]
  · simp [h]
def symN (k : Knd) (pre : List (Fin 24)) : Nat := (pre.filter fun x => likeB k 0 ⟨0, 0, 0⟩ x.val).length
theorem symN_snoc (k : Knd) (pre : List (Fin 24)) (x : Fin 24) : symN k (pre ++ [x]) = symN k pre + if likeB k 0 ⟨0, 0, 0⟩ x.val then 1 else 0 := by
  unfold symN
  rw [List.filter_append]
  by_cases h : likeB k 0 ⟨0, 0, 0⟩ x.val = true
  · simp [h]
  · simp [h]
theorem symN_le (k : Knd) (pre : List (Fin 24)) : symN k pre ≤ pre.length := List.length_filter_le _ _
/-- What the loop keeps: the slice in its box. -/
def SymJ (k : Knd) (B S : Nat) (pre : List (Fin 24)) (X : World) : Prop := ∃ v, Blk X S 52 #[v] ∧ X.ownsRow B 3 1 v (symN k pre) (symsOf k pre)
theorem symJ_own (k : Knd) (B S : Nat) : Own (fun (pre : List (Fin 24)) X => SymJ k B S pre X) := fun s X Y row h hg hr => by
  obtain ⟨v, h1, h2⟩ := h
  refine ⟨v, blk_own _ _ _ () X Y row h1 hg hr, ?_⟩
  rcases h2 with ⟨hl, h2⟩
  refine ⟨hl, ?_⟩
  rcases h2 with h2 | ⟨g, cap, cur, e1, e2, e3, e4⟩
  · exact Or.inl h2
  · exact Or.inr ⟨g, cap, cur, e1, e2, blk_own g _ cur () X Y row e3 hg hr, e4⟩
set_option maxHeartbeats 1600000 in
theorem Symmetries_bad (cells : List Pt) (knobs : List Knb) (wt : Int) (A : Option Addr) (ca : Nat) (B : Option Addr) (cb : Nat) (w : World) (hc : Cells w A ca cells) (hn : Knobs w B cb knobs) (er : Int) (he : kindErr ⟨cells, knobs, wt⟩ = er) (h0 : er ≠ 0) :
    Calls Try.prog 20 #[.agg #[.slice A cells.length ca, .slice B knobs.length cb, .int .i64 wt]] w fun e w' => e = .returned (.tuple #[.slice none 0 0, .int .i64 er]) ∧ Ext w w' := by
  obtain ⟨W1, hW1, E1, B1, hz1⟩ := mk_ w #[.slice A cells.length ca, .slice B knobs.length cb, .int .i64 wt] 39
  have b1 := B1.cell
  have CK := checkKind_is he (hc.ext E1) (hn.ext E1)
  have h1 : (er != 0) = true := by simpa using h0
  clear he h0 hz1
  go_enter Try.func20, Try.ntmps20
  go_wp2_with fail
  refine CK.mono ?_
  rintro e W2 ⟨rfl, E2⟩
  go_wp2_with fail
  go_ret2
  exact ⟨rfl, E1.trans E2⟩
def SymPost (k : Knd) (w : World) (e : Ending) (w' : World) : Prop := ∃ A cap, e = .returned (.tuple #[.slice A (symN k (upto 24)) cap, .int .i64 0]) ∧ SliceIs w' A (symN k (upto 24)) cap 1 ((symsOf k (upto 24)).map fun v => [v]) ∧ Ext w w'
theorem infoI : (Try.prog.info? 3).map (fun i => (i.zero, i.size, i.bytes)) = some (some (.int .i64 0), 1, 8) := by kernel_rfl
theorem singles_flat (l : List Value) : (l.map fun v => [v]).flatten = l := by
  induction l with
  | nil => rfl
  | cons x l ih => simp [ih]
set_option maxRecDepth 100000 in
set_option maxHeartbeats 8000000 in
theorem Symmetries_ok (cells : List Pt) (knobs : List Knb) (wt : Int) (A : Option Addr) (ca : Nat) (B : Option Addr) (cb : Nat) (w : World) (hc : Cells w A ca cells) (hn : Knobs w B cb knobs) (he : kindErr ⟨cells, knobs, wt⟩ = 0) (hf : Knd.Fine ⟨cells, knobs, wt⟩) :
    Calls Try.prog 20 #[.agg #[.slice A cells.length ca, .slice B knobs.length cb, .int .i64 wt]] w (SymPost ⟨cells, knobs, wt⟩ w) := by
  have CK := checkKind_is he (hc.ext ((Ext.refl w).alloc (.cells #[.slice A cells.length ca, .slice B knobs.length cb, .int .i64 wt] 39))) (hn.ext ((Ext.refl w).alloc (.cells #[.slice A cells.length ca, .slice B knobs.length cb, .int .i64 wt] 39)))
  have LK : Hid (∀ (W : World) (n : Nat), Ext w W → n < 24 → Calls Try.prog 61 #[.agg #[.slice A cells.length ca, .slice B knobs.length cb, .int .i64 wt], .agg #[.int .i64 0, .int .i64 0, .int .i64 0, .int .i64 0, .int .u8 0, .int .u8 0], .int .i64 n] W fun e w' =>
      e = .returned (.tuple #[.agg #[.int .i64 (likeAt ⟨cells, knobs, wt⟩ 0 ⟨0, 0, 0⟩ n).x, .int .i64 (likeAt ⟨cells, knobs, wt⟩ 0 ⟨0, 0, 0⟩ n).y, .int .i64 (likeAt ⟨cells, knobs, wt⟩ 0 ⟨0, 0, 0⟩ n).z], .bool (likeB ⟨cells, knobs, wt⟩ 0 ⟨0, 0, 0⟩ n)]) ∧ Ext W w') := Lib.hid (fun W n EW hn' =>
    like_c ⟨cells, knobs, wt⟩ ⟨A, ca, B, cb⟩ W ⟨hc.ext EW, hn.ext EW⟩ hf 0 0 0 0 0 0 n (by omega) hn' (by unfold Pt.in_; simp))
  clear he hf hc hn
  refine (callsIn_wide (n := 5)).1 ?_
  refine callsIn_of_wp_marks Try.func20 rfl trivial ?_ rfl
  simp only [Try.ntmps20, List.size_toArray, List.length_cons, List.length_nil, Nat.reduceAdd, Nat.reduceSub, Array.replicate_succ, Array.replicate_zero, List.push_toArray, List.append_toArray, List.nil_append, List.cons_append]
  gi_wp2_with fail
  refine ⟨trivial, ?_⟩
  gi_at_call 16
  refine (callsIn_wide.2 CK).mono ?_
  rintro e w2 ⟨rfl, E2⟩
  clear CK
  gi_wp2_with (refine ⟨trivial, ?_⟩; gi_at_call 53; refine (callsIn_wide.2 (which_c _)).mono ?_; rintro e w3 ⟨rfl, rfl⟩)
  have B1 := ((Blk.new w #[.slice A cells.length ca, .slice B knobs.length cb, .int .i64 wt] 39).ext E2).alloc (.cells #[.slice none 0 0] 52)
  have B5 := Blk.new w2 #[.slice none 0 0] 52
  have hE0 : Ext w (w2.alloc (.cells #[.slice none 0 0] 52)) := (((Ext.refl w).alloc _).trans E2).alloc _
  have hlt : w.heap.size < w2.heap.size := by
    have := E2.size
    rw [World.size_alloc] at this
    omega
  have hsz : (w2.alloc (.cells #[.slice none 0 0] 52)).heap.size = w2.heap.size + 1 := by simp
  obtain ⟨W0, hW0⟩ : ∃ W0, w2.alloc (.cells #[.slice none 0 0] 52) = W0 := ⟨_, rfl⟩
  obtain ⟨S, hS⟩ : ∃ S, w2.heap.size = S := ⟨_, rfl⟩
  obtain ⟨T, hT⟩ : ∃ T, w.heap.size = T := ⟨_, rfl⟩
  rw [hW0] at B1 B5 hE0 hsz ⊢
  rw [hS] at B5 hsz hlt ⊢
  rw [hT] at B1 hlt ⊢
  clear hW0 hS E2
  obtain ⟨i0, hi0, hz0, hz1, hz2⟩ := info_parts infoI
  refine wpIn_rangeFunc_ownH rfl (by omega) (gf := 82) (lb := #[]) rfl trivial (enters_of Try.func82 (by kernel_rfl) rfl)
    (which_stops _ (by omega) (fun _ _ => True) W0) (fun _ _ => trivial) (fun _ _ _ _ _ _ _ _ => trivial) (Below.refl _ _) (fun _ => rfl)
    (fun pre X => ((Blk X T 39 #[.slice A cells.length ca, .slice B knobs.length cb, .int .i64 wt] ∧ SymJ ⟨cells, knobs, wt⟩ (S + 1) S pre X) ∧ Ext w X) ∧ pre.length ≤ 24)
    (fun _ _ _ => False)
    (OwnFrom.and (OwnFrom.and (OwnFrom.and (Own.from (blk_own _ _ _) _) (Own.from (symJ_own _ _ _) _)) (ownFrom_below (Nat.le_refl _) (by omega))) (ownFrom_pure _ _))
    (fun c s X Y row hs hg hr => hs.elim)
    ⟨⟨⟨B1, _, B5, World.ownsRow_nil _ _ _ _⟩, hE0⟩, by simp⟩
    (fun x a' X => a' = { tmps := #[.agg #[.slice A cells.length ca, .slice B knobs.length cb, .int .i64 wt], .pointer (some ⟨T, 0, none⟩), .slice none 0 0, .int .i64 0, .int .i64 0, .pointer (some ⟨S, 0, none⟩), .int .i64 (x.val : Int), undef, undef, .agg #[.slice A cells.length ca, .slice B knobs.length cb, .int .i64 wt], .int .i64 0, .int .i64 0, .bool false, undef, .func (.func 82) #[] #[], .int .i64 (x.val : Int), at123 x.val, undef, undef, undef, undef, undef, undef, undef, undef, undef, undef, undef, undef, undef], defers := [] })
    (fun x a' _ X Y row hs hg hr => hs)
    ?assign ?body ?done ?stop
  case assign =>
    rintro l pre x W K ⟨⟨⟨C1, C5⟩, hE⟩, hpl⟩ hK
    dsimp only [encW, at123]
    gi_wp2
    exact hK _ _ (KeepsFrom.refl _ _) trivial ⟨⟨⟨C1, C5⟩, hE⟩, hpl⟩ rfl
  case body =>
    rintro l pre x a' X hl - ⟨⟨⟨C1, v, C5, own⟩, hE⟩, hpl⟩ rfl hlen
    have hn1 := symN_le ⟨cells, knobs, wt⟩ pre
    have hs0 := symsOf_snoc ⟨cells, knobs, wt⟩ pre x
    have hs1 := symN_snoc ⟨cells, knobs, wt⟩ pre x
    have c1 := C1.cell
    gi_wp2_with fail
    refine ⟨trivial, ?_⟩
    gi_at_call 61
    refine (CallsIn.inRound l (callsIn_wide.2 (LK.out X x.val hE x.isLt))).mono ?_
    rintro e X2 ⟨rfl, E2⟩
    obtain ⟨y1, hy1⟩ : ∃ y, (likeAt ⟨cells, knobs, wt⟩ 0 ⟨0, 0, 0⟩ x.val).x = y := ⟨_, rfl⟩
    obtain ⟨y2, hy2⟩ : ∃ y, (likeAt ⟨cells, knobs, wt⟩ 0 ⟨0, 0, 0⟩ x.val).y = y := ⟨_, rfl⟩
    obtain ⟨y3, hy3⟩ : ∃ y, (likeAt ⟨cells, knobs, wt⟩ 0 ⟨0, 0, 0⟩ x.val).z = y := ⟨_, rfl⟩
    rw [hy1, hy2, hy3]
    clear hy1 hy2 hy3
    have C1' := (C1.ext E2).alloc (.cells #[.int .i64 y1, .int .i64 y2, .int .i64 y3] 23)
    have C5' := (C5.ext E2).alloc (.cells #[.int .i64 y1, .int .i64 y2, .int .i64 y3] 23)
    have E3 := E2.alloc (.cells #[.int .i64 y1, .int .i64 y2, .int .i64 y3] 23)
    have own' := own_ext own E3
    have hE' := hE.trans E3
    have c5 := C5'.cell
    have f5 := C5'.frozen
    have hSX := C5.lt
    have hsz2 := E2.size
    cases hb : likeB ⟨cells, knobs, wt⟩ 0 ⟨0, 0, 0⟩ x.val
    · rw [hb] at hs0 hs1
      simp only [Bool.false_eq_true, if_false, List.append_nil, Nat.add_zero] at hs0 hs1
      gi_wp2_with fail
      exact ⟨(ext_keeps E3).from _, trivial, ⟨⟨⟨C1', v, C5', by rw [hs0, hs1]; exact own'⟩, hE'⟩, by simp only [List.length_append, List.length_cons, List.length_nil]; omega⟩⟩
    · rw [hb] at hs0 hs1
      simp only [if_true] at hs0 hs1
      gi_wp2_with (gi_at_builtin; refine wpListIn_append_own _ rfl _ _ 52 rfl (S + 1) 3 i0 _ 1 8 Try.underlying52 hi0 hz0 hz1 hz2 rfl (by decide) v _ _ rfl (own_ext own' ((Ext.refl _).alloc _)) _ 1 1 [.int .i64 (x.val : Int)] rfl rfl ?nc (by simp [Value.oneCell']) (by unfold maxLen; omega) (by omega) (by simp; omega) ?_)
      case nc =>
        have h := cell_one_new (X2.alloc (.cells #[.int .i64 y1, .int .i64 y2, .int .i64 y3] 23)) (.int .i64 (x.val : Int)) 3
        rwa [World.size_alloc] at h
      intro v' w' own2 hg2 _
      have C1'' := (C1'.alloc (.cells #[.int .i64 (x.val : Int)] 3)).grown hg2 (own_ne own (by omega))
      have C5'' := (C5'.alloc (.cells #[.int .i64 (x.val : Int)] 3)).grown hg2 (own_ne own (by omega))
      have c5' := C5''.cell
      have f5' := C5''.frozen
      have hE'' := (hE'.alloc (.cells #[.int .i64 (x.val : Int)] 3)).grown hg2 (fun q hq => by have := (own.lt q hq).1; omega)
      clear c5 f5
      have hk2 : KeepsOthers X w' := ((ext_keeps E3).trans (KeepsOthers.alloc _ _)).trans (KeepsOthers.of_grownBy hg2 fun j o ej hj => by
        rcases (own_ext own' ((Ext.refl _).alloc (.cells #[.int .i64 (x.val : Int)] 3))).2 with ⟨rfl, _⟩ | ⟨g, cap, cur, rfl, _, hgb, _⟩
        · simp [Value.ownBlock] at ej
        · obtain rfl : g = j := by simpa [Value.ownBlock] using ej
          rw [hgb] at hj; cases hj; rfl)
      obtain ⟨g', cap', rfl⟩ := ownsRow_succ own2
      gi_wp2_with fail
      exact ⟨(hk2.trans (KeepsOthers.setCell _ _ _)).from _, trivial, ⟨⟨⟨C1''.far (show T ≠ S by omega) _, _, C5''.set_ 0 _, by rw [hs0, hs1]; exact own_setCell own2 (Nat.lt_succ_self _) _⟩, hE''.setCell (show w.heap.size ≤ S by omega) _⟩, by simp only [List.length_append, List.length_cons, List.length_nil]; omega⟩⟩
  case done =>
    rintro D ys X hD rfl ⟨⟨⟨C1, v, C5, own⟩, hE⟩, -⟩ hKd
    rename_i K0 hK0
    refine hK0 _ _ ?_
    have c5 := C5.cell
    gi_wp2_with fail
    refine ⟨by simp, .inl ⟨_, _, rfl, run_takeDeferred hKd, ?_⟩⟩
    refine ⟨.tuple #[v, .int .i64 0], by simp [results, Try.results20, go_sem], ?_⟩
    have own' := ownsRow_putObj own (.deferred none) hKd rfl
    obtain ⟨A1, cap, rfl, h1, -⟩ := own_slice0 (n := symN ⟨cells, knobs, wt⟩ (upto 24)) (rows := (symsOf ⟨cells, knobs, wt⟩ (upto 24)).map fun v => [v]) (fun r hr => by obtain ⟨y, -, rfl⟩ := List.mem_map.1 hr; rfl) (by simp [symsOf, symN]) (by rw [singles_flat]; exact own')
    exact ⟨A1, cap, rfl, h1, Below.trans hE (belowK_b (w := w) (Nat.le_refl _) X D _ _ (by omega) hKd rfl rfl)⟩
  case stop =>
    rintro D c pre X hD hpre hf
    exact hf.elim
end Go.Proofs.Ytenigkngmdofiaa

namespace Go.Proofs.Ytenigkngmdofiaa
open Go.RowKit

theorem kinds_one {W : World} {g : Nat} {t : TypeId} {k : Knd} {p : KAt} (h : Blk W g t #[.slice p.A k.cells.length p.ca, .slice p.B k.knobs.length p.cb, .int .i64 k.weight]) (hk : KindAt W p k) : Kinds W (some ⟨g, 0, none⟩) 1 [(k, p)] :=
  ⟨RowX.slice (rows := [k.cs p]) (t := t) ⟨#[], by simpa [rowsA, Knd.cs] using h⟩ (by simp [Knd.cs]) rfl (Nat.le_refl _) (by unfold maxLen; omega), fun q hq => by
    obtain rfl : q = (k, p) := by simpa using hq
    exact hk⟩
set_option maxRecDepth 100000 in
set_option maxHeartbeats 8000000 in
theorem rSymmetries_ok (RL : RLikeOk) (cells : List Pt) (knobs : List Knb) (wt : Int) (A : Option Addr) (ca : Nat) (B : Option Addr) (cb : Nat) (w : World) (hc : Cells w A ca cells) (hn : Knobs w B cb knobs) (he : Knd.valid ⟨cells, knobs, wt⟩ = true) (hf : Knd.Fine ⟨cells, knobs, wt⟩) :
    Calls Try.prog 21 #[.agg #[.slice A cells.length ca, .slice B knobs.length cb, .int .i64 wt]] w (SymPost ⟨cells, knobs, wt⟩ w) := by
  obtain ⟨W1, hW1, E1, B1, hz1⟩ := mk_ w #[.slice A cells.length ca, .slice B knobs.length cb, .int .i64 wt] 39
  have CV := validKind_is he (hc.ext E1) (hn.ext E1)
  have LK := Lib.hid (fun W (EW : Ext w W) (g : Nat) (hb : Blk W g 39 #[.slice A cells.length ca, .slice B knobs.length cb, .int .i64 wt]) (n : Nat) (hn' : n < 24) =>
    RL [(⟨cells, knobs, wt⟩, ⟨A, ca, B, cb⟩)] (some ⟨g, 0, none⟩) 1 0 ⟨cells, knobs, wt⟩ ⟨A, ca, B, cb⟩ rfl W (kinds_one (p := ⟨A, ca, B, cb⟩) (k := ⟨cells, knobs, wt⟩) hb ⟨hc.ext EW, hn.ext EW⟩) hf 0 0 0 0 0 n (by omega) hn' (by unfold Pt.in_; simp))
  have b1 := B1.cell
  clear hc hn he hf RL hz1
  go_enter Try.func21, Try.ntmps21
  go_wp2_with fail
  refine CV.mono ?_
  rintro e W2 ⟨rfl, E2⟩
  have BB := B1.ext E2
  have E := E1.trans E2
  go_wp2_with fail
  clear hW1 b1 CV B1 E1 E2
  obtain ⟨S, hS⟩ : ∃ S, w.heap.size = S := ⟨_, rfl⟩
  rw [hS] at BB ⊢
  have HS := Lib.hid hS
  clear hS
  obtain ⟨i0, hi0, hz0, hz1, hz2⟩ := info_parts infoI
  go_loopw [4, 5] (fun v ii wr => ∃ (j : Nat) (u : Value), j ≤ 24 ∧ ii = .int .i64 j ∧ u = v ∧ Ext w wr ∧ Blk wr S 39 #[.slice A cells.length ca, .slice B knobs.length cb, .int .i64 wt] ∧ wr.ownsRow (S + 1) 3 1 u (symN ⟨cells, knobs, wt⟩ (upto j)) (symsOf ⟨cells, knobs, wt⟩ (upto j))) (fun _ ii _ => 24 - (intOf ii).toNat)
  case atStart => exact ⟨0, _, by omega, rfl, rfl, E, BB, World.ownsRow_nil _ _ _ _⟩
  case round =>
    clear E BB
    obtain ⟨j, v, hj, rfl, rfl, Er, BBr, own⟩ := hrel
    have b1 := BBr.cell
    have hSr := BBr.lt
    by_cases hlt : j < 24
    · have j2 : (j : Int) < 24 := by omega
      have hn1 : symN ⟨cells, knobs, wt⟩ (upto j) ≤ j := by
        have := symN_le ⟨cells, knobs, wt⟩ (upto j)
        rw [upto_len hj] at this
        exact this
      have hs0 := symsOf_snoc ⟨cells, knobs, wt⟩ (upto j) ⟨j, hlt⟩
      have hs1 := symN_snoc ⟨cells, knobs, wt⟩ (upto j) ⟨j, hlt⟩
      rw [← upto_succ hlt] at hs0 hs1
      have L := LK.out (wr.alloc (.cells #[.slice A cells.length ca, .slice B knobs.length cb, .int .i64 wt] 39)) (Er.alloc _) _ (Blk.new _ _ _) j hlt
      go_wp2_with fail
      refine L.mono ?_
      rintro e W3 ⟨rfl, E3⟩
      obtain ⟨aq, haq⟩ : ∃ q, likeAt ⟨cells, knobs, wt⟩ 0 ⟨0, 0, 0⟩ j = q := ⟨_, rfl⟩
      rw [haq]
      clear haq L
      have E4 := ((Ext.refl wr).alloc (.cells #[.slice A cells.length ca, .slice B knobs.length cb, .int .i64 wt] 39)).trans (E3.alloc (.cells #[.int .i64 ((0 : Nat) : Int), .int .i64 aq.x, .int .i64 aq.y, .int .i64 aq.z, .int .u8 j, .int .u8 0] 42))
      have own4 := own_ext own E4
      have EW4 := Er.trans E4
      have BB4 := BBr.ext E4
      have hS4 : S < W3.heap.size := by
        have := E4.size
        have h2 := E3.size
        rw [World.size_alloc] at h2
        omega
      have HS' := HS.out
      cases hb : likeB ⟨cells, knobs, wt⟩ 0 ⟨0, 0, 0⟩ j
      · rw [hb] at hs0 hs1
        simp only [Bool.false_eq_true, if_false, List.append_nil, Nat.add_zero] at hs0 hs1
        clear hb
        go_wp2_with fail
        go_roundw
        case rel => exact ⟨j + 1, _, by omega, by go_num, rfl, EW4, BB4, by rw [hs0, hs1]; exact own4⟩
        case measure => simp only [intOf]; omega
      · rw [hb] at hs0 hs1
        simp only [if_true] at hs0 hs1
        clear hb
        go_wp2_with (at_builtin; refine wpList_append_own _ rfl _ _ 52 rfl (S + 1) 3 i0 _ 1 8 Try.underlying52 hi0 hz0 hz1 hz2 rfl (by decide) v _ _ rfl (own_ext own4 ((Ext.refl _).alloc _)) _ 1 1 [.int .i64 j] rfl rfl ?nc (by simp [Value.oneCell']) (by unfold maxLen; omega) (by omega) (by simp; omega) ?_)
        case nc =>
          have h := cell_one_new (W3.alloc (.cells #[.int .i64 ((0 : Nat) : Int), .int .i64 aq.x, .int .i64 aq.y, .int .i64 aq.z, .int .u8 j, .int .u8 0] 42)) (.int .i64 j) 3
          rwa [World.size_alloc] at h
        intro v' w' own2 hg2 _
        have EW5 := (EW4.alloc (.cells #[.int .i64 j] 3)).grown hg2 (fun q hq => by have := (own.lt q hq).1; omega)
        have BB5 := (BB4.alloc (.cells #[.int .i64 j] 3)).grown hg2 (own_ne own (by omega))
        obtain ⟨g', cap', rfl⟩ := ownsRow_succ own2
        go_wp2_with fail
        go_roundw
        case rel => exact ⟨j + 1, _, by omega, by go_num, rfl, EW5, BB5, by rw [hs0, hs1]; exact own2⟩
        case measure => simp only [intOf]; omega
    · obtain rfl : j = 24 := by omega
      go_wp2_with fail
      go_ret2
      obtain ⟨A1, cap, rfl, h1, -⟩ := own_slice0 (n := symN ⟨cells, knobs, wt⟩ (upto 24)) (rows := (symsOf ⟨cells, knobs, wt⟩ (upto 24)).map fun v => [v]) (fun r hr => by obtain ⟨y, -, rfl⟩ := List.mem_map.1 hr; rfl) (by simp [symsOf, symN]) (by rw [singles_flat]; exact own)
      exact ⟨A1, cap, rfl, h1, Er⟩
set_option maxHeartbeats 1600000 in
theorem rSymmetries_bad (cells : List Pt) (knobs : List Knb) (wt : Int) (A : Option Addr) (ca : Nat) (B : Option Addr) (cb : Nat) (w : World) (hc : Cells w A ca cells) (hn : Knobs w B cb knobs) (he : Knd.valid ⟨cells, knobs, wt⟩ = false) :
    Calls Try.prog 21 #[.agg #[.slice A cells.length ca, .slice B knobs.length cb, .int .i64 wt]] w fun e w' => e = .returned (.tuple #[.slice none 0 0, .int .i64 10]) ∧ Ext w w' := by
  obtain ⟨W1, hW1, E1, B1, hz1⟩ := mk_ w #[.slice A cells.length ca, .slice B knobs.length cb, .int .i64 wt] 39
  have CV := validKind_is he (hc.ext E1) (hn.ext E1)
  have b1 := B1.cell
  clear he hz1
  go_enter Try.func21, Try.ntmps21
  go_wp2_with fail
  refine CV.mono ?_
  rintro e W2 ⟨rfl, E2⟩
  go_wp2_with fail
  go_ret2
  exact ⟨rfl, E1.trans E2⟩
end Go.Proofs.Ytenigkngmdofiaa
