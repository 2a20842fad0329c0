
/- Cells and Knobs, of the program and of the reference. Conditions: a brick's turn and colour are bytes. Knobs of the program; Cells and Knobs of the reference. Conditions: a brick's turn and colour are bytes. Great of the reference; SameInts. No conditions. The normal brick: the plain function of both sides, and the contract of the reference's like as a name. Symmetries of the program. No conditions. Normal of the program. Conditions: a brick's turn and colour are bytes. -/
import Derived.Test.YtjacbhomhjoolaaGreatBSame
import Derived.Test.YtjacbhomhjoolaaGreatBSort
import Derived.Test.YtjacbhomhjoolaaGreatBTurnB
import Derived.Stop.RegionWithIn
namespace Go.Proofs.YtjacbhomhjoolaaGreat
open Go.RowKit

theorem kindsErr_valid {l : List Knd} (h : kindsErr l = 0) {k : Knd} (hk : k ∈ l) : k.valid = true := by
 unfold kindsErr at h
 split at h
 ·cases h
 ·split at h
  ·rename_i h2
   obtain ⟨i,hi⟩ := List.getElem?_of_mem hk
   have := allR_at h2 (List.getElem?_eq_some_iff.1 hi).1
   simpa [kindAt,hi] using this
  ·cases h
theorem asked_zero {l : List Knd} {b : Brk} (h : askedErr l [b] = 0) : kindsErr l = 0 ∧ b.ok l.length = true := by
 unfold askedErr at h
 split at h
 ·rename_i h0
  refine ⟨h0,?_⟩
  split at h
  ·rename_i h2
   exact allR_at h2 (k := 0) (by simp)
  ·cases h
 ·rename_i h0
  exact absurd h h0
theorem asked_kind {w : World} {QA : Option Addr} {qc : Nat} {qs : List (Knd × KAt)} (hk : Kinds w QA qc qs) {b : Brk} (h : askedErr (qs.map (·.1)) [b] = 0) : ∃ (i : Nat) (k : Knd) (p : KAt),b.kind = i ∧ qs[i]? = some (k,p) ∧ k.Fine ∧ nearB b.at_ (-1000) 1000 = true ∧ b.turn < 24 := by
 obtain ⟨h1,h2⟩ := asked_zero h
 rw [Brk.ok_iff,List.length_map] at h2
 obtain ⟨a1,a2,a3,a4,_⟩ := h2
 obtain ⟨i,hi⟩ : ∃ i : Nat,b.kind = i := ⟨b.kind.toNat,by omega⟩
 have hil : i < qs.length := by omega
 have hget : qs[i]? = some (qs[i].1,qs[i].2) := List.getElem?_eq_getElem hil
 refine ⟨i,qs[i].1,qs[i].2,hi,hget,?_,a3,a4⟩
 have hm : qs[i] ∈ qs := List.getElem_mem hil
 exact Knd.fine_of (kindsErr_valid h1 (List.mem_map.2 ⟨_,hm,rfl⟩)) (hk.k _ hm).n.2
def CellsRes (l : List Pt) (n : Nat) (w : World) (e : Ending) (w' : World) : Prop := ∃ g cap,w.heap.size ≤ g ∧ e = .returned (.tuple #[.slice (some ⟨g,0,none⟩) n cap,.int .i64 0]) ∧ n ≤ cap ∧ cap ≤ maxLen ∧ RowX w' g 27 (l.map Pt.cs) ∧ Ext w w'
theorem rowX_of_blk {w : World} {g : Nat} {t : TypeId} {rows : List (List Value)} (h : Blk w g t (rowsA rows)) : RowX w g t rows := ⟨#[],by rw [Array.append_empty]; exact h⟩
set_option maxRecDepth 100000 in
set_option maxHeartbeats 8000000 in
theorem Cells_ok (qs : List (Knd × KAt)) (QA : Option Addr) (qc : Nat) (w : World) (hk : Kinds w QA qc qs) (i : Nat) (k : Knd) (p : KAt) (hi : qs[i]? = some (k,p)) (hf : k.Fine) (x y z c : Int) (t : Nat) (hb : Brk.byte ⟨i,⟨x,y,z⟩,t,c⟩) (he : askedErr (qs.map (·.1)) [⟨i,⟨x,y,z⟩,t,c⟩] = 0) (ht : t < 24) (hp : Pt.ok ⟨x,y,z⟩) :
  Calls Tryz.prog 14 #[.slice QA qs.length qc,.agg #[.int .i64 i,.int .i64 x,.int .i64 y,.int .i64 z,.int .u8 t,.int .u8 c]] w (CellsRes (sortP (placeP k.cells t ⟨x,y,z⟩)) k.cells.length w) := by
 obtain ⟨cells,knobs,wt⟩ := k
 obtain ⟨A,ca,B,cb⟩ := p
 have hil : i < qs.length := (List.getElem?_eq_some_iff.1 hi).1
 have hql : qs.length ≤ 9223372036854775807 := by have := hk.len; unfold maxLen at this; omega
 have hcl : cells.length ≤ 24 := hf.len
 obtain ⟨n,hn⟩ : ∃ n,cells.length = n := ⟨_,rfl⟩
 show Calls _ _ _ _ (CellsRes (sortP (placeP cells t ⟨x,y,z⟩)) cells.length w)
 rw [hn]
 have Hn := Lib.hid hn
 clear hn
 have hcok : ∀ q ∈ cells,q.ok := hf.cok
 have hc : Cells w A ca cells := (hk.k _ (List.mem_of_getElem? hi)).c
 obtain ⟨W1,hW1,E1,B1,hz1⟩ := mk_ w #[.int .i64 i,.int .i64 x,.int .i64 y,.int .i64 z,.int .u8 t,.int .u8 c] 51
 have b1 := B1.cell
 have CH := check1_c qs QA qc i x y z t c W1 (hk.ext E1) hb 51
 rw [he] at CH
 clear he hz1
 have hml : cells.length ≤ maxLen := by unfold maxLen; omega
 have f1 : IntKind.i64.wrap (t : Int) = t := IntWalk.i64_in _ (by omega)
 go_enter Tryz.func14,Tryz.ntmps14
 go_wp2_with fail
 refine CH.mono ?_
 rintro e W2 ⟨rfl,E2⟩
 have E := E1.trans E2
 have BB := B1.ext E2
 obtain ⟨kg,koff,k',p',rfl,hq,hka,hkg,c0,c1,c2⟩ := (hk.ext E).at_ hil
 rw [hi] at hq
 cases hq
 simp only at c0 c1 c2
 clear CH b1 hW1 B1 E1 E2 hka
 have b1 := BB.cell
 have i1 : (0 : Int) ≤ i := by omega
 have i2 : (i : Int) < qs.length := by omega
 have hn := Hn.out
 have CC : ∀ W,Ext W2 W → Calls Tryz.prog 53 #[.agg #[.slice A n ca,.slice B knobs.length cb,.int .i64 wt],.int .i64 t,.agg #[.int .i64 x,.int .i64 y,.int .i64 z]] W (CellsPost (sortP (placeP cells t ⟨x,y,z⟩)) n W) := fun W EW => by
  subst hn
  exact cells_c cells knobs.length cb wt A ca B t x y z W (hc.ext (E.trans EW)) (by omega) hcok ht hp
 have HCC := Lib.hid CC
 rw [hn] at c0 hml
 clear CC hn hi hf hc hcok
 go_upto_region 4 with (fail)
 go_region_law (first
  | (go_simp; go_at_call 53; refine (HCC.out _ (Ext.refl W2).drew).mono ?_; rintro e W3 ⟨g,hg,rfl,B3,E3⟩))
 all_goals
  go_wp2_with fail
  go_ret2
  exact ⟨g,n,Nat.le_trans E.size hg,rfl,Nat.le_refl _,hml,rowX_of_blk B3,E.trans (Ext.drew (Ext.refl W2) |>.trans E3)⟩

def KnobsRes (l : List Knb) (n : Nat) (w : World) (e : Ending) (w' : World) : Prop := ∃ g cap,w.heap.size ≤ g ∧ e = .returned (.tuple #[.slice (some ⟨g,0,none⟩) n cap,.int .i64 0]) ∧ n ≤ cap ∧ cap ≤ maxLen ∧ RowX w' g 109 (l.map Knb.cs) ∧ Ext w w'
/-! The reference. -/
def RKnobsRes (l : List Knb) (n : Nat) (w : World) (e : Ending) (w' : World) : Prop := ∃ A cap,e = .returned (.tuple #[.slice A n cap,.int .i64 0]) ∧ SliceIs w' A n cap 5 (l.map Knb.cs) ∧ (∀ q,A = some q → w.heap.size ≤ q.block) ∧ Ext w w'

def Knd.great (k : Knd) : Bool := decide (30 < k.cells.length) || decide (60 < k.knobs.length)
def greatB (l : List Knd) (n : Nat) : Bool := decide (20 < l.length) || (decide (45 < n) || !allR l.length fun i => !(kindAt l i).great)
set_option maxHeartbeats 3200000 in
theorem great_c (qs : List (Knd × KAt)) (A : Option Addr) (cap : Nat) (B : Option Addr) (n cb : Nat) (w : World) (hk : Kinds w A cap qs) (hn : n ≤ maxLen) :
  Calls Tryz.prog 7 #[.slice A qs.length cap,.agg #[.slice B n cb]] w fun e w' => e = .returned (.bool (greatB (qs.map (·.1)) n)) ∧ Ext w w' := by
 have hl1 : qs.length ≤ 9223372036854775807 := by have := hk.len; unfold maxLen at this; omega
 have hml : (qs.map (·.1)).length = qs.length := List.length_map _
 unfold maxLen at hn
 obtain ⟨W1,hW1,E1,B1,hz1⟩ := mk_ w #[.slice B n cb] 25
 have b1 := B1.cell
 by_cases a1 : (20 : Int) < qs.length
 ·have Hb := Lib.hid (show greatB (qs.map (·.1)) n = true by rw [greatB,decide_eq_true (by rw [hml]; omega)]; rfl)
  clear hml
  go_enter Tryz.func7,Tryz.ntmps7
  go_wp2_with fail
  go_ret
  exact ⟨by rw [Hb.out]; rfl,E1⟩
 by_cases a2 : (45 : Int) < n
 ·have Hb := Lib.hid (show greatB (qs.map (·.1)) n = true by rw [greatB,decide_eq_true (show 45 < n by omega),Bool.true_or,Bool.or_true])
  clear hml
  go_enter Tryz.func7,Tryz.ntmps7
  go_wp2_with fail
  go_ret
  exact ⟨by rw [Hb.out]; rfl,E1⟩
 have Hg := Lib.hid (show greatB (qs.map (·.1)) n = !allR qs.length fun i => !(kindAt (qs.map (·.1)) i).great by
  unfold greatB
  rw [decide_eq_false (show ¬ 20 < (qs.map (·.1)).length by rw [hml]; omega),decide_eq_false (show ¬ 45 < n by omega),hml]
  rfl)
 clear hml
 go_enter Tryz.func7,Tryz.ntmps7
 go_wp2_with fail
 clear hW1 hz1 b1 a1 a2
 go_loopw [5] (fun i wr => ∃ j : Nat,j ≤ qs.length ∧ i = .int .i64 j ∧ wr = W1 ∧ Hid (∀ i,i < j → (!(kindAt (qs.map (·.1)) i).great) = true)) (fun i _ => qs.length - (intOf i).toNat)
 case atStart => exact ⟨0,by omega,rfl,rfl,Lib.hid (fun i hi => by omega)⟩
 case round =>
  obtain ⟨j,hj,rfl,rfl,Hj⟩ := hrel
  by_cases hlt : j < qs.length
  ·obtain ⟨g,off,⟨kc,kn,kw⟩,⟨KA,kca,KB,kcb⟩,rfl,hq,⟨hkc,hkn⟩,hg,c0,c1,c2⟩ := (hk.ext E1).at_ hlt
   have hlc := hkc.len
   have hln := hkn.len
   unfold maxLen at hlc hln
   simp only at c0 c1 c2 hlc hln
   have Hq := Lib.hid (kindAt_eq hq)
   clear hq hkc hkn
   by_cases d1 : (30 : Int) < kc.length
   ·have Hb := Lib.hid (show greatB (qs.map (·.1)) n = true by
     rw [Hg.out,allR_bad hlt (by rw [Hq.out,Knd.great,decide_eq_true (show 30 < kc.length by omega)]; rfl)]
     rfl)
    go_wp2_with fail
    go_ret
    exact ⟨by rw [Hb.out]; rfl,E1⟩
   by_cases d2 : (60 : Int) < kn.length
   ·have Hb := Lib.hid (show greatB (qs.map (·.1)) n = true by
     rw [Hg.out,allR_bad hlt (by rw [Hq.out,Knd.great,decide_eq_true (show 60 < kn.length by omega),Bool.or_true]; rfl)]
     rfl)
    go_wp2_with fail
    go_ret
    exact ⟨by rw [Hb.out]; rfl,E1⟩
   have hok : ∀ i,i < j + 1 → (!(kindAt (qs.map (·.1)) i).great) = true := fun i hi => by
    rcases Nat.lt_or_ge i j with h' | h'
    ·exact Hj.out i h'
    ·obtain rfl : i = j := by omega
     rw [Hq.out,Knd.great,decide_eq_false (show ¬ 30 < kc.length by omega),decide_eq_false (show ¬ 60 < kn.length by omega)]
     rfl
   have Hok := Lib.hid hok
   clear hok
   go_wp2_with fail
   go_roundw
   case rel => exact ⟨j + 1,by omega,by go_num,trivial,Hok⟩
   case measure => simp only [intOf]; omega
  ·obtain rfl : qs.length = j := by omega
   have Hb := Lib.hid (show greatB (qs.map (·.1)) n = false by rw [Hg.out,allR_good Hj.out]; rfl)
   go_wp2_with fail
   go_ret
   exact ⟨by rw [Hb.out]; rfl,E1⟩

def normQ (k : Knd) (bt : Nat) (p : Pt) : Pt × Nat :=
 match (List.range 24).find? (fun n => likeB k bt p n) with
 | some n => if nearB (likeAt k bt p n) (-1000) 1000 then (likeAt k bt p n,n) else (p,bt)
 | none => (p,bt)
def RLikePost (k : Knd) (i : Int) (bt : Nat) (p : Pt) (n : Nat) (bc : Int) (w : World) (e : Ending) (w' : World) : Prop :=
 e = .returned (.tuple #[.agg #[.int .i64 i,.int .i64 (likeAt k bt p n).x,.int .i64 (likeAt k bt p n).y,.int .i64 (likeAt k bt p n).z,.int .u8 n,.int .u8 bc],.bool (likeB k bt p n)]) ∧ Ext w w'
open Go.Shelf
attribute [local go_sem] Oper.semAt_some

def symsOf (k : Knd) (pre : List (Fin 24)) : List Value := (pre.filter fun x => likeB k 0 ⟨0,0,0⟩ x.val).map fun x => .int .i64 (x.val : Int)
def symN (k : Knd) (pre : List (Fin 24)) : Nat := (pre.filter fun x => likeB k 0 ⟨0,0,0⟩ x.val).length
def SymJ (k : Knd) (B S : Nat) (pre : List (Fin 24)) (X : World) : Prop := ∃ v,Blk X S 39 #[v] ∧ X.ownsRow B 3 1 v (symN k pre) (symsOf k pre)
def SymPost (k : Knd) (w : World) (e : Ending) (w' : World) : Prop := ∃ A cap,e = .returned (.tuple #[.slice A (symN k (upto 24)) cap,.int .i64 0]) ∧ SliceIs w' A (symN k (upto 24)) cap 1 ((symsOf k (upto 24)).map fun v => [v]) ∧ Ext w w'
attribute [local go_sem] Oper.semAt_some

structure Nm6 (X : World) (vS vI vK vB vN vT vA : Value) (aA : Array Value) (T kg ko : Nat) (b : Bool) (L : Nat → Bool) (us : Nat → Value) (w : World) : Prop where
 o : Owns [11] X L us w
 f0 : L 0 = true → us 0 = vS
 f1 : L 1 = true → us 1 = .pointer (some ⟨T + 1,0,none⟩)
 f2 : L 2 = true → us 2 = vI
 f3 : L 3 = true → us 3 = .pointer (some ⟨kg,ko,none⟩)
 f4 : L 4 = true → us 4 = vK
 f5 : L 5 = true → us 5 = vB
 f6 : L 6 = true → us 6 = vN
 f7 : L 7 = true → us 7 = vT
 f8 : L 8 = true → us 8 = vT
 f9 : L 9 = true → us 9 = vA
 f10 : L 10 = true → us 10 = .bool b
 f11 : L 11 = true → us 11 = .pointer (some ⟨bk (us 11),0,none⟩)
 g11 : L 11 = true → L 12 = false → Blk w (bk (us 11)) 27 #[.int .i64 0,.int .i64 0,.int .i64 0]
 f12 : L 12 = true → Blk w (bk (us 11)) 27 aA
 f13 : L 13 = true → us 13 = .bool b
end Go.Proofs.YtjacbhomhjoolaaGreat
