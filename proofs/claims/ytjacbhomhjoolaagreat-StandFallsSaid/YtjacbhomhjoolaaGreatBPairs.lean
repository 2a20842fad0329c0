
/- The keys of the lattice's maps: cells, pairs of numbers. The bricks of a model on the reference's side: their error; Common; SamePairs and Same at equal lists. SamePairs and Same of the reference, at equal lists. The pairs of bricks that overlap, plain; Overlapping of the reference. Condition: kinds and bricks are valid. Overlapping of the reference. Condition: kinds and bricks are valid. Overlaps and Check of the reference. No conditions. -/
import Derived.Test.YtjacbhomhjoolaaGreatBOrd
import Derived.Test.YtjacbhomhjoolaaGreatBLib
import Derived.Test.YtjacbhomhjoolaaGreatBTurnB
import Derived.ChangeKeysEq
import Derived.Laws.StructEq
import Derived.Test.YtjacbhomhjoolaaGreatBSort
import Derived.Test.YtjacbhomhjoolaaGreatBSame
import Derived.Test.YtjacbhomhjoolaaGreatBRKnob
import Derived.Test.YtjacbhomhjoolaaGreatBApi
namespace Go.Proofs.YtjacbhomhjoolaaGreat
open Go.RowKit

def encPt (p : Pt) : Value := .agg #[.int .i64 p.x,.int .i64 p.y,.int .i64 p.z]
theorem pt_equal (w : World) (a b c d e f : Int) : (Op.equal 27 (.agg #[.int .i64 a,.int .i64 b,.int .i64 c]) (.agg #[.int .i64 d,.int .i64 e,.int .i64 f])).run Tryz.prog w = .ok (decide (a = d) && (decide (b = e) && decide (c = f))) w := by
 have u3 := Tryz.underlying3
 have hS : Tryz.prog.underlying 27 = some (.struct (Tryz.prog.fieldsOf 27)) := by kernel_rfl
 have hp : Tryz.prog.stoodInHeld 27 = false := by kernel_rfl
 rw [Op.equal,Op.maxDepth,show (10000 : Nat) = 9999 + 1 from rfl,run_equalIn_agg w 9999 _ _ _ hS hp]
 simp only [Program.fieldsOf,Tryz.underlying27]
 go_simp
 by_cases h1 : a = d <;> by_cases h2 : b = e <;> by_cases h3 : c = f <;> simp [h1,h2,h3]
theorem ptKey : KeyEnc Tryz.prog 27 encPt where
 wide := by kernel_rfl
 eq w x y := by
  obtain ⟨a,b,c⟩ := x
  obtain ⟨d,e,f⟩ := y
  rw [encPt,encPt,pt_equal]
  simp [Pt.mk.injEq]
 check w em x := by
  obtain ⟨a,b,c⟩ := x
  show (Instr.checkKey em 10000 27 (.agg #[.int .i64 a,.int .i64 b,.int .i64 c])).run Tryz.prog w = .ok () w
  kernel_rfl
 same x := by
  obtain ⟨a,b,c⟩ := x
  simp [encPt,Instr.sameBits]
def encPr (x : Int × Int) : Value := .agg #[.int .i64 x.1,.int .i64 x.2]
theorem pr_eq (w : World) (a b c d : Int) : (Op.equal 97 (.agg #[.int .i64 a,.int .i64 b]) (.agg #[.int .i64 c,.int .i64 d])).run Tryz.prog w = .ok (decide (a = c) && decide (b = d)) w := by
 have u3 := Tryz.underlying3
 have hS : Tryz.prog.underlying 97 = some (.array 2 3) := by kernel_rfl
 have hc : Tryz.prog.cellsOf 3 = 1 := by kernel_rfl
 obtain ⟨i,hi⟩ : ∃ i,Tryz.prog.info? 3 = some i := Option.isSome_iff_exists.1 (by kernel_rfl)
 rw [Op.equal,Op.maxDepth,show (10000 : Nat) = 9999 + 1 from rfl,run_equalIn_array w 9999 _ _ hS hi,hc]
 clear hi
 simp only [show List.range 2 = [0,1] from rfl,Op.eqItems]
 go_simp
 by_cases h1 : a = c <;> by_cases h2 : b = d <;> simp [h1,h2]
theorem prKey : KeyEnc Tryz.prog 97 encPr where
 wide := by kernel_rfl
 eq w x y := by
  obtain ⟨a,b⟩ := x
  obtain ⟨c,d⟩ := y
  rw [encPr,encPr,pr_eq]
  simp
 check w em x := by
  obtain ⟨a,b⟩ := x
  show (Instr.checkKey em 10000 97 (.agg #[.int .i64 a,.int .i64 b])).run Tryz.prog w = .ok () w
  kernel_rfl
 same x := by
  obtain ⟨a,b⟩ := x
  simp [encPr,Instr.sameBits]

def modelErr (ks : List Knd) (bs : List Brk) : Int := if kindsErr ks = 0 then (if 40 < bs.length then 4 else if bricksB ks.length bs then 0 else 11) else kindsErr ks
theorem modelErr_kinds {ks : List Knd} {bs : List Brk} (h : kindsErr ks ≠ 0) : modelErr ks bs = kindsErr ks := if_neg h
theorem modelErr_many {ks : List Knd} {bs : List Brk} (h : kindsErr ks = 0) (hb : 40 < bs.length) : modelErr ks bs = 4 := by rw [modelErr,if_pos h,if_pos hb]
theorem modelErr_few {ks : List Knd} {bs : List Brk} (h : kindsErr ks = 0) (hb : ¬ 40 < bs.length) : modelErr ks bs = askedErr ks bs := by rw [modelErr,if_pos h,if_neg hb,askedErr,if_pos h]
set_option maxHeartbeats 3200000 in
theorem rBricks_c (qs : List (Knd × KAt)) (A : Option Addr) (cap : Nat) (bs : List Brk) (B : Option Addr) (cb : Nat) (w : World) (hk : Kinds w A cap qs) (hb : Bricks w B cb bs) :
  Calls Tryz.prog 113 #[.slice A qs.length cap,.agg #[.slice B bs.length cb]] w fun e w' => e = .returned (.int .i64 (modelErr (qs.map (·.1)) bs)) ∧ Ext w w' := by
 have hl1 : qs.length ≤ maxLen := hk.len
 have hl2 : bs.length ≤ 9223372036854775807 := by have := hb.len; unfold maxLen at this; omega
 obtain ⟨W1,hW1,E1,B1,hz1⟩ := mk_ w #[.slice B bs.length cb] 25
 have b1 := B1.cell
 clear hz1
 obtain ⟨r,hr⟩ : ∃ r,kindsErr (qs.map (·.1)) = r := ⟨_,rfl⟩
 by_cases h0 : r = 0
 rotate_left
 ·have Hb := Lib.hid (show modelErr (qs.map (·.1)) bs = r by rw [modelErr_kinds (by rw [hr]; exact h0),hr])
  have CK := rCheckKinds_is hr (hk.ext E1)
  have h1 : (r != 0) = true := by simpa using h0
  clear hr h0
  go_enter Tryz.func113,Tryz.ntmps113
  go_wp2_with fail
  refine CK.mono ?_
  rintro v w2 ⟨rfl,E2⟩
  go_wp2_with fail
  go_ret
  exact ⟨by rw [Hb.out]; rfl,E1.trans E2⟩
 subst h0
 have CK := rCheckKinds_is hr (hk.ext E1)
 have Hr := Lib.hid hr
 clear hr
 have Hml := Lib.hid (show (qs.map (·.1)).length = qs.length from List.length_map _)
 by_cases a1 : (40 : Int) < bs.length
 ·have Hb := Lib.hid (modelErr_many (bs := bs) Hr.out (by omega))
  go_enter Tryz.func113,Tryz.ntmps113
  go_wp2_with fail
  refine CK.mono ?_
  rintro v w2 ⟨rfl,E2⟩
  have b2 := (B1.ext E2).cell
  go_wp2_with fail
  go_ret
  exact ⟨by rw [Hb.out]; rfl,E1.trans E2⟩
 have Hf := Lib.hid (modelErr_few (bs := bs) Hr.out (by omega))
 go_enter Tryz.func113,Tryz.ntmps113
 go_wp2_with fail
 refine CK.mono ?_
 rintro v w2 ⟨rfl,E2⟩
 have b2 := (B1.ext E2).cell
 go_wp2_with fail
 go_loopw [6] (fun i wr => ∃ j : Nat,j ≤ bs.length ∧ i = .int .i64 j ∧ Ext W1 wr ∧ Hid (∀ i,i < j → (brkAt bs i).ok qs.length = true)) (fun i _ => bs.length - (intOf i).toNat)
 case atStart => exact ⟨0,by omega,rfl,E2,Lib.hid (fun i hi => by omega)⟩
 case round =>
  obtain ⟨j,hj,rfl,E,Hj⟩ := hrel
  have b3 := (B1.ext E).cell
  have E0 := E1.trans E
  clear b1 b2 E2 hW1
  by_cases hlt : j < bs.length
  ·obtain ⟨g,off,⟨k,⟨x,y,z⟩,t,c⟩,rfl,hq, -,hg,c0,c1,c2,c3,c4,c5⟩ := (hb.ext E0).at_ hlt
   simp only at c0 c1 c2 c3 c4 c5
   have Hq := Lib.hid hq
   have j1 : (0 : Int) ≤ j := by omega
   have j2 : (j : Int) < bs.length := by omega
   clear hq
   cases hv : Brk.ok qs.length ⟨k,⟨x,y,z⟩,t,c⟩
   ·have Hb := Lib.hid (askedErr_bad (bs := bs) Hr.out hlt (by rw [brkAt_eq Hq.out,Hml.out]; exact hv))
    have HV := Lib.hid (fun W => rValidBrick_is (A := A) (cap := cap) hv W hl1)
    clear hv
    go_wp2_with fail
    refine (HV.out _).mono ?_
    rintro v w2 ⟨rfl,E2⟩
    go_wp2_with fail
    go_ret
    exact ⟨by rw [Hf.out,Hb.out]; rfl,E0.trans E2⟩
   ·have hok : ∀ i,i < j + 1 → (brkAt bs i).ok qs.length = true := fun i hi => by
     rcases Nat.lt_or_ge i j with h' | h'
     ·exact Hj.out i h'
     ·obtain rfl : i = j := by omega
      rw [brkAt_eq Hq.out]
      exact hv
    have Hok := Lib.hid hok
    have HV := Lib.hid (fun W => rValidBrick_is (A := A) (cap := cap) hv W hl1)
    clear hv hok
    go_wp2_with fail
    refine (HV.out _).mono ?_
    rintro v w2 ⟨rfl,E2⟩
    go_wp2_with fail
    go_roundw
    case rel => exact ⟨j + 1,by omega,by go_num,E.trans E2,Hok⟩
    case measure => simp only [intOf]; omega
  ·obtain rfl : bs.length = j := by omega
   have Hg := Lib.hid (askedErr_good (bs := bs) Hr.out (by rw [Hml.out]; exact Hj.out))
   go_wp2_with fail
   go_ret
   exact ⟨by rw [Hf.out,Hg.out]; rfl,E0⟩
def commonB (a b : List Pt) : Bool := !allR a.length fun i => !hasP b (ptAt a i)
theorem commonB_iff {a b : List Pt} : commonB a b = true ↔ ∃ p,p ∈ a ∧ p ∈ b := by
 unfold commonB
 rw [Bool.not_eq_true',← Bool.not_eq_true]
 constructor
 ·intro h
  refine Classical.byContradiction fun hn => h (allR_good fun i hi => ?_)
  have hm : ptAt a i ∈ a := by
   rw [ptAt_eq (List.getElem?_eq_getElem hi)]
   exact List.getElem_mem hi
  cases hp : hasP b (ptAt a i)
  ·rfl
  ·exact absurd ⟨_,hm,hasP_iff.1 hp⟩ hn
 ·rintro ⟨p,h1,h2⟩ h
  obtain ⟨i,hi⟩ := List.getElem?_of_mem h1
  have := allR_at h (List.getElem?_eq_some_iff.1 hi).1
  rw [ptAt_eq hi,hasP_iff.2 h2] at this
  cases this
set_option maxHeartbeats 1600000 in
theorem rCommon_c (A B : Option Addr) (ca cb : Nat) (a b : List Pt) (w : World) (ha : Cells w A ca a) (hb : Cells w B cb b) :
  Calls Tryz.prog 151 #[.slice A a.length ca,.slice B b.length cb] w fun e w' => e = .returned (.bool (commonB a b)) ∧ Ext w w' := by
 have hl1 : a.length ≤ 9223372036854775807 := by have := ha.len; unfold maxLen at this; omega
 go_enter Tryz.func151,Tryz.ntmps151
 go_wp2_with fail
 go_loopw [5] (fun i wr => ∃ k : Nat,k ≤ a.length ∧ i = .int .i64 k ∧ Ext w wr ∧ Hid (∀ j,j < k → (!hasP b (ptAt a j)) = true)) (fun i _ => a.length - (intOf i).toNat)
 case atStart => exact ⟨0,by omega,rfl,Ext.refl w,Lib.hid (fun j hj => by omega)⟩
 case round =>
  obtain ⟨k,hk,rfl,E,Hj⟩ := hrel
  by_cases hlt : k < a.length
  ·obtain ⟨g,off,p,rfl,hp,hg,c0,c1,c2⟩ := (ha.ext E).at_ hlt
   have Hp := Lib.hid (ptAt_eq hp)
   have HH := rHas_c B cb b p.x p.y p.z wr (hb.ext E)
   obtain ⟨r,hr⟩ : ∃ r,hasP b ⟨p.x,p.y,p.z⟩ = r := ⟨_,rfl⟩
   rw [hr] at HH
   have Hr := Lib.hid hr
   have j1 : (0 : Int) ≤ k := by omega
   have j2 : (k : Int) < a.length := by omega
   clear hp hr
   cases r
   ·go_wp2_with fail
    refine HH.mono ?_
    rintro v w2 ⟨rfl,E2⟩
    go_wp2_with fail
    go_roundw
    case rel => exact ⟨k + 1,by omega,by go_num,E.trans E2,Lib.hid (fun j hj => by
     rcases Nat.lt_or_ge j k with h' | h'
     ·exact Hj.out j h'
     ·obtain rfl : j = k := by omega
      rw [Hp.out]
      rw [show hasP b p = false from Hr.out]
      rfl)⟩
    case measure => simp only [intOf]; omega
   ·have Hv := Lib.hid (show commonB a b = true by
     rw [commonB,allR_bad hlt (by rw [Hp.out,show hasP b p = true from Hr.out]; rfl)]
     rfl)
    go_wp2_with fail
    refine HH.mono ?_
    rintro v w2 ⟨rfl,E2⟩
    go_wp2_with fail
    go_ret
    exact ⟨by rw [Hv.out]; rfl,E.trans E2⟩
  ·obtain rfl : a.length = k := by omega
   have Hv := Lib.hid (show commonB a b = false by rw [commonB,allR_good Hj.out]; rfl)
   go_wp2_with fail
   go_ret
   exact ⟨by rw [Hv.out]; rfl,E⟩

def prC (p : Int × Int) : List Value := [.int .i64 p.1,.int .i64 p.2]
def Prs (w : World) (A : Option Addr) (cap : Nat) (l : List (Int × Int)) : Prop := SliceIs w A l.length cap 2 (l.map prC)
theorem Prs.ext {w w' : World} {A : Option Addr} {cap : Nat} {l : List (Int × Int)} (h : Prs w A cap l) (e : Ext w w') : Prs w' A cap l := SliceIs.ext h e
theorem Prs.len {w : World} {A : Option Addr} {cap : Nat} {l : List (Int × Int)} (h : Prs w A cap l) : l.length ≤ maxLen := Nat.le_trans h.le h.small
theorem Prs.at_ {w : World} {A : Option Addr} {cap : Nat} {l : List (Int × Int)} (h : Prs w A cap l) {k : Nat} (hk : k < l.length) :
  ∃ b off p,A = some ⟨b,off,none⟩ ∧ l[k]? = some p ∧ b < w.heap.size ∧ w.cell? ⟨b,off + k * 2,none⟩ = some (.int .i64 p.1) ∧ w.cell? ⟨b,off + k * 2 + 1,none⟩ = some (.int .i64 p.2) := by
 obtain ⟨b,off,hA,hb,hc⟩ := SliceIs.cells h (by omega)
 have hget : l[k]? = some l[k] := List.getElem?_eq_getElem hk
 have hr : (l.map prC)[k]? = some (prC l[k]) := by rw [List.getElem?_map,hget]; rfl
 exact ⟨b,off,l[k],hA,hget,hb,hc k _ hr 0 _ rfl,hc k _ hr 1 _ rfl⟩

def bcells (ks : List Knd) (b : Brk) : List Pt := sortP (placeP (kindAt ks b.kind.toNat).cells b.turn.toNat b.at_)
def overB (ks : List Knd) (bs : List Brk) (i k : Nat) : Bool := commonB (bcells ks (brkAt bs i)) (bcells ks (brkAt bs k))
def rowO (ks : List Knd) (bs : List Brk) (i m : Nat) : List (Int × Int) := ((List.range m).filter fun k => decide (i < k) && overB ks bs i k).map fun (k : Nat) => ((i : Int),(k : Int))
def overL (ks : List Knd) (bs : List Brk) (j : Nat) : List (Int × Int) := (List.range j).flatMap fun i => rowO ks bs i bs.length
theorem rowO_zero (ks : List Knd) (bs : List Brk) (i : Nat) : rowO ks bs i (i + 1) = [] := by
 unfold rowO
 rw [List.map_eq_nil_iff,List.filter_eq_nil_iff]
 intro k hk
 have := List.mem_range.1 hk
 simp
 omega
theorem rowO_succ {ks : List Knd} {bs : List Brk} {i m : Nat} (h : i < m) : rowO ks bs i (m + 1) = rowO ks bs i m ++ if overB ks bs i m then [((i : Int),(m : Int))] else [] := by
 unfold rowO
 rw [List.range_succ,List.filter_append,List.map_append]
 congr 1
 cases hb : overB ks bs i m
 ·simp [hb]
 ·simp [hb,h]
theorem overL_succ (ks : List Knd) (bs : List Brk) (j : Nat) : overL ks bs (j + 1) = overL ks bs j ++ rowO ks bs j bs.length := by
 unfold overL
 rw [List.range_succ,List.flatMap_append]
 simp
theorem rowO_len (ks : List Knd) (bs : List Brk) (i m : Nat) : (rowO ks bs i m).length ≤ m := by
 unfold rowO
 rw [List.length_map]
 exact Nat.le_trans (List.length_filter_le _ _) (by simp)
theorem overL_len (ks : List Knd) (bs : List Brk) : ∀ j,(overL ks bs j).length ≤ j * bs.length
 | 0 => by simp [overL]
 | j + 1 => by
  rw [overL_succ,List.length_append,Nat.succ_mul]
  have := overL_len ks bs j
  have := rowO_len ks bs j bs.length
  omega
structure MFine (qs : List (Knd × KAt)) (bs : List Brk) : Prop where
 n : bs.length ≤ 40
 b : ∀ b ∈ bs, ∃ (i tn : Nat) (k : Knd) (p : KAt),b.kind = i ∧ b.turn = tn ∧ tn < 24 ∧ qs[i]? = some (k,p) ∧ k.Fine ∧ Pt.in_ 1000 b.at_ ∧ b.byte
theorem mfine_of {w : World} {QA : Option Addr} {qc : Nat} {qs : List (Knd × KAt)} (hk : Kinds w QA qc qs) {bs : List Brk} (hb : ∀ b ∈ bs,b.byte) (h : modelErr (qs.map (·.1)) bs = 0) : MFine qs bs := by
 by_cases h0 : kindsErr (qs.map (·.1)) = 0
 rotate_left
 ·rw [modelErr_kinds h0] at h
  exact absurd h h0
 by_cases h1 : 40 < bs.length
 ·rw [modelErr_many h0 h1] at h
  cases h
 refine ⟨by omega,fun b hm => ?_⟩
 rw [modelErr_few h0 h1] at h
 unfold askedErr at h
 rw [if_pos h0] at h
 split at h
 rotate_left
 ·cases h
 rename_i h2
 obtain ⟨j,hj⟩ := List.getElem?_of_mem hm
 have h3 := allR_at h2 (List.getElem?_eq_some_iff.1 hj).1
 rw [brkAt_eq hj] at h3
 have hby := hb b hm
 obtain ⟨kd,at_,t,c⟩ := b
 obtain ⟨i,k,p,a1,a2,a3,a4,a5⟩ := asked_kind hk (b := ⟨kd,at_,t,c⟩) (askedErr_good h0 (fun i hi => by
  have hi0 : i = 0 := by simpa using hi
  subst hi0
  exact h3))
 have hb1 := hby.1.1
 simp only at a1 a5 hb1
 exact ⟨i,t.toNat,k,p,a1,by show t = _; omega,by omega,a2,a3,near_in' a4,hby⟩
theorem bcells_is {qs : List (Knd × KAt)} {b : Brk} {i tn : Nat} {k : Knd} {p : KAt} (h1 : b.kind = i) (h2 : b.turn = tn) (hi : qs[i]? = some (k,p)) : bcells (qs.map (·.1)) b = sortP (placeP k.cells tn b.at_) := by
 unfold bcells kindAt
 rw [h1,h2]
 simp [hi]

structure Ov8 (W0 : World) (vQ vI vK vb vb' : Value) (G : Addr) (B : Option Addr) (bn cb : Nat) (p1 p2 : Addr) (n1 n2 : Nat) (L1 L2 : List Pt) (r : Bool) (L : Nat → Bool) (us : Nat → Value) (w : World) : Prop where
 x : Ext W0 w
 f0 : L 0 = true → us 0 = vQ
 f1 : L 1 = true → us 1 = .pointer (some G)
 f2 : L 2 = true → us 2 = .slice B bn cb
 f3 : L 3 = true → us 3 = vI
 f4 : L 4 = true → us 4 = .pointer (some p1)
 f5 : L 5 = true → us 5 = vb
 f6 : L 6 = true → RowV w (us 6) n1 L1
 f7 : L 7 = true → us 7 = vQ
 f8 : L 8 = true → us 8 = .pointer (some G)
 f9 : L 9 = true → us 9 = .slice B bn cb
 f10 : L 10 = true → us 10 = vK
 f11 : L 11 = true → us 11 = .pointer (some p2)
 f12 : L 12 = true → us 12 = vb'
 f13 : L 13 = true → RowV w (us 13) n2 L2
 f14 : L 14 = true → us 14 = .bool r
theorem info2 : (Tryz.prog.info? 97).map (fun i => (i.zero,i.size,i.bytes)) = some (some (.agg #[.int .i64 0,.int .i64 0]),2,16) := by kernel_rfl
def PrsPost (l : List (Int × Int)) (w : World) (e : Ending) (w' : World) : Prop := ∃ A cap,e = .returned (.slice A l.length cap) ∧ Prs w' A cap l ∧ Ext w w'
theorem rRow {w : World} {v : Value} {n : Nat} {l : List Pt} (h : RowV w v n l) (hn : l.length = n) : ∃ g cp,v = .slice (some ⟨g,0,none⟩) n cp ∧ Cells w (some ⟨g,0,none⟩) cp l := by
 obtain ⟨cp,h1,h2,h3,h4⟩ := h
 refine ⟨_,cp,h1,?_⟩
 unfold Cells
 rw [hn]
 exact RowX.slice h4 (pts_wide l) (by rw [List.length_map,hn]) h2 h3
set_option maxRecDepth 100000 in
set_option maxHeartbeats 16000000 in
theorem overlapping_c (qs : List (Knd × KAt)) (QA : Option Addr) (qc : Nat) (bs : List Brk) (B : Option Addr) (cb : Nat) (w : World) (hk : Kinds w QA qc qs) (hb : Bricks w B cb bs) (hf : MFine qs bs) :
  Calls Tryz.prog 114 #[.slice QA qs.length qc,.agg #[.slice B bs.length cb]] w (PrsPost (overL (qs.map (·.1)) bs bs.length) w) := by
 have hbn := hf.n
 obtain ⟨W1,hW1,E1,B1,hz1⟩ := mk_ w #[.slice B bs.length cb] 25
 have b1 := B1.cell
 obtain ⟨T,hT⟩ : ∃ T,w.heap.size = T := ⟨_,rfl⟩
 have hTW : T < W1.heap.size := by omega
 have HZ := Lib.hid (show W1.heap.size = T + 1 by omega)
 rw [hT] at B1
 clear hz1
 have HT := Lib.hid hT
 have PL := Lib.hid (fun (b : Brk) (hm : b ∈ bs) => hf.b b hm)
 have PLc := Lib.hid (fun (W : World) (E : Ext w W) (i tn : Nat) (k : Knd) (p : KAt) (x y z c : Int) (hi : qs[i]? = some (k,p)) (hkf : k.Fine) (ht : tn < 24) (hp : Pt.in_ 1000 ⟨x,y,z⟩) =>
  rPlaced_c qs QA qc i k.cells k.knobs k.weight p.A p.ca p.B p.cb hi tn x y z c W (hk.ext E) hkf.pos (Nat.le_trans hkf.len (by omega)) hkf.cok ht (hp.ok (by omega)))
 obtain ⟨nq,hnq⟩ : ∃ m,qs.length = m := ⟨_,rfl⟩
 obtain ⟨nb,hnb⟩ : ∃ m,bs.length = m := ⟨_,rfl⟩
 rw [hnq] at PLc ⊢
 rw [hnb] at hbn ⊢
 have Hnb := Lib.hid hnb
 rw [hnb] at B1 hW1 b1
 rw [hT] at b1
 have HB := Lib.hid hb
 obtain ⟨ks,hks⟩ : ∃ ks,qs.map (·.1) = ks := ⟨_,rfl⟩
 have Hks := Lib.hid hks
 rw [hks]
 clear hnq hnb hks hf hk hb hT
 go_enter Tryz.func114,Tryz.ntmps114
 go_wp2_with fail
 rw [HT.out]
 obtain ⟨i0,hi0,hz0,hz1,hz2⟩ := info_parts info2
 clear hW1 b1
 go_loopw [5,6] (fun v ii wr => ∃ (j : Nat) (u : Value),j ≤ nb ∧ ii = .int .i64 j ∧ u = v ∧ Ext W1 wr ∧ wr.ownsRow (T + 1) 97 2 u (overL ks bs j).length ((overL ks bs j).map prC).flatten) (fun _ ii _ => nb - (intOf ii).toNat)
 case atStart => exact ⟨0,_,by omega,rfl,rfl,Ext.refl W1,World.ownsRow_nil _ _ _ _⟩
 case round =>
  obtain ⟨j,v,hj,rfl,rfl,Er,own⟩ := hrel
  have b1 := (B1.ext Er).cell
  have hlen := overL_len ks bs j
  rw [Hnb.out] at hlen
  have hlen2 : (overL ks bs j).length ≤ 1600 := Nat.le_trans hlen (Nat.le_trans (Nat.mul_le_mul hj (Nat.le_refl nb)) (Nat.mul_le_mul hbn hbn))
  clear hlen
  by_cases hlt : j < nb
  ·obtain ⟨g,off,⟨kd,⟨x,y,z⟩,t,c⟩,rfl,hq, -,hg, -, -, -, -, -, -⟩ := (HB.out.ext E1).at_ (k := j) (by rw [Hnb.out]; exact hlt)
   obtain ⟨i,tn,kk,p,e1,e2,htn,hqi,hkf,hpt, -⟩ := PL.out _ (List.mem_of_getElem? hq)
   simp only at e1 e2 hpt
   subst e1 e2
   have Hbc := Lib.hid (show bcells ks (brkAt bs j) = sortP (placeP kk.cells tn ⟨x,y,z⟩) by rw [brkAt_eq hq,← Hks.out]; exact bcells_is rfl rfl hqi)
   have P1 := Lib.hid (fun W E => PLc.out W E i tn kk p x y z c hqi hkf htn hpt)
   have hc := SliceIs.cells (HB.out.ext E1).1 (by rw [Hnb.out]; omega)
   obtain ⟨g',off',hgo, -,hcell⟩ := hc
   cases hgo
   have hr1 : (bs.map Brk.cs)[j]? = some [.int .i64 i,.int .i64 x,.int .i64 y,.int .i64 z,.int .u8 tn,.int .u8 c] := by rw [List.getElem?_map,hq]; rfl
   have Hc1 := Lib.hid (fun k u (h : ([.int .i64 i,.int .i64 x,.int .i64 y,.int .i64 z,.int .u8 tn,.int .u8 c] : List Value)[k]? = some u) => hcell _ _ hr1 k u h)
   have Hcell := Lib.hid hcell
   clear hq hqi hkf hpt htn hcell hr1
   go_wp2_with fail
   have Hown := Lib.hid own
   clear b1
   go_loopw [5,7] (fun v ii wr' => ∃ (m : Nat) (u : Value),j + 1 ≤ m ∧ m ≤ nb ∧ ii = .int .i64 m ∧ u = v ∧ Ext W1 wr' ∧ wr'.ownsRow (T + 1) 97 2 u (overL ks bs j ++ rowO ks bs j m).length ((overL ks bs j ++ rowO ks bs j m).map prC).flatten) (fun _ ii _ => nb - (intOf ii).toNat)
   case atStart => exact ⟨j + 1,_,by omega,by omega,by go_num,rfl,Er,by rw [rowO_zero,List.append_nil]; exact own⟩
   case round =>
    clear own Hown Er
    obtain ⟨m,v2,hjm,hm,rfl,rfl,Er,own⟩ := hrel
    have b1 := (B1.ext Er).cell
    have hlen3 := rowO_len ks bs j m
    by_cases hmt : m < nb
    ·have hq2 : bs[m]? = some (bs[m]'(by rw [Hnb.out]; exact hmt)) := List.getElem?_eq_getElem _
     obtain ⟨i2,tn2,k2,p2,e1,e2,htn2,hqi2,hkf2,hpt2, -⟩ := PL.out _ (List.mem_of_getElem? hq2)
     obtain ⟨⟨kd2,⟨x2,y2,z2⟩,t2,c2⟩,hbb⟩ : ∃ b,bs[m]'(by rw [Hnb.out]; exact hmt) = b := ⟨_,rfl⟩
     rw [hbb] at hq2 e1 e2 hpt2
     simp only at e1 e2 hpt2
     subst e1 e2
     have Hbc2 := Lib.hid (show bcells ks (brkAt bs m) = sortP (placeP k2.cells tn2 ⟨x2,y2,z2⟩) by rw [brkAt_eq hq2,← Hks.out]; exact bcells_is rfl rfl hqi2)
     have P2 := Lib.hid (fun W E => PLc.out W E i2 tn2 k2 p2 x2 y2 z2 c2 hqi2 hkf2 htn2 hpt2)
     have hr2 : (bs.map Brk.cs)[m]? = some [.int .i64 i2,.int .i64 x2,.int .i64 y2,.int .i64 z2,.int .u8 tn2,.int .u8 c2] := by rw [List.getElem?_map,hq2]; rfl
     have Hc2 := Lib.hid (fun k u (h : ([.int .i64 i2,.int .i64 x2,.int .i64 y2,.int .i64 z2,.int .u8 tn2,.int .u8 c2] : List Value)[k]? = some u) => Hcell.out _ _ hr2 k u h)
     obtain ⟨L1,hL1⟩ : ∃ L,sortP (placeP kk.cells tn ⟨x,y,z⟩) = L := ⟨_,rfl⟩
     obtain ⟨L2,hL2⟩ : ∃ L,sortP (placeP k2.cells tn2 ⟨x2,y2,z2⟩) = L := ⟨_,rfl⟩
     obtain ⟨n1,hn1⟩ : ∃ n,kk.cells.length = n := ⟨_,rfl⟩
     obtain ⟨n2,hn2⟩ : ∃ n,k2.cells.length = n := ⟨_,rfl⟩
     obtain ⟨r,hr⟩ : ∃ r,commonB L1 L2 = r := ⟨_,rfl⟩
     have Hl1 := Lib.hid (show L1.length = n1 by rw [← hL1,sortP_len,placeP_len,hn1])
     have Hl2 := Lib.hid (show L2.length = n2 by rw [← hL2,sortP_len,placeP_len,hn2])
     have Hr := Lib.hid hr
     have Hov := Lib.hid (show overB ks bs j m = r by unfold overB; rw [Hbc.out,Hbc2.out,hL1,hL2]; exact hr)
     have Hro := Lib.hid (rowO_succ (ks := ks) (bs := bs) (i := j) (m := m) (by omega))
     rw [hL1,hn1] at P1
     rw [hL2,hn2] at P2
     have j1 : (0 : Int) ≤ j := by omega
     have j2 : (j : Int) < nb := by omega
     have m1 : (0 : Int) ≤ m := by omega
     have m2 : (m : Int) < nb := by omega
     have HB1 := Lib.hid (B1.ext Er)
     have HEr := Lib.hid Er
     have HE1 := Lib.hid E1
     have Hown := Lib.hid own
     have hzr := Er.size
     clear hq2 hbb hqi2 hkf2 hpt2 htn2 hr2 hL1 hL2 hn1 hn2 hr
     go_upto_region 8 with (fail)
     clear b1 own
     refine wp_region_by (Ov8 wr (.slice QA nq qc) (.int .i64 j) (.int .i64 m) (.agg #[.int .i64 i,.int .i64 x,.int .i64 y,.int .i64 z,.int .u8 tn,.int .u8 c]) (.agg #[.int .i64 i2,.int .i64 x2,.int .i64 y2,.int .i64 z2,.int .u8 tn2,.int .u8 c2]) ⟨T,0,none⟩ (some ⟨g,off,none⟩) nb cb ⟨g,off + j * 6,none⟩ ⟨g,off + m * 6,none⟩ n1 n2 L1 L2 r) (by kernel_rfl) (by kernel_rfl) (by kernel_rfl) (fun us => ⟨(Ext.refl _).drew,(nofun),(nofun),(nofun),(nofun),(nofun),(nofun),(nofun),(nofun),(nofun),(nofun),(nofun),(nofun),(nofun),(nofun),(nofun)⟩) ⟨?_,?_,?_,?_,?_,?_,?_,?_,?_,?_,?_,?_,?_,?_,?_,trivial⟩ ?_
     ·intro L us wx K a ha hp hd hun hI hK
      have HX := hI.x
      clear hp HX
      replace hd := Lib.hid hd
      simp only [putAll,Act.put,zs,Nat.reduceAdd] at ha
      subst ha
      simp only [Act.put,zs] at hK
      go_simp
      refine hK _ _ ?_
      refine {hI with f0 := ?_} <;> (first | exact fun _ => rfl | skip)
     ·intro L us wx K a ha hp hd hun hI hK
      have HX := hI.x
      clear hp HX
      replace hd := Lib.hid hd
      simp only [putAll,Act.put,zs,Nat.reduceAdd] at ha
      subst ha
      simp only [Act.put,zs] at hK
      go_simp
      refine hK _ _ ?_
      refine {hI with f1 := ?_} <;> (first | exact fun _ => rfl | skip)
     ·intro L us wx K a ha hp hd hun hI hK
      have HX := hI.x
      have u1 := hI.f1 (hp 1 (by kernel_rfl))
      have bb := (HB1.out.ext HX).cell
      clear hp HX
      replace hd := Lib.hid hd
      simp only [putAll,Act.put,zs,Nat.reduceAdd,u1] at ha
      subst ha
      simp only [Act.put,zs] at hK
      go_simp
      refine hK _ _ ?_
      refine {hI with f2 := ?_} <;> (first | exact fun _ => rfl | skip)
     ·intro L us wx K a ha hp hd hun hI hK
      have HX := hI.x
      clear hp HX
      replace hd := Lib.hid hd
      simp only [putAll,Act.put,zs,Nat.reduceAdd] at ha
      subst ha
      simp only [Act.put,zs] at hK
      go_simp
      refine hK _ _ ?_
      refine {hI with f3 := ?_} <;> (first | exact fun _ => rfl | skip)
     ·intro L us wx K a ha hp hd hun hI hK
      have HX := hI.x
      have u2 := hI.f2 (hp 2 (by kernel_rfl))
      have u3 := hI.f3 (hp 3 (by kernel_rfl))
      clear hp HX
      replace hd := Lib.hid hd
      simp only [putAll,Act.put,zs,Nat.reduceAdd,u2,u3] at ha
      subst ha
      simp only [Act.put,zs] at hK
      go_simp
      refine hK _ _ ?_
      refine {hI with f4 := ?_} <;> (first | exact fun _ => rfl | skip)
     ·intro L us wx K a ha hp hd hun hI hK
      have HX := hI.x
      have u4 := hI.f4 (hp 4 (by kernel_rfl))
      have EX := HEr.out.trans HX
      have d0 := EX.cell (Hc1.out 0 _ rfl)
      have d1 := EX.cell (Hc1.out 1 _ rfl)
      have d2 := EX.cell (Hc1.out 2 _ rfl)
      have d3 := EX.cell (Hc1.out 3 _ rfl)
      have d4 := EX.cell (Hc1.out 4 _ rfl)
      have d5 := EX.cell (Hc1.out 5 _ rfl)
      simp only [Nat.add_zero] at d0
      clear EX
      clear hp HX
      replace hd := Lib.hid hd
      simp only [putAll,Act.put,zs,Nat.reduceAdd,u4] at ha
      subst ha
      simp only [Act.put,zs] at hK
      go_simp
      refine hK _ _ ?_
      refine {hI with f5 := ?_} <;> (first | exact fun _ => rfl | skip)
     ·intro L us wx K a ha hp hd hun hI hK
      have HX := hI.x
      have u0 := hI.f0 (hp 0 (by kernel_rfl))
      have u5 := hI.f5 (hp 5 (by kernel_rfl))
      have EX := Lib.hid ((HE1.out.trans HEr.out).trans HX)
      clear hp HX
      replace hd := Lib.hid hd
      simp only [putAll,Act.put,zs,Nat.reduceAdd,u0,u5] at ha
      subst ha
      simp only [Act.put,zs] at hK
      go_simp
      go_at_call 89
      refine (P1.out _ EX.out).mono ?_
      rintro e wn ⟨g2,cp,hg,rfl,q1,q2,X,En⟩
      go_simp
      refine hK _ _ ?_
      refine ⟨hI.x.trans En,hI.f0,hI.f1,hI.f2,hI.f3,hI.f4,hI.f5,?_,hI.f7,hI.f8,hI.f9,hI.f10,hI.f11,hI.f12,?_,hI.f14⟩ <;> (first | exact fun h => (hI.f6 h).ext En | exact fun h => own_ext (hI.f6 h) En | exact fun h => (hI.f13 h).ext En | exact fun h => own_ext (hI.f13 h) En | exact fun _ => rfl | skip)
      all_goals exact fun _ => ⟨cp,rfl,q1,q2,X⟩
     ·intro L us wx K a ha hp hd hun hI hK
      have HX := hI.x
      clear hp HX
      replace hd := Lib.hid hd
      simp only [putAll,Act.put,zs,Nat.reduceAdd] at ha
      subst ha
      simp only [Act.put,zs] at hK
      go_simp
      refine hK _ _ ?_
      refine {hI with f7 := ?_} <;> (first | exact fun _ => rfl | skip)
     ·intro L us wx K a ha hp hd hun hI hK
      have HX := hI.x
      clear hp HX
      replace hd := Lib.hid hd
      simp only [putAll,Act.put,zs,Nat.reduceAdd] at ha
      subst ha
      simp only [Act.put,zs] at hK
      go_simp
      refine hK _ _ ?_
      refine {hI with f8 := ?_} <;> (first | exact fun _ => rfl | skip)
     ·intro L us wx K a ha hp hd hun hI hK
      have HX := hI.x
      have u8 := hI.f8 (hp 8 (by kernel_rfl))
      have bb := (HB1.out.ext HX).cell
      clear hp HX
      replace hd := Lib.hid hd
      simp only [putAll,Act.put,zs,Nat.reduceAdd,u8] at ha
      subst ha
      simp only [Act.put,zs] at hK
      go_simp
      refine hK _ _ ?_
      refine {hI with f9 := ?_} <;> (first | exact fun _ => rfl | skip)
     ·intro L us wx K a ha hp hd hun hI hK
      have HX := hI.x
      clear hp HX
      replace hd := Lib.hid hd
      simp only [putAll,Act.put,zs,Nat.reduceAdd] at ha
      subst ha
      simp only [Act.put,zs] at hK
      go_simp
      refine hK _ _ ?_
      refine {hI with f10 := ?_} <;> (first | exact fun _ => rfl | skip)
     ·intro L us wx K a ha hp hd hun hI hK
      have HX := hI.x
      have u9 := hI.f9 (hp 9 (by kernel_rfl))
      have u10 := hI.f10 (hp 10 (by kernel_rfl))
      clear hp HX
      replace hd := Lib.hid hd
      simp only [putAll,Act.put,zs,Nat.reduceAdd,u9,u10] at ha
      subst ha
      simp only [Act.put,zs] at hK
      go_simp
      refine hK _ _ ?_
      refine {hI with f11 := ?_} <;> (first | exact fun _ => rfl | skip)
     ·intro L us wx K a ha hp hd hun hI hK
      have HX := hI.x
      have u11 := hI.f11 (hp 11 (by kernel_rfl))
      have EX := HEr.out.trans HX
      have d0 := EX.cell (Hc2.out 0 _ rfl)
      have d1 := EX.cell (Hc2.out 1 _ rfl)
      have d2 := EX.cell (Hc2.out 2 _ rfl)
      have d3 := EX.cell (Hc2.out 3 _ rfl)
      have d4 := EX.cell (Hc2.out 4 _ rfl)
      have d5 := EX.cell (Hc2.out 5 _ rfl)
      simp only [Nat.add_zero] at d0
      clear EX
      clear hp HX
      replace hd := Lib.hid hd
      simp only [putAll,Act.put,zs,Nat.reduceAdd,u11] at ha
      subst ha
      simp only [Act.put,zs] at hK
      go_simp
      refine hK _ _ ?_
      refine {hI with f12 := ?_} <;> (first | exact fun _ => rfl | skip)
     ·intro L us wx K a ha hp hd hun hI hK
      have HX := hI.x
      have u7 := hI.f7 (hp 7 (by kernel_rfl))
      have u12 := hI.f12 (hp 12 (by kernel_rfl))
      have EX := Lib.hid ((HE1.out.trans HEr.out).trans HX)
      clear hp HX
      replace hd := Lib.hid hd
      simp only [putAll,Act.put,zs,Nat.reduceAdd,u7,u12] at ha
      subst ha
      simp only [Act.put,zs] at hK
      go_simp
      go_at_call 89
      refine (P2.out _ EX.out).mono ?_
      rintro e wn ⟨g2,cp,hg,rfl,q1,q2,X,En⟩
      go_simp
      refine hK _ _ ?_
      refine ⟨hI.x.trans En,hI.f0,hI.f1,hI.f2,hI.f3,hI.f4,hI.f5,?_,hI.f7,hI.f8,hI.f9,hI.f10,hI.f11,hI.f12,?_,hI.f14⟩ <;> (first | exact fun h => (hI.f6 h).ext En | exact fun h => own_ext (hI.f6 h) En | exact fun h => (hI.f13 h).ext En | exact fun h => own_ext (hI.f13 h) En | exact fun _ => rfl | skip)
      all_goals exact fun _ => ⟨cp,rfl,q1,q2,X⟩
     ·intro L us wx K a ha hp hd hun hI hK
      have HX := hI.x
      have u6 := hI.f6 (hp 6 (by kernel_rfl))
      have u13 := hI.f13 (hp 13 (by kernel_rfl))
      obtain ⟨g1,cp1,v6,S1⟩ := rRow u6 Hl1.out
      obtain ⟨g2,cp2,v13,S2⟩ := rRow u13 Hl2.out
      have CC := rCommon_c _ _ _ _ L1 L2 wx S1 S2
      rw [Hl1.out,Hl2.out,Hr.out] at CC
      clear S1 S2 u6 u13
      clear hp HX
      replace hd := Lib.hid hd
      simp only [putAll,Act.put,zs,Nat.reduceAdd,v6,v13] at ha
      subst ha
      simp only [Act.put,zs] at hK
      go_simp
      go_at_call 151
      refine (CC).mono ?_
      rintro e wn ⟨rfl,En⟩
      go_simp
      refine hK _ _ ?_
      refine ⟨hI.x.trans En,hI.f0,hI.f1,hI.f2,hI.f3,hI.f4,hI.f5,?_,hI.f7,hI.f8,hI.f9,hI.f10,hI.f11,hI.f12,?_,?_⟩ <;> (first | exact fun h => (hI.f6 h).ext En | exact fun h => own_ext (hI.f6 h) En | exact fun h => (hI.f13 h).ext En | exact fun h => own_ext (hI.f13 h) En | exact fun _ => rfl | skip)
     intro L us wx hall hI
     have e14 := hI.f14 (hall 14 (by simp))
     have EX := hI.x
     simp only [putAll,Act.put,zs,Nat.reduceAdd,e14]
     clear hall hI e14
     have own := own_ext Hown.out EX
     have ErX := HEr.out.trans EX
     cases r
     ·go_wp2_with fail
      go_roundw
      case rel => exact ⟨m + 1,_,by omega,by omega,by go_num,rfl,ErX,by rw [Hro.out,Hov.out]; simpa using own⟩
      case measure => simp only [intOf]; omega
     ·have hlX : (overL ks bs j ++ rowO ks bs j m).length + 1 ≤ maxLen := by rw [List.length_append]; unfold maxLen; omega
      have hby : ((overL ks bs j ++ rowO ks bs j m).length + 1) * 16 ≤ 140737488355328 := by rw [List.length_append]; omega
      have hTx : T + 1 ≤ wx.heap.size := by have := EX.size; omega
      go_wp2_with (at_builtin; refine wpList_append_one #[.int .i64 j,.int .i64 m] rfl (.tmp 39) (.tmp 43) 91 rfl (T + 1) 97 97 i0 _ 2 16 Tryz.underlying91 hi0 hz0 hz1 hz2 rfl (by decide) _ _ _ _ rfl own rfl rfl (by simp [Value.oneCell']) hlX hby hTx ?_; intro g7 cap7 w7 own7 hg7)
      go_roundw
      case rel =>
       refine ⟨m + 1,_,by omega,by omega,by go_num,rfl,(ErX.alloc _).grown hg7 (fun r hr => by have := (own.lt r hr).1; have := HZ.out; omega),?_⟩
       rw [Hro.out,Hov.out,if_pos rfl,← List.append_assoc]
       obtain ⟨Z,hZ⟩ : ∃ Z,overL ks bs j ++ rowO ks bs j m = Z := ⟨_,rfl⟩
       rw [hZ,List.length_append,List.map_append,List.flatten_append]
       rw [← List.length_append,hZ]
       rw [hZ] at own7
       exact own7
      case measure => simp only [intOf]; omega
    ·obtain rfl : m = nb := by omega
     clear hlen3
     go_wp2_with fail
     go_roundw
     case rel => exact ⟨j + 1,_,by omega,by go_num,rfl,Er,by rw [overL_succ,Hnb.out]; exact own⟩
     case measure => simp only [intOf]; omega
  ·obtain rfl : j = nb := by omega
   go_wp2_with fail
   go_ret
   obtain ⟨RA,rc,rfl,h1, -⟩ := own_slice0 (rows := (overL ks bs j).map prC) (fun r hr => by obtain ⟨y, -,rfl⟩ := List.mem_map.1 hr; rfl) (by rw [List.length_map]) own
   exact ⟨RA,rc,rfl,h1,E1.trans Er⟩

def checkErr (ks : List Knd) (bs : List Brk) : Int := if modelErr ks bs = 0 then (if overL ks bs bs.length = [] then 0 else 12) else modelErr ks bs
theorem checkErr_bad {ks : List Knd} {bs : List Brk} {e : Int} (h : modelErr ks bs = e) (h0 : e ≠ 0) : checkErr ks bs = e := by rw [checkErr,h,if_neg h0]
theorem checkErr_nil {ks : List Knd} {bs : List Brk} (h : modelErr ks bs = 0) (h0 : overL ks bs bs.length = []) : checkErr ks bs = 0 := by rw [checkErr,if_pos h,if_pos h0]
theorem checkErr_over {ks : List Knd} {bs : List Brk} (h : modelErr ks bs = 0) (h0 : overL ks bs bs.length ≠ []) : checkErr ks bs = 12 := by rw [checkErr,if_pos h,if_neg h0]
theorem rBricks_is {qs : List (Knd × KAt)} {A : Option Addr} {cap : Nat} {bs : List Brk} {B : Option Addr} {cb : Nat} {e0 : Int} (h : modelErr (qs.map (·.1)) bs = e0) {w : World} (hk : Kinds w A cap qs) (hb : Bricks w B cb bs) :
  Calls Tryz.prog 113 #[.slice A qs.length cap,.agg #[.slice B bs.length cb]] w fun e w' => e = .returned (.int .i64 e0) ∧ Ext w w' := by
 subst h
 exact rBricks_c _ _ _ _ _ _ _ hk hb
def ovRes (ks : List Knd) (bs : List Brk) : List (Int × Int) := if modelErr ks bs = 0 then overL ks bs bs.length else []
def PrsRes (l : List (Int × Int)) (e0 : Int) (w : World) (e : Ending) (w' : World) : Prop := ∃ A cap,e = .returned (.tuple #[.slice A l.length cap,.int .i64 e0]) ∧ Prs w' A cap l ∧ Ext w w'
theorem prs_nil (w : World) : Prs w none 0 [] := ⟨rfl,Nat.le_refl _,Nat.zero_le _,by simp,fun h => by cases h⟩
set_option maxHeartbeats 1600000 in
theorem rCheck_c (qs : List (Knd × KAt)) (QA : Option Addr) (qc : Nat) (bs : List Brk) (B : Option Addr) (cb : Nat) (w : World) (hk : Kinds w QA qc qs) (hb : Bricks w B cb bs) :
  Calls Tryz.prog 87 #[.slice QA qs.length qc,.agg #[.slice B bs.length cb]] w fun e w' => e = .returned (.int .i64 (checkErr (qs.map (·.1)) bs)) ∧ Ext w w' := by
 obtain ⟨W1,hW1,E1,B1,hz1⟩ := mk_ w #[.slice B bs.length cb] 25
 have b1 := B1.cell
 clear hz1
 obtain ⟨r,hr⟩ : ∃ r,modelErr (qs.map (·.1)) bs = r := ⟨_,rfl⟩
 have CB := rBricks_is hr (hk.ext E1) (hb.ext E1)
 by_cases h0 : r = 0
 ·subst h0
  have OV := Lib.hid (fun W (E : Ext w W) => overlapping_c qs QA qc bs B cb W (hk.ext E) (hb.ext E) (mfine_of hk hb.2 hr))
  obtain ⟨L,hL⟩ : ∃ L,overL (qs.map (·.1)) bs bs.length = L := ⟨_,rfl⟩
  rw [hL] at OV
  by_cases hn : L.length = 0
  ·have Hv := Lib.hid (checkErr_nil hr (by rw [hL]; exact List.eq_nil_of_length_eq_zero hn))
   have hn' : ¬ (0 : Int) < L.length := by omega
   clear hr hL hn hk hb
   go_enter Tryz.func87,Tryz.ntmps87
   go_wp2_with fail
   refine CB.mono ?_
   rintro e W2 ⟨rfl,E2⟩
   have b2 := (B1.ext E2).cell
   go_wp2_with fail
   refine (OV.out _ (E1.trans E2)).mono ?_
   rintro e W3 ⟨RA,rc,rfl,S1,E3⟩
   go_wp2_with fail
   go_ret
   exact ⟨by rw [Hv.out]; rfl,(E1.trans E2).trans E3⟩
  ·have Hv := Lib.hid (checkErr_over hr (by rw [hL]; rintro rfl; exact hn rfl))
   have hn' : (0 : Int) < L.length := by omega
   clear hr hL hn hk hb
   go_enter Tryz.func87,Tryz.ntmps87
   go_wp2_with fail
   refine CB.mono ?_
   rintro e W2 ⟨rfl,E2⟩
   have b2 := (B1.ext E2).cell
   go_wp2_with fail
   refine (OV.out _ (E1.trans E2)).mono ?_
   rintro e W3 ⟨RA,rc,rfl,S1,E3⟩
   go_wp2_with fail
   go_ret
   exact ⟨by rw [Hv.out]; rfl,(E1.trans E2).trans E3⟩
 ·have Hv := Lib.hid (checkErr_bad hr h0)
  have h1 : (r != 0) = true := by simpa using h0
  clear hr h0 hk hb
  go_enter Tryz.func87,Tryz.ntmps87
  go_wp2_with fail
  refine CB.mono ?_
  rintro e W2 ⟨rfl,E2⟩
  go_wp2_with fail
  go_ret
  exact ⟨by rw [Hv.out]; rfl,E1.trans E2⟩
end Go.Proofs.YtjacbhomhjoolaaGreat
