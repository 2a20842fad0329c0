
/- Bricks: which are valid for how many kinds; the errors of kinds and bricks, in the program (check) and the reference (asked). No conditions. Contracts of the shelf, laid at this program in plain declarations (written by program): slices.SortFunc[[]studwork/api.Cell,studwork/api.Cell]. slices.SortFunc on cells by the program's order: the block holds the sorted cells. cells of the program: the cells of a placed kind, in order, in new memory. Conditions: the kind's cells are valid, the turn is one, the place is not far. knobs of the program: the knobs of a placed kind, in new memory. Conditions: the kind's knobs are valid, the turn is one, the place is not far. -/
import Derived.Test.YtjacbhomhjoolaaGreatBRKind
import Derived.Shelf.SlLaysF0
import Derived.Test.YtjacbhomhjoolaaGreatProg
import Derived.Test.YtjacbhomhjoolaaGreatBOrd
import Derived.Test.YtjacbhomhjoolaaGreatBLib
import Derived.Shelf.SlSortCmp.WholeK
import Derived.Sort.LotA
import Derived.Shelf.SlSortCmp.QuietGrown
import Derived.Test.YtjacbhomhjoolaaGreatBTurnB
namespace Go.Proofs.YtjacbhomhjoolaaGreat
open Go.RowKit

structure Brk where
 kind : Int
 at_ : Pt
 turn : Int
 color : Int
def Brk.v (b : Brk) : Value := .agg #[.int .i64 b.kind,.int .i64 b.at_.x,.int .i64 b.at_.y,.int .i64 b.at_.z,.int .u8 b.turn,.int .u8 b.color]
def Brk.cs (b : Brk) : List Value := [.int .i64 b.kind,.int .i64 b.at_.x,.int .i64 b.at_.y,.int .i64 b.at_.z,.int .u8 b.turn,.int .u8 b.color]
def Brk.byte (b : Brk) : Prop := (0 ≤ b.turn ∧ b.turn ≤ 255) ∧ 0 ≤ b.color ∧ b.color ≤ 255
def Brk.ok (n : Nat) (b : Brk) : Bool := decide (0 ≤ b.kind) && (decide (b.kind < n) && (nearB b.at_ (-1000) 1000 && (decide (b.turn < 24) && decide (b.color ≤ 15))))
theorem Brk.ok_iff {n : Nat} {b : Brk} : b.ok n = true ↔ 0 ≤ b.kind ∧ b.kind < n ∧ nearB b.at_ (-1000) 1000 = true ∧ b.turn < 24 ∧ b.color ≤ 15 := by
 simp only [Brk.ok,Bool.and_eq_true,decide_eq_true_eq]
theorem Brk.ok_not {n : Nat} {b : Brk} (h : ¬ (0 ≤ b.kind ∧ b.kind < n ∧ nearB b.at_ (-1000) 1000 = true ∧ b.turn < 24 ∧ b.color ≤ 15)) : b.ok n = false := by
 rw [← Bool.not_eq_true,Brk.ok_iff]
 exact h
def Bricks (w : World) (A : Option Addr) (cap : Nat) (l : List Brk) : Prop := SliceIs w A l.length cap 6 (l.map Brk.cs) ∧ ∀ b ∈ l,b.byte
theorem Bricks.ext {w w' : World} {A : Option Addr} {cap : Nat} {l : List Brk} (h : Bricks w A cap l) (e : Ext w w') : Bricks w' A cap l := ⟨SliceIs.ext h.1 e,h.2⟩
theorem Bricks.len {w : World} {A : Option Addr} {cap : Nat} {l : List Brk} (h : Bricks w A cap l) : l.length ≤ maxLen := Nat.le_trans h.1.le h.1.small
theorem Bricks.at_ {w : World} {A : Option Addr} {cap : Nat} {l : List Brk} (h : Bricks w A cap l) {k : Nat} (hk : k < l.length) :
  ∃ b off p,A = some ⟨b,off,none⟩ ∧ l[k]? = some p ∧ p.byte ∧ b < w.heap.size ∧ w.cell? ⟨b,off + k * 6,none⟩ = some (.int .i64 p.kind) ∧ w.cell? ⟨b,off + k * 6 + 1,none⟩ = some (.int .i64 p.at_.x) ∧
   w.cell? ⟨b,off + k * 6 + 2,none⟩ = some (.int .i64 p.at_.y) ∧ w.cell? ⟨b,off + k * 6 + 3,none⟩ = some (.int .i64 p.at_.z) ∧ w.cell? ⟨b,off + k * 6 + 4,none⟩ = some (.int .u8 p.turn) ∧ w.cell? ⟨b,off + k * 6 + 5,none⟩ = some (.int .u8 p.color) := by
 obtain ⟨b,off,hA,hb,hc⟩ := SliceIs.cells h.1 (by omega)
 have hget : l[k]? = some l[k] := List.getElem?_eq_getElem hk
 have hr : (l.map Brk.cs)[k]? = some l[k].cs := by rw [List.getElem?_map,hget]; rfl
 exact ⟨b,off,l[k],hA,hget,h.2 _ (List.getElem_mem hk),hb,hc k _ hr 0 _ rfl,hc k _ hr 1 _ rfl,hc k _ hr 2 _ rfl,hc k _ hr 3 _ rfl,hc k _ hr 4 _ rfl,hc k _ hr 5 _ rfl⟩
set_option maxHeartbeats 1600000 in
theorem valid_c (n cap : Nat) (A : Option Addr) (k x y z t c : Int) (w : World) (hn0 : n ≤ maxLen) :
  Calls Tryz.prog 72 #[.slice A n cap,.agg #[.int .i64 k,.int .i64 x,.int .i64 y,.int .i64 z,.int .u8 t,.int .u8 c]] w fun e w' => e = .returned (.bool (Brk.ok n ⟨k,⟨x,y,z⟩,t,c⟩)) ∧ Ext w w' := by
 have hn := hn0
 unfold maxLen at hn
 obtain ⟨W1,hW1,E1,B1,hz1⟩ := mk_ w #[.int .i64 k,.int .i64 x,.int .i64 y,.int .i64 z,.int .u8 t,.int .u8 c] 51
 have b1 := B1.cell
 by_cases a1 : 0 ≤ k
 rotate_left
 ·have Hb := Lib.hid (show Brk.ok n ⟨k,⟨x,y,z⟩,t,c⟩ = false from Brk.ok_not (by
   show ¬ (0 ≤ k ∧ k < n ∧ _ ∧ t < 24 ∧ c ≤ 15)
   omega))
  go_enter Tryz.func72,Tryz.ntmps72
  go_wp2_with fail
  go_ret
  exact ⟨by rw [Hb.out]; rfl,E1⟩
 by_cases a2 : k < n
 rotate_left
 ·have Hb := Lib.hid (show Brk.ok n ⟨k,⟨x,y,z⟩,t,c⟩ = false from Brk.ok_not (by
   show ¬ (0 ≤ k ∧ k < n ∧ _ ∧ t < 24 ∧ c ≤ 15)
   omega))
  go_enter Tryz.func72,Tryz.ntmps72
  go_wp2_with fail
  go_ret
  exact ⟨by rw [Hb.out]; rfl,E1⟩
 cases hr : nearB ⟨x,y,z⟩ (-1000) 1000
 ·have Hb := Lib.hid (show Brk.ok n ⟨k,⟨x,y,z⟩,t,c⟩ = false from Brk.ok_not (by
   rw [show (Brk.mk k ⟨x,y,z⟩ t c).at_ = ⟨x,y,z⟩ from rfl,hr]
   exact fun h => by cases h.2.2.1))
  go_enter Tryz.func72,Tryz.ntmps72
  go_wp2_with fail
  refine (near_is hr _).mono ?_
  rintro v w2 ⟨rfl,E2⟩
  go_wp2_with fail
  go_ret
  exact ⟨by rw [Hb.out]; rfl,E1.trans E2⟩
 by_cases a3 : t < 24
 rotate_left
 ·have Hb := Lib.hid (show Brk.ok n ⟨k,⟨x,y,z⟩,t,c⟩ = false from Brk.ok_not (by
   show ¬ (0 ≤ k ∧ k < n ∧ _ ∧ t < 24 ∧ c ≤ 15)
   omega))
  go_enter Tryz.func72,Tryz.ntmps72
  go_wp2_with fail
  refine (near_is hr _).mono ?_
  rintro v w2 ⟨rfl,E2⟩
  have b2 := (B1.ext E2).cell
  go_wp2_with fail
  go_ret
  exact ⟨by rw [Hb.out]; rfl,E1.trans E2⟩
 by_cases a4 : c ≤ 15
 rotate_left
 ·have Hb := Lib.hid (show Brk.ok n ⟨k,⟨x,y,z⟩,t,c⟩ = false from Brk.ok_not (by
   show ¬ (0 ≤ k ∧ k < n ∧ _ ∧ t < 24 ∧ c ≤ 15)
   omega))
  have d4 : decide (c ≤ 15) = false := by simp; omega
  go_enter Tryz.func72,Tryz.ntmps72
  go_wp2_with fail
  refine (near_is hr _).mono ?_
  rintro v w2 ⟨rfl,E2⟩
  have b2 := (B1.ext E2).cell
  go_wp2_with fail
  go_ret
  exact ⟨by rw [Hb.out]; rfl,E1.trans E2⟩
 ·have Hb := Lib.hid (show Brk.ok n ⟨k,⟨x,y,z⟩,t,c⟩ = true from Brk.ok_iff.2 ⟨a1,a2,hr,a3,a4⟩)
  go_enter Tryz.func72,Tryz.ntmps72
  go_wp2_with fail
  refine (near_is hr _).mono ?_
  rintro v w2 ⟨rfl,E2⟩
  have b2 := (B1.ext E2).cell
  go_wp2_with fail
  go_ret
  exact ⟨by rw [Hb.out]; rfl,E1.trans E2⟩
set_option maxHeartbeats 1600000 in
theorem rValidBrick_c (n cap : Nat) (A : Option Addr) (k x y z t c : Int) (w : World) (hn : n ≤ maxLen) :
  Calls Tryz.prog 150 #[.slice A n cap,.agg #[.int .i64 k,.int .i64 x,.int .i64 y,.int .i64 z,.int .u8 t,.int .u8 c]] w fun e w' => e = .returned (.bool (Brk.ok n ⟨k,⟨x,y,z⟩,t,c⟩)) ∧ Ext w w' := by
 unfold maxLen at hn
 obtain ⟨W1,hW1,E1,B1,hz1⟩ := mk_ w #[.int .i64 k,.int .i64 x,.int .i64 y,.int .i64 z,.int .u8 t,.int .u8 c] 51
 have b1 := B1.cell
 have f1 : IntKind.i64.wrap ((n : Int) - 1) = (n : Int) - 1 := IntWalk.i64_in _ (by omega)
 cases hi : inB 0 ((n : Int) - 1) k
 ·have Hb := Lib.hid (show Brk.ok n ⟨k,⟨x,y,z⟩,t,c⟩ = false from Brk.ok_not (by
   have := inB_not.1 hi
   show ¬ (0 ≤ k ∧ k < n ∧ _ ∧ t < 24 ∧ c ≤ 15)
   omega))
  go_enter Tryz.func150,Tryz.ntmps150
  go_wp2_with fail
  refine (within_is hi _).mono ?_
  rintro v w2 ⟨rfl,rfl⟩
  go_wp2_with fail
  go_ret
  exact ⟨by rw [Hb.out]; rfl,E1⟩
 have hi2 := inB_iff.1 hi
 cases hr : nearB ⟨x,y,z⟩ (-1000) 1000
 ·have Hb := Lib.hid (show Brk.ok n ⟨k,⟨x,y,z⟩,t,c⟩ = false from Brk.ok_not (by
   rw [show (Brk.mk k ⟨x,y,z⟩ t c).at_ = ⟨x,y,z⟩ from rfl,hr]
   exact fun h => by cases h.2.2.1))
  go_enter Tryz.func150,Tryz.ntmps150
  go_wp2_with fail
  refine (within_is hi _).mono ?_
  rintro v w2 ⟨rfl,rfl⟩
  go_wp2_with fail
  refine (rnear_is hr _).mono ?_
  rintro v w2 ⟨rfl,E2⟩
  go_wp2_with fail
  go_ret
  exact ⟨by rw [Hb.out]; rfl,E1.trans E2⟩
 by_cases a3 : t < 24
 rotate_left
 ·have Hb := Lib.hid (show Brk.ok n ⟨k,⟨x,y,z⟩,t,c⟩ = false from Brk.ok_not (by
   show ¬ (0 ≤ k ∧ k < n ∧ _ ∧ t < 24 ∧ c ≤ 15)
   omega))
  go_enter Tryz.func150,Tryz.ntmps150
  go_wp2_with fail
  refine (within_is hi _).mono ?_
  rintro v w2 ⟨rfl,rfl⟩
  go_wp2_with fail
  refine (rnear_is hr _).mono ?_
  rintro v w2 ⟨rfl,E2⟩
  have b2 := (B1.ext E2).cell
  go_wp2_with fail
  go_ret
  exact ⟨by rw [Hb.out]; rfl,E1.trans E2⟩
 by_cases a4 : c ≤ 15
 rotate_left
 ·have Hb := Lib.hid (show Brk.ok n ⟨k,⟨x,y,z⟩,t,c⟩ = false from Brk.ok_not (by
   show ¬ (0 ≤ k ∧ k < n ∧ _ ∧ t < 24 ∧ c ≤ 15)
   omega))
  have d4 : decide (c ≤ 15) = false := by simp; omega
  go_enter Tryz.func150,Tryz.ntmps150
  go_wp2_with fail
  refine (within_is hi _).mono ?_
  rintro v w2 ⟨rfl,rfl⟩
  go_wp2_with fail
  refine (rnear_is hr _).mono ?_
  rintro v w2 ⟨rfl,E2⟩
  have b2 := (B1.ext E2).cell
  go_wp2_with fail
  go_ret
  exact ⟨by rw [Hb.out]; rfl,E1.trans E2⟩
 ·have Hb := Lib.hid (show Brk.ok n ⟨k,⟨x,y,z⟩,t,c⟩ = true from Brk.ok_iff.2 ⟨by show 0 ≤ k; omega,by show k < n; omega,hr,a3,a4⟩)
  go_enter Tryz.func150,Tryz.ntmps150
  go_wp2_with fail
  refine (within_is hi _).mono ?_
  rintro v w2 ⟨rfl,rfl⟩
  go_wp2_with fail
  refine (rnear_is hr _).mono ?_
  rintro v w2 ⟨rfl,E2⟩
  have b2 := (B1.ext E2).cell
  go_wp2_with fail
  go_ret
  exact ⟨by rw [Hb.out]; rfl,E1.trans E2⟩
theorem valid_is {n cap : Nat} {A : Option Addr} {k x y z t c : Int} {r : Bool} (h : Brk.ok n ⟨k,⟨x,y,z⟩,t,c⟩ = r) (w : World) (hn : n ≤ maxLen) :
  Calls Tryz.prog 72 #[.slice A n cap,.agg #[.int .i64 k,.int .i64 x,.int .i64 y,.int .i64 z,.int .u8 t,.int .u8 c]] w fun e w' => e = .returned (.bool r) ∧ Ext w w' := by
 subst h
 exact valid_c _ _ _ _ _ _ _ _ _ _ hn
theorem rValidBrick_is {n cap : Nat} {A : Option Addr} {k x y z t c : Int} {r : Bool} (h : Brk.ok n ⟨k,⟨x,y,z⟩,t,c⟩ = r) (w : World) (hn : n ≤ maxLen) :
  Calls Tryz.prog 150 #[.slice A n cap,.agg #[.int .i64 k,.int .i64 x,.int .i64 y,.int .i64 z,.int .u8 t,.int .u8 c]] w fun e w' => e = .returned (.bool r) ∧ Ext w w' := by
 subst h
 exact rValidBrick_c _ _ _ _ _ _ _ _ _ _ hn

/-! The error of kinds and bricks. -/
def brkAt (l : List Brk) (i : Nat) : Brk := l.getD i ⟨0,⟨0,0,0⟩,0,0⟩
theorem brkAt_eq {l : List Brk} {k : Nat} {p : Brk} (h : l[k]? = some p) : brkAt l k = p := by simp [brkAt,h]
def bricksB (n : Nat) (bs : List Brk) : Bool := allR bs.length fun i => (brkAt bs i).ok n
def askedErr (ks : List Knd) (bs : List Brk) : Int := if kindsErr ks = 0 then (if bricksB ks.length bs then 0 else 11) else kindsErr ks
theorem askedErr_kinds {ks : List Knd} {bs : List Brk} (h : kindsErr ks ≠ 0) : askedErr ks bs = kindsErr ks := if_neg h
theorem askedErr_bad {ks : List Knd} {bs : List Brk} (h : kindsErr ks = 0) {j : Nat} (hj : j < bs.length) (hb : (brkAt bs j).ok ks.length = false) : askedErr ks bs = 11 := by
 rw [askedErr,if_pos h,bricksB,allR_bad hj hb]
 rfl
theorem askedErr_good {ks : List Knd} {bs : List Brk} (h : kindsErr ks = 0) (hb : ∀ j,j < bs.length → (brkAt bs j).ok ks.length = true) : askedErr ks bs = 0 := by
 rw [askedErr,if_pos h,bricksB,allR_good hb]
 rfl
theorem checkKinds_is {qs : List (Knd × KAt)} {A : Option Addr} {cap : Nat} {r : Int} (h : kindsErr (qs.map (·.1)) = r) {w : World} (hk : Kinds w A cap qs) :
  Calls Tryz.prog 29 #[.slice A qs.length cap] w fun e w' => e = .returned (.int .i64 r) ∧ Ext w w' := by
 subst h
 exact checkKinds_c _ _ _ _ hk
theorem rCheckKinds_is {qs : List (Knd × KAt)} {A : Option Addr} {cap : Nat} {r : Int} (h : kindsErr (qs.map (·.1)) = r) {w : World} (hk : Kinds w A cap qs) :
  Calls Tryz.prog 149 #[.slice A qs.length cap] w fun e w' => e = .returned (.int .i64 r) ∧ Ext w w' := by
 subst h
 exact rCheckKinds_c _ _ _ _ hk
set_option maxHeartbeats 3200000 in
theorem check_c (qs : List (Knd × KAt)) (A : Option Addr) (cap : Nat) (bs : List Brk) (B : Option Addr) (cb : Nat) (w : World) (hk : Kinds w A cap qs) (hb : Bricks w B cb bs) :
  Calls Tryz.prog 47 #[.slice A qs.length cap,.slice B bs.length cb] w fun e w' => e = .returned (.int .i64 (askedErr (qs.map (·.1)) bs)) ∧ Ext w w' := by
 have hl1 : qs.length ≤ maxLen := hk.len
 have hl2 : bs.length ≤ 9223372036854775807 := by have := hb.len; unfold maxLen at this; omega
 obtain ⟨r,hr⟩ : ∃ r,kindsErr (qs.map (·.1)) = r := ⟨_,rfl⟩
 by_cases h0 : r = 0
 rotate_left
 ·have Hb := Lib.hid (show askedErr (qs.map (·.1)) bs = r by rw [askedErr_kinds (by rw [hr]; exact h0),hr])
  have CK := checkKinds_is hr hk
  have h1 : (r != 0) = true := by simpa using h0
  clear hr h0
  go_enter Tryz.func47,Tryz.ntmps47
  go_wp2_with fail
  refine CK.mono ?_
  rintro v w2 ⟨rfl,E2⟩
  go_wp2_with fail
  go_ret
  exact ⟨by rw [Hb.out]; rfl,E2⟩
 subst h0
 have CK := checkKinds_is hr hk
 have Hr := Lib.hid hr
 clear hr
 have Hml := Lib.hid (show (qs.map (·.1)).length = qs.length from List.length_map _)
 go_enter Tryz.func47,Tryz.ntmps47
 go_wp2_with fail
 refine CK.mono ?_
 rintro v w2 ⟨rfl,E2⟩
 go_wp2_with fail
 go_loopw [15] (fun i wr => ∃ j : Nat,j ≤ bs.length ∧ i = .int .i64 j ∧ Ext w wr ∧ Hid (∀ i,i < j → (brkAt bs i).ok qs.length = true)) (fun i _ => bs.length - (intOf i).toNat)
 case atStart => exact ⟨0,by omega,rfl,E2,Lib.hid (fun i hi => by omega)⟩
 case round =>
  clear E2
  obtain ⟨j,hj,rfl,E,Hj⟩ := hrel
  by_cases hlt : j < bs.length
  ·obtain ⟨g,off,⟨k,⟨x,y,z⟩,t,c⟩,rfl,hq, -,hg,c0,c1,c2,c3,c4,c5⟩ := (hb.ext E).at_ hlt
   simp only at c0 c1 c2 c3 c4 c5
   have Hq := Lib.hid hq
   clear hq
   obtain ⟨W4,hW4,E4,B4,hz4⟩ := mk_ wr #[.int .i64 k,.int .i64 x,.int .i64 y,.int .i64 z,.int .u8 t,.int .u8 c] 51
   have b4 := B4.cell
   cases hv : Brk.ok qs.length ⟨k,⟨x,y,z⟩,t,c⟩
   ·have Hb := Lib.hid (askedErr_bad (bs := bs) Hr.out hlt (by rw [brkAt_eq Hq.out,Hml.out]; exact hv))
    have HV := Lib.hid (fun W => valid_is (A := A) (cap := cap) hv W hl1)
    clear hv
    go_wp2_with fail
    refine (HV.out _).mono ?_
    rintro v w2 ⟨rfl,E2⟩
    go_wp2_with fail
    go_ret
    exact ⟨by rw [Hb.out]; rfl,(E.trans E4).trans E2⟩
   ·have hok : ∀ i,i < j + 1 → (brkAt bs i).ok qs.length = true := fun i hi => by
     rcases Nat.lt_or_ge i j with h' | h'
     ·exact Hj.out i h'
     ·obtain rfl : i = j := by omega
      rw [brkAt_eq Hq.out]
      exact hv
    have Hok := Lib.hid hok
    have HV := Lib.hid (fun W => valid_is (A := A) (cap := cap) hv W hl1)
    clear hv hok
    go_wp2_with fail
    refine (HV.out _).mono ?_
    rintro v w2 ⟨rfl,E2⟩
    go_wp2_with fail
    go_roundw
    case rel => exact ⟨j + 1,by omega,by go_num,(E.trans E4).trans E2,Hok⟩
    case measure => simp only [intOf]; omega
  ·obtain rfl : bs.length = j := by omega
   have Hg := Lib.hid (askedErr_good (bs := bs) Hr.out (by rw [Hml.out]; exact Hj.out))
   go_wp2_with fail
   go_ret
   exact ⟨by rw [Hg.out]; rfl,E⟩
theorem brick_new (w : World) (b : Brk) (hb : b.byte) (t : TypeId) : Bricks (w.alloc (.cells #[.int .i64 b.kind,.int .i64 b.at_.x,.int .i64 b.at_.y,.int .i64 b.at_.z,.int .u8 b.turn,.int .u8 b.color] t)) (some ⟨w.heap.size,0,none⟩) 1 [b] := by
 refine ⟨⟨rfl,Nat.le_refl _,by unfold maxLen; omega,by simp [Brk.cs],fun _ => ⟨_,0,rfl,by simp,fun i r hr j u hu => ?_⟩⟩,fun x hx => by rw [List.mem_singleton.1 hx]; exact hb⟩
 have hi : i = 0 := by
  rcases Nat.eq_zero_or_pos i with h | h
  ·exact h
  ·rw [List.getElem?_eq_none (by simp; omega)] at hr; cases hr
 subst hi
 simp only [List.map_cons,List.map_nil,List.getElem?_cons_zero,Option.some.injEq] at hr
 subst hr
 rw [cell_new]
 simpa [Brk.cs] using hu
theorem check1_c (qs : List (Knd × KAt)) (A : Option Addr) (cap : Nat) (k x y z t c : Int) (w : World) (hk : Kinds w A cap qs) (hb : Brk.byte ⟨k,⟨x,y,z⟩,t,c⟩) (ty : TypeId) :
  Calls Tryz.prog 47 #[.slice A qs.length cap,.slice (some ⟨w.heap.size,0,none⟩) 1 1] (w.alloc (.cells #[.int .i64 k,.int .i64 x,.int .i64 y,.int .i64 z,.int .u8 t,.int .u8 c] ty)) fun e w' => e = .returned (.int .i64 (askedErr (qs.map (·.1)) [⟨k,⟨x,y,z⟩,t,c⟩])) ∧ Ext w w' :=
 (check_c qs A cap [⟨k,⟨x,y,z⟩,t,c⟩] (some ⟨w.heap.size,0,none⟩) 1 _ (hk.ext ((Ext.refl w).alloc _)) (brick_new w ⟨k,⟨x,y,z⟩,t,c⟩ hb ty)).mono fun _ _ ⟨he,hE⟩ => ⟨he,((Ext.refl w).alloc _).trans hE⟩
end Go.Proofs.YtjacbhomhjoolaaGreat
namespace Go.Proofs.YtjacbhomhjoolaaGreat
open Go.Shelf

def sortCells_ren : Go.Shelf.Ren := ⟨fun | 6 => 81 | 15 => 103 | 14 => 112 | 28 => 131 | 29 => 132 | 20 => 141 | 21 => 142 | 22 => 143 | 23 => 144 | 24 => 145 | 25 => 146 | 26 => 147 | 27 => 148 | 46 => 165 | 47 => 158 | 48 => 159 | 49 => 166 | 50 => 167 | 57 => 178 | n => n,fun | 22 => 47 | 24 => 27 | 25 => 119 | 3 => 3 | 39 => 191 | 0 => 0 | 53 => 211 | 55 => 213 | 4 => 4 | 46 => 205 | 45 => 204 | 50 => 135 | 5 => 5 | 9 => 9 | 66 => 228 | 70 => 232 | 76 => 243 | 77 => 82 | n => n,fun | n => n⟩
theorem sortCells : SlLaysF0.n6 Tryz.prog sortCells_ren := {
 mixed := by kernel_rfl,
 f6 := ⟨Tryz.f81.name,by decide,Tryz.func81.trans (congrArg some (by kernel_rfl))⟩,
 f14 := ⟨Tryz.f112.name,by decide,Tryz.func112.trans (congrArg some (by kernel_rfl))⟩,
 f15 := Tryz.func103.trans (congrArg some (by kernel_rfl)),
 f20 := ⟨Tryz.f141.name,by decide,Tryz.func141.trans (congrArg some (by kernel_rfl))⟩,
 f21 := ⟨Tryz.f142.name,by decide,Tryz.func142.trans (congrArg some (by kernel_rfl))⟩,
 f22 := ⟨Tryz.f143.name,by decide,Tryz.func143.trans (congrArg some (by kernel_rfl))⟩,
 f23 := ⟨Tryz.f144.name,by decide,Tryz.func144.trans (congrArg some (by kernel_rfl))⟩,
 f24 := ⟨Tryz.f145.name,by decide,Tryz.func145.trans (congrArg some (by kernel_rfl))⟩,
 f25 := ⟨Tryz.f146.name,by decide,Tryz.func146.trans (congrArg some (by kernel_rfl))⟩,
 f26 := ⟨Tryz.f147.name,by decide,Tryz.func147.trans (congrArg some (by kernel_rfl))⟩,
 f27 := ⟨Tryz.f148.name,by decide,Tryz.func148.trans (congrArg some (by kernel_rfl))⟩,
 f28 := Tryz.func131.trans (congrArg some (by kernel_rfl)),
 f29 := Tryz.func132.trans (congrArg some (by kernel_rfl)),
 f46 := ⟨Tryz.f165.name,by decide,Tryz.func165.trans (congrArg some (by kernel_rfl))⟩,
 f47 := Tryz.func158.trans (congrArg some (by kernel_rfl)),
 f48 := Tryz.func159.trans (congrArg some (by kernel_rfl)),
 f49 := ⟨Tryz.f166.name,by decide,Tryz.func166.trans (congrArg some (by kernel_rfl))⟩,
 f50 := ⟨Tryz.f167.name,by decide,Tryz.func167.trans (congrArg some (by kernel_rfl))⟩,
 f57 := ⟨Tryz.f178.name,by decide,Tryz.func178.trans (congrArg some (by kernel_rfl))⟩,
 t0 := Tryz.underlying0,
 a0 := Tryz.isAgg0,
 z0 := Tryz.sizeOf0,
 v0 := Tryz.zeroValue0,
 t3 := Tryz.underlying3,
 a3 := Tryz.isAgg3,
 z3 := Tryz.sizeOf3,
 v3 := Tryz.zeroValue3,
 t4 := Tryz.underlying4,
 a4 := Tryz.isAgg4,
 z4 := Tryz.sizeOf4,
 v4 := Tryz.zeroValue4,
 t5 := Tryz.underlying5,
 a5 := Tryz.isAgg5,
 z5 := Tryz.sizeOf5,
 v5 := Tryz.zeroValue5,
 t9 := Tryz.underlying9,
 a9 := Tryz.isAgg9,
 z9 := Tryz.sizeOf9,
 v9 := Tryz.zeroValue9,
 t22 := Tryz.underlying47,
 a22 := Tryz.isAgg47,
 z22 := Tryz.sizeOf47,
 v22 := Tryz.zeroValue47,
 t25 := Tryz.underlying119,
 a25 := Tryz.isAgg119,
 z25 := Tryz.sizeOf119,
 v25 := Tryz.zeroValue119,
 t39 := Tryz.underlying191,
 a39 := Tryz.isAgg191,
 z39 := Tryz.sizeOf191,
 v39 := Tryz.zeroValue191,
 t45 := Tryz.underlying204,
 a45 := Tryz.isAgg204,
 z45 := Tryz.sizeOf204,
 v45 := Tryz.zeroValue204,
 t46 := Tryz.underlying205,
 a46 := Tryz.isAgg205,
 z46 := Tryz.sizeOf205,
 v46 := Tryz.zeroValue205,
 t50 := Tryz.underlying135,
 a50 := Tryz.isAgg135,
 z50 := Tryz.sizeOf135,
 v50 := Tryz.zeroValue135,
 t53 := Tryz.underlying211,
 a53 := Tryz.isAgg211,
 z53 := Tryz.sizeOf211,
 v53 := Tryz.zeroValue211,
 t55 := Tryz.underlying213,
 a55 := Tryz.isAgg213,
 z55 := Tryz.sizeOf213,
 v55 := Tryz.zeroValue213,
 t66 := Tryz.underlying228,
 a66 := Tryz.isAgg228,
 z66 := Tryz.sizeOf228,
 v66 := Tryz.zeroValue228,
 t70 := Tryz.underlying232,
 a70 := Tryz.isAgg232,
 z70 := Tryz.sizeOf232,
 v70 := Tryz.zeroValue232,
 t76 := Tryz.underlying243,
 a76 := Tryz.isAgg243,
 z76 := Tryz.sizeOf243,
 v76 := Tryz.zeroValue243,
 t77 := Tryz.underlying82,
 a77 := Tryz.isAgg82,
 z77 := Tryz.sizeOf82,
 v77 := Tryz.zeroValue82 }
end Go.Proofs.YtjacbhomhjoolaaGreat
namespace Go.Proofs.YtjacbhomhjoolaaGreat
open Go.RowKit

instance : Inhabited Pt := ⟨⟨0,0,0⟩⟩
theorem wp_region_tailG {P : Program} {id : Nat} {Q : Exit → Act → World → Prop} {a : Act} {w : World} {l : List Oper} (n : Nat) (hm : P.follows .mixedOrders = true) (hB : Region.lexTailB .any l.toArray n = true)
  (h : wpQuiet P l.toArray (fun w' => ∃ p : Go.GrownBy,w' = Go.Sort.grow (w.drewN p.n) p.os) (fun a' => ∀ w',(∃ p : Go.GrownBy,w' = Go.Sort.grow (w.drewN p.n) p.os) → wpList P l.toArray Q (l.drop n) a' w') (l.take n) a) : (Code.region id l.toArray true).wp P Q a w := by
 simp only [Region.lexTailB,Bool.and_eq_true,decide_eq_true_eq] at hB
 obtain ⟨⟨⟨⟨hsel,hn⟩,hs⟩,hc⟩,hlex⟩ := hB
 have hn' : n < l.length := by simpa using hn
 have htl : (l.take n).length = n := by simp; omega
 have hdl : (l.drop n).length = l.toArray.size - n := by simp
 have inv0 : HeadInv .any l.toArray n (Array.replicate l.toArray.size false) :=
  ⟨by simp,fun j oj _ hl => (by rw [getD_replicate_false] at hl; cases hl),fun t _ ht => getD_in (by simpa using ht) (getD_replicate_false _ _)⟩
 have H := headQ_lex (P := P) (C := fun w' => ∃ p : Go.GrownBy,w' = Go.Sort.grow (w.drewN p.n) p.os) (md := .any) (g := l.toArray.size - n) hsel hs hc hn (l.take n) 0 _ a (fun j hj => by
  rw [htl] at hj
  simp [hj]) (by simpa using htl) inv0 (by rw [htl]; exact hlex) h
 refine wp_region_any hm ?_
 have H2 := any_of_headQ (Q' := Q) (g := l.toArray.size - n) (fun listed a' hL w' hw' => by
  have := wpAny_of_seq (md := .any) (Q' := Q) (l.drop n) n listed a' w' (fun j => by simp [List.getElem?_drop]) (by rw [hdl]; exact hL.1) (hL.2 w' hw')
  rwa [hdl] at this) _ _ _ H { w with drawn := w.drawn + 1 } ⟨⟨1,#[]⟩,by rw [Go.Sort.grow_empty]; rfl⟩
 rw [htl,show n + (l.toArray.size - n) = l.toArray.size from by omega] at H2
 exact H2
def Grn (w w' : World) : Prop := ∃ q os,w' = Go.Sort.grow (w.drewN q) os
theorem Grn.refl (w : World) : Grn w w := ⟨0,#[],by rw [Go.Sort.grow_empty]; rfl⟩
theorem Grn.trans {a b c : World} (h : Grn a b) (k : Grn b c) : Grn a c := by
 obtain ⟨q,os,rfl⟩ := h
 obtain ⟨q',os',rfl⟩ := k
 exact ⟨q + q',os ++ os',by
  show Go.Sort.grow (Go.Sort.grow ((a.drewN q).drewN q') os) os' = _
  rw [Go.Sort.grow_grow,World.drewN_drewN]⟩
theorem Grn.alloc {a b : World} (h : Grn a b) (o : Obj) : Grn a (b.alloc o) := h.trans ⟨0,#[o],by
 show b.alloc o = Go.Sort.grow b #[o]
 unfold World.alloc Go.Sort.grow
 rw [Array.push_eq_append]⟩
theorem Grn.ext {a b : World} (h : Grn a b) : Ext a b := by
 obtain ⟨q,os,rfl⟩ := h
 exact grow_below a ⟨os,a.drawn + q⟩
set_option maxHeartbeats 1600000 in
theorem order_g (a b c d e f : Int) (w : World) :
  Calls Tryz.prog 55 #[.agg #[.int .i64 a,.int .i64 b,.int .i64 c],.agg #[.int .i64 d,.int .i64 e,.int .i64 f]] w fun v w' => v = .returned (.int .i64 (ordP ⟨a,b,c⟩ ⟨d,e,f⟩)) ∧ Grn w w' := by
 have hG := ((Grn.refl w).alloc (.cells #[.int .i64 a,.int .i64 b,.int .i64 c] 27)).alloc (.cells #[.int .i64 d,.int .i64 e,.int .i64 f] 27)
 obtain ⟨W1,hW1,E1,B1,hz1⟩ := mk_ w #[.int .i64 a,.int .i64 b,.int .i64 c] 27
 obtain ⟨W2,hW2,E2,B2,hz2⟩ := mk_ W1 #[.int .i64 d,.int .i64 e,.int .i64 f] 27
 rw [hW1,hW2] at hG
 have B1' := B1.ext E2
 rw [hz1] at B2
 have a0 := Go.cell_grown B1'.lt (B1'.cell 0)
 have a1 := Go.cell_grown B1'.lt (B1'.cell 1)
 have a2 := Go.cell_grown B1'.lt (B1'.cell 2)
 have c0 := Go.cell_grown B2.lt (B2.cell 0)
 have c1 := Go.cell_grown B2.lt (B2.cell 1)
 have c2 := Go.cell_grown B2.lt (B2.cell 2)
 go_enter Tryz.func55,Tryz.ntmps55
 go_upto_region 1 with (fail)
 clear hW1 hW2 hz1 hz2 B1 E1 E2 B1' B2
 refine wp_region_tailG 15 (by kernel_rfl) (by kernel_rfl) ?_
 simp only [List.take_succ_cons,List.take_zero,List.drop_succ_cons,List.drop_zero]
 repeat (go_big_quiet_step ((go_at_call 80; exact (cmpZ_c _ _ _).mono fun _ _ ⟨he,hw⟩ => ⟨he,_,hw.symm⟩)))
 refine wpQuiet_nil ?_
 intro W3 hW3
 have hG3 : Grn w W3 := by
  obtain ⟨p,rfl⟩ := hW3
  exact hG.trans ⟨p.n,p.os,rfl⟩
 clear hW3 hG a0 a1 a2 c0 c1 c2
 go_wp2_with fail
 refine (or3_c _ _ _ _ _).mono ?_
 rintro v w4 ⟨rfl,rfl⟩
 go_wp2_with fail
 go_ret
 exact ⟨rfl,hG3.alloc _⟩

/-! The sort. -/
def sortP (l : List Pt) : List Pt := l.mergeSort fun x y => !ltP y x
def ptsA (l : List Pt) : Array Value := rowsA (l.map Pt.cs)
theorem pts_wide (l : List Pt) : ∀ r ∈ l.map Pt.cs,r.length = 3 := fun r h => by
 obtain ⟨p,_,rfl⟩ := List.mem_map.1 h
 rfl
theorem ltOf_ordP : ltOf ordP = ltP := by
 funext x y
 unfold ltOf
 rw [Bool.eq_iff_iff,decide_eq_true_eq,ordP_neg]
theorem swoP : Go.Sort.SWO ltP where
 irrefl := ltP_irrefl
 trans _ _ _ := ltP_trans
 ntrans x y z h k := by
  rw [ltP_not] at *
  omega
theorem ltP_total (x y : Pt) (h : ltP x y = false) (k : ltP y x = false) : x = y := by
 rcases ordP_cases x y with ⟨e,_⟩ | ⟨e,_⟩ | ⟨e,_⟩
 ·rw [h] at e
  cases e
 ·exact e
 ·rw [k] at e
  cases e
theorem flatK_pts (l : List Pt) : Go.Sort.flatK Pt.cs 3 l.toArray = ptsA l := by
 refine rowsA_ext (pts_wide l) (by simp) fun i j r u hr hu => ?_
 rw [List.getElem?_map] at hr
 obtain ⟨p,hp,rfl⟩ := Option.map_eq_some_iff.1 hr
 obtain ⟨hi,hpi⟩ := List.getElem?_eq_some_iff.1 hp
 have hj : j < 3 := (List.getElem?_eq_some_iff.1 hu).1
 have hlt : i * 3 + j < l.toArray.size * 3 := by simp; omega
 rw [Array.getElem?_eq_getElem (by simpa using hlt),← getElem!_pos,Go.Sort.get_flatK _ _ _ _ hlt,show (i * 3 + j) / 3 = i by omega,show (i * 3 + j) % 3 = j by omega,getElem!_pos l.toArray i (by simpa using hi)]
 have e1 : l.toArray[i]'(by simpa using hi) = p := by simpa using hpi
 rw [e1,← hu]
 rw [List.getElem!_eq_getElem?_getD,hu]
 rfl
theorem putPts {w : World} {g n : Nat} {os : Array Obj} {l l' : List Pt} {t : TypeId} (hl : l'.length = l.length) (hb : Blk w g t (ptsA l)) :
  Blk (sortWorldK Pt.cs 3 w g 0 n l'.toArray os) g t (ptsA l') ∧ w.grownBy (sortWorldK Pt.cs 3 w g 0 n l'.toArray os) (some g) := by
 have hg := hb.lt
 constructor
 ·unfold sortWorldK Go.Sort.putRowK
  rw [flatK_pts]
  show (Go.Sort.grow _ _).heap[g]? = _
  rw [Go.Sort.heap_grow_old _ _ (by simpa using hg)]
  have hb' : w.heap[g]? = some (.cells (ptsA l) t (0,0)) := hb
  have e : Go.Sort.putCells id 0 (ptsA l') (ptsA l) = ptsA l' := by
   apply Array.ext_getElem?
   intro k
   have hs : (ptsA l').size = (ptsA l).size := by unfold ptsA; rw [rowsA_size (pts_wide l),rowsA_size (pts_wide l')]; simp [hl]
   rcases Nat.lt_or_ge k (ptsA l).size with hk | hk
   ·have hk' : k < (ptsA l').size := by omega
    simp [Go.Sort.putCells,hk,hk']
   ·rw [Array.getElem?_eq_none (by simpa [Go.Sort.putCells] using hk),Array.getElem?_eq_none (by omega)]
  simp [Go.Sort.putRow,Go.Sort.mapBlock,Go.Sort.ahead,Array.getElem?_modify,hb',Go.Sort.onCells,e]
 ·refine ⟨rfl,rfl,rfl,by simp [sortWorldK,Go.Sort.putRowK],fun k hk hne => ?_⟩
  unfold sortWorldK Go.Sort.putRowK
  rw [Go.Sort.heap_grow_old _ _ (by simpa using hk)]
  have : g ≠ k := fun e => hne (by rw [e])
  simp [Go.Sort.putRow,Go.Sort.mapBlock,Go.Sort.ahead,Array.getElem?_modify,this]
theorem sortFunc_c (l : List Pt) (g : Nat) (w : World) (hB : Blk w g 27 (ptsA l)) (hn : l.length ≤ 100000) :
  Calls Tryz.prog 81 #[.slice (some ⟨g,0,none⟩) l.length l.length,.func (.func 55) #[] #[]] w fun e w' => e = .returned (.tuple #[]) ∧ Blk w' g 27 (ptsA (sortP l)) ∧ w.grownBy w' (some g) := by
 have hH : Go.Sort.HoldsK Pt.cs 3 w g 0 l.toArray := by
  unfold Go.Sort.HoldsK
  rw [flatK_pts]
  intro j hj
  refine ⟨?_,by rw [Nat.zero_add]; exact hB.frozen j⟩
  rw [Nat.zero_add,hB.cell,Array.getElem?_eq_getElem hj,getElem!_pos (ptsA l) j hj]
  rfl
 have hcmp : CmpLays Tryz.prog 55 #[] Pt.cs 3 ordP g 0 l.toArray.size w := fun m os dk _ x y => (order_g x.x x.y x.z y.x y.y y.z _).mono fun _ _ ⟨he,q,os',hw⟩ => ⟨he,q,os',hw⟩
 have h := AnyQ.slices_SortFunc sortCells 3 Tryz.isAgg27 Tryz.sizeOf27 Pt.cs (fun _ => rfl) (fun x v hv => by
   simp only [Pt.cs,List.mem_cons,List.not_mem_nil,or_false] at hv
   rcases hv with rfl | rfl | rfl <;> rfl) ordP (by rw [ltOf_ordP]; exact swoP) 55 #[] g 0 l.length l.toArray w (enters_of Tryz.func55 (by kernel_rfl) rfl) hcmp hH hB.lt (by simp; omega)
 rw [ltOf_ordP] at h
 refine (show Calls Tryz.prog 81 _ _ _ from h).mono ?_
 rintro e w' ⟨rfl,d',n,os,hp,hs,rfl⟩
 obtain rfl : d' = (sortP l).toArray := Array.ext' (Go.Sort.sorted_unique_holds swoP ltP_total l.toArray d' hp hs)
 exact ⟨rfl,putPts (List.length_mergeSort l) hB⟩

def placeP (cells : List Pt) (n : Nat) (p : Pt) : List Pt := cells.map fun c => addP (turnS c n) p
theorem placeP_len (cells : List Pt) (n : Nat) (p : Pt) : (placeP cells n p).length = cells.length := List.length_map _
def partL {α : Type} (z : α) (l : List α) (j : Nat) : List α := l.take j ++ List.replicate (l.length - j) z
theorem partL_zero {α : Type} (z : α) (l : List α) : partL z l 0 = List.replicate l.length z := by simp [partL]
theorem partL_all {α : Type} (z : α) (l : List α) : partL z l l.length = l := by simp [partL]
theorem partL_len {α : Type} (z : α) (l : List α) {j : Nat} (hj : j ≤ l.length) : (partL z l j).length = l.length := by simp [partL]; omega
theorem partL_set {α : Type} (z : α) (l : List α) {j : Nat} {x : α} (hx : l[j]? = some x) : (partL z l j).set j x = partL z l (j + 1) := by
 have hj : j < l.length := (List.getElem?_eq_some_iff.1 hx).1
 unfold partL
 rw [List.take_add_one,hx,List.set_append_right _ _ (by rw [List.length_take]; omega)]
 have e : l.length - j = (l.length - (j + 1)) + 1 := by omega
 rw [e,List.replicate_succ]
 simp [Nat.min_eq_left (Nat.le_of_lt hj)]
theorem partL_at {α : Type} (z : α) (l : List α) {j : Nat} (hj : j < l.length) : (partL z l j)[j]? = some z := by
 unfold partL
 rw [List.getElem?_append_right (by rw [List.length_take]; omega),List.length_take,Nat.min_eq_left (Nat.le_of_lt hj),Nat.sub_self,List.getElem?_replicate,if_pos (by omega)]
theorem infoPt : (Tryz.prog.info? 27).map (fun i => (i.zero,i.size,i.bytes)) = some (some (.agg #[.int .i64 0,.int .i64 0,.int .i64 0]),3,24) := by kernel_rfl
theorem make_pts (n : Nat) (hn : n ≤ 1000) (w : World) : (Instr.makeSlice 47 (.int .i64 (n : Int)) (.int .i64 (n : Int))).run Tryz.prog w = .ok (.slice (some ⟨w.heap.size,0,none⟩) n n) (w.alloc (.cells (ptsA (List.replicate n ⟨0,0,0⟩)) 27)) := by
 obtain ⟨i0,hi,hz0,hz1,hz2⟩ := info_parts infoPt
 have h := run_make (P := Tryz.prog) w 47 27 i0 (.agg #[.int .i64 0,.int .i64 0,.int .i64 0]) Tryz.underlying47 hi hz0 .i64 .i64 (n : Int) (n : Int) (by omega) (Int.le_refl _) (by rw [hz2]; omega) (by omega)
 rw [h]
 have e : madeCells (Value.cells (.agg #[.int .i64 0,.int .i64 0,.int .i64 0])) ((n : Int).toNat * i0.size) = ptsA (List.replicate n ⟨0,0,0⟩) := by
  rw [hz1,Int.toNat_natCast,rowsA_made (sz := 3) rfl (by omega)]
  unfold ptsA
  rw [List.map_replicate]
  rfl
 rw [e]
 simp
def CellsPost (l : List Pt) (n : Nat) (w : World) (e : Ending) (w' : World) : Prop := ∃ g,w.heap.size ≤ g ∧ e = .returned (.slice (some ⟨g,0,none⟩) n n) ∧ Blk w' g 27 (ptsA l) ∧ Ext w w'
set_option maxRecDepth 100000 in
set_option maxHeartbeats 8000000 in
theorem cells_c (cells : List Pt) (m cb : Nat) (wt : Int) (A : Option Addr) (ca : Nat) (B : Option Addr) (n : Nat) (x y z : Int) (w : World) (hc : Cells w A ca cells) (hl : cells.length ≤ 1000) (hok : ∀ p ∈ cells,p.ok) (hn : n < 24) (hp : Pt.ok ⟨x,y,z⟩) :
  Calls Tryz.prog 53 #[.agg #[.slice A cells.length ca,.slice B m cb,.int .i64 wt],.int .i64 n,.agg #[.int .i64 x,.int .i64 y,.int .i64 z]] w (CellsPost (sortP (placeP cells n ⟨x,y,z⟩)) cells.length w) := by
 have hmk := make_pts cells.length (by omega)
 obtain ⟨W1,hW1,E1,B1,hz1⟩ := mk_ w #[.slice A cells.length ca,.slice B m cb,.int .i64 wt] 72
 obtain ⟨W2,hW2,E2,B2,hz2⟩ := mk_ W1 #[.int .i64 x,.int .i64 y,.int .i64 z] 27
 obtain ⟨W3,hW3,E3,B3,hz3⟩ := mk_ W2 (ptsA (List.replicate cells.length ⟨0,0,0⟩)) 27
 rw [hz1] at B2
 rw [hz2,hz1] at B3
 have B1' := B1.ext E2
 have b1 := B1'.cell
 have b3 := (B1'.ext E3).cell
 have E13 := (E1.trans E2).trans E3
 go_enter Tryz.func53,Tryz.ntmps53
 go_wp2_with fail
 have BK := B1'.ext E3
 have BP := B2.ext E3
 rw [← placeP_len cells n ⟨x,y,z⟩,← partL_zero] at B3
 clear hW1 hW2 hW3 hz1 hz2 hz3 b1 b3 B1 B1' B2 hmk E1 E2 E3
 have Hpl := Lib.hid (placeP_len cells n ⟨x,y,z⟩)
 obtain ⟨S,hS⟩ : ∃ S,w.heap.size = S := ⟨_,rfl⟩
 rw [hS] at B3 BK BP ⊢
 have HS := Lib.hid hS
 clear hS
 go_loopw [17] (fun i wr => ∃ j : Nat,j ≤ cells.length ∧ i = .int .i64 j ∧ Ext w wr ∧ Blk wr S 72 #[.slice A cells.length ca,.slice B m cb,.int .i64 wt] ∧ Blk wr (S + 1) 27 #[.int .i64 x,.int .i64 y,.int .i64 z] ∧ Blk wr (S + 1 + 1) 27 (ptsA (partL ⟨0,0,0⟩ (placeP cells n ⟨x,y,z⟩) j))) (fun i _ => cells.length - (intOf i).toNat)
 case atStart => exact ⟨0,by omega,rfl,E13,BK,BP,B3⟩
 case round =>
  clear B3 BK BP E13
  obtain ⟨j,hj,rfl,E,BK,BP,BO⟩ := hrel
  by_cases hlt : j < cells.length
  ·obtain ⟨g,off,⟨qx,qy,qz⟩,rfl,hq,hg,c0,c1,c2⟩ := hc.at_ hlt
   simp only at c0 c1 c2
   have d0 := E.cell c0
   have d1 := E.cell c1
   have d2 := E.cell c2
   clear c0 c1 c2
   have hqo := hok _ (List.mem_of_getElem? hq)
   have hset : (placeP cells n ⟨x,y,z⟩)[j]? = some (addP (turnS ⟨qx,qy,qz⟩ n) ⟨x,y,z⟩) := by
    unfold placeP
    rw [List.getElem?_map,hq]
    rfl
   have Hset := Lib.hid hset
   clear hq hset
   have i1 : (0 : Int) ≤ j := by omega
   have i2 : (j : Int) < cells.length := by omega
   obtain ⟨W4,hW4,E4,B4,hz4⟩ := mk_ wr #[.int .i64 qx,.int .i64 qy,.int .i64 qz] 27
   have b4 := B4.cell
   have b2 := (BP.ext E4).cell
   go_upto_region 5 with (fail)
   refine wp_region_tail 8 (by kernel_rfl) (by kernel_rfl) ?_
   simp only [List.take_succ_cons,List.take_zero,List.drop_succ_cons,List.drop_zero]
   repeat (go_big_quiet_step ((first | (go_at_call 45; exact quiet_ext (turn_c qx qy qz n _ hn hqo)) | (go_at_call 44; exact quiet_ext (plus_c _ _ _ _ _ _ _ (turnS_ok hqo n) hp)))))
   refine wpQuiet_nil ?_
   intro W5 hW5
   have E5 : Ext W4 W5 := by
    obtain ⟨x,rfl⟩ := hW5
    exact (Ext.refl _).grow x
   clear hW5
   obtain ⟨hcW5,hfW5,hzW5⟩ := ext_facts E5
   have BO' := (BO.ext E4).ext E5
   unfold ptsA at BO'
   obtain ⟨W6,hW6,B6,far6,ext6,hz6⟩ := BO'.row3 (pts_wide _) (k := j) (by rw [List.length_map,partL_len _ _ (by rw [Hpl.out]; omega),Hpl.out]; omega) (.int .i64 ((turnS ⟨qx,qy,qz⟩ n).x + x)) (.int .i64 ((turnS ⟨qx,qy,qz⟩ n).y + y)) (.int .i64 ((turnS ⟨qx,qy,qz⟩ n).z + z))
   have f6 := BO'.frozen
   have hz0 : ((partL (⟨0,0,0⟩ : Pt) (placeP cells n ⟨x,y,z⟩) j).map Pt.cs)[j]? = some (Pt.cs ⟨0,0,0⟩) := by rw [List.getElem?_map,partL_at _ _ (by rw [Hpl.out]; exact hlt)]; rfl
   have y0 := (BO'.cell (j * 3 + 0)).trans (rowsA_get (pts_wide _) hz0 (j := 0) rfl)
   have y1 := (BO'.cell (j * 3 + 1)).trans (rowsA_get (pts_wide _) hz0 (j := 1) rfl)
   have y2 := (BO'.cell (j * 3 + 2)).trans (rowsA_get (pts_wide _) hz0 (j := 2) rfl)
   simp only [Nat.add_zero] at y0
   clear hz0
   go_wp2_with fail
   go_roundw
   case rel => exact ⟨j + 1,by omega,by go_num,ext6 _ ((E.trans E4).trans E5) (by have := HS.out; omega),far6 _ _ _ (by omega) ((BK.ext E4).ext E5),far6 _ _ _ (by omega) ((BP.ext E4).ext E5),by
    rw [← partL_set _ _ Hset.out]
    unfold ptsA
    rw [List.map_set]
    exact B6⟩
   case measure => simp only [intOf]; omega
  ·obtain rfl : cells.length = j := by omega
   have hpa : partL ⟨0,0,0⟩ (placeP cells n ⟨x,y,z⟩) cells.length = placeP cells n ⟨x,y,z⟩ := by
    have := partL_all ⟨0,0,0⟩ (placeP cells n ⟨x,y,z⟩)
    rwa [Hpl.out] at this
   rw [hpa] at BO
   have SF := sortFunc_c (placeP cells n ⟨x,y,z⟩) (S + 1 + 1) wr BO (by rw [Hpl.out]; omega)
   rw [Hpl.out] at SF
   clear hpa
   go_wp2_with fail
   refine SF.mono ?_
   rintro v w2 ⟨rfl,B2,G2⟩
   go_wp2_with fail
   go_ret
   exact ⟨S + 1 + 1,by have := HS.out; omega,rfl,B2,E.grown G2 (fun k hk => by cases hk; have := HS.out; omega)⟩

def knobT (n : Nat) (p : Pt) (x : Knb) : Knb := ⟨addP (turnS x.at_ n) p,dirT x.dir.toNat n,x.sort⟩
def placeK (knobs : List Knb) (n : Nat) (p : Pt) : List Knb := knobs.map (knobT n p)
theorem placeK_len (knobs : List Knb) (n : Nat) (p : Pt) : (placeK knobs n p).length = knobs.length := List.length_map _
def knbsA (l : List Knb) : Array Value := rowsA (l.map Knb.cs)
theorem knbs_wide (l : List Knb) : ∀ r ∈ l.map Knb.cs,r.length = 5 := fun r h => by
 obtain ⟨p,_,rfl⟩ := List.mem_map.1 h
 rfl
theorem infoKnb : (Tryz.prog.info? 109).map (fun i => (i.zero,i.size,i.bytes)) = some (some (.agg #[.int .i64 0,.int .i64 0,.int .i64 0,.int .u8 0,.int .u8 0]),5,32) := by kernel_rfl
def zK : Knb := ⟨⟨0,0,0⟩,0,0⟩
theorem make_knbs (n : Nat) (hn : n ≤ 1000) (w : World) : (Instr.makeSlice 70 (.int .i64 (n : Int)) (.int .i64 (n : Int))).run Tryz.prog w = .ok (.slice (some ⟨w.heap.size,0,none⟩) n n) (w.alloc (.cells (knbsA (List.replicate n zK)) 109)) := by
 obtain ⟨i0,hi,hz0,hz1,hz2⟩ := info_parts infoKnb
 have h := run_make (P := Tryz.prog) w 70 109 i0 _ Tryz.underlying70 hi hz0 .i64 .i64 (n : Int) (n : Int) (by omega) (Int.le_refl _) (by rw [hz2]; omega) (by omega)
 rw [h]
 have e : madeCells (Value.cells (.agg #[.int .i64 0,.int .i64 0,.int .i64 0,.int .u8 0,.int .u8 0])) ((n : Int).toNat * i0.size) = knbsA (List.replicate n zK) := by
  rw [hz1,Int.toNat_natCast,rowsA_made (sz := 5) rfl (by omega)]
  unfold knbsA
  rw [List.map_replicate]
  rfl
 rw [e]
 simp
def KnobsPost (l : List Knb) (n : Nat) (w : World) (e : Ending) (w' : World) : Prop := ∃ g,w.heap.size ≤ g ∧ e = .returned (.slice (some ⟨g,0,none⟩) n n) ∧ Blk w' g 109 (knbsA l) ∧ Ext w w'
theorem direction_t (d n : Nat) (hd : d < 6) (hn : n < 24) (w : World) :
  Calls Tryz.prog 51 #[.agg #[.int .i64 (turnS ⟨(stepS d).x,(stepS d).y,(stepS d).z⟩ n).x,.int .i64 (turnS ⟨(stepS d).x,(stepS d).y,(stepS d).z⟩ n).y,.int .i64 (turnS ⟨(stepS d).x,(stepS d).y,(stepS d).z⟩ n).z]] w fun e w' => e = .returned (.int .i64 (dirT d n)) ∧ Ext w w' := by
 have := direction_c (dirT d n) (dirT_lt hd hn) w
 rw [← dirT_eq hd hn] at this
 exact this
def Knb.fine (x : Knb) : Prop := x.at_.ok ∧ 0 ≤ x.dir ∧ x.dir ≤ 5
set_option maxRecDepth 100000 in
set_option maxHeartbeats 8000000 in
theorem knobs_c (m ca : Nat) (knobs : List Knb) (wt : Int) (A : Option Addr) (B : Option Addr) (cb : Nat) (n : Nat) (x y z : Int) (w : World) (hk : Knobs w B cb knobs) (hl : knobs.length ≤ 1000) (hok : ∀ p ∈ knobs,p.fine) (hn : n < 24) (hp : Pt.ok ⟨x,y,z⟩) :
  Calls Tryz.prog 77 #[.agg #[.slice A m ca,.slice B knobs.length cb,.int .i64 wt],.int .i64 n,.agg #[.int .i64 x,.int .i64 y,.int .i64 z]] w (KnobsPost (placeK knobs n ⟨x,y,z⟩) knobs.length w) := by
 have hmk := make_knbs knobs.length (by omega)
 obtain ⟨W1,hW1,E1,B1,hz1⟩ := mk_ w #[.slice A m ca,.slice B knobs.length cb,.int .i64 wt] 72
 obtain ⟨W2,hW2,E2,B2,hz2⟩ := mk_ W1 #[.int .i64 x,.int .i64 y,.int .i64 z] 27
 obtain ⟨W3,hW3,E3,B3,hz3⟩ := mk_ W2 (knbsA (List.replicate knobs.length zK)) 109
 rw [hz1] at B2
 rw [hz2,hz1] at B3
 have B1' := B1.ext E2
 have b1 := B1'.cell
 have b3 := (B1'.ext E3).cell
 have E13 := (E1.trans E2).trans E3
 go_enter Tryz.func77,Tryz.ntmps77
 go_wp2_with fail
 have BK := B1'.ext E3
 have BP := B2.ext E3
 rw [← placeK_len knobs n ⟨x,y,z⟩,← partL_zero] at B3
 clear hW1 hW2 hW3 hz1 hz2 hz3 b1 b3 B1 B1' B2 hmk E1 E2 E3
 have Hpl := Lib.hid (placeK_len knobs n ⟨x,y,z⟩)
 obtain ⟨S,hS⟩ : ∃ S,w.heap.size = S := ⟨_,rfl⟩
 rw [hS] at B3 BK BP ⊢
 have HS := Lib.hid hS
 clear hS
 go_loopw [17] (fun i wr => ∃ j : Nat,j ≤ knobs.length ∧ i = .int .i64 j ∧ Ext w wr ∧ Blk wr S 72 #[.slice A m ca,.slice B knobs.length cb,.int .i64 wt] ∧ Blk wr (S + 1) 27 #[.int .i64 x,.int .i64 y,.int .i64 z] ∧ Blk wr (S + 1 + 1) 109 (knbsA (partL zK (placeK knobs n ⟨x,y,z⟩) j))) (fun i _ => knobs.length - (intOf i).toNat)
 case atStart => exact ⟨0,by omega,rfl,E13,BK,BP,B3⟩
 case round =>
  clear B3 BK BP E13
  obtain ⟨j,hj,rfl,E,BK,BP,BO⟩ := hrel
  by_cases hlt : j < knobs.length
  ·obtain ⟨g,off,⟨⟨qx,qy,qz⟩,dir,sort⟩,rfl,hq, -,hg,c0,c1,c2,c3,c4⟩ := hk.at_ hlt
   simp only at c0 c1 c2 c3 c4
   obtain ⟨hqo,hd0,hd5⟩ := hok _ (List.mem_of_getElem? hq)
   simp only at hqo hd0 hd5
   obtain ⟨d,rfl⟩ : ∃ d : Nat,dir = d := ⟨dir.toNat,by omega⟩
   have d0 := E.cell c0
   have d1 := E.cell c1
   have d2 := E.cell c2
   have d3 := E.cell c3
   have d4 := E.cell c4
   clear c0 c1 c2 c3 c4
   have hd6 : d < 6 := by omega
   have hset : (placeK knobs n ⟨x,y,z⟩)[j]? = some ⟨addP (turnS ⟨qx,qy,qz⟩ n) ⟨x,y,z⟩,dirT d n,sort⟩ := by
    unfold placeK
    rw [List.getElem?_map,hq]
    rfl
   have Hset := Lib.hid hset
   clear hq hset
   have i1 : (0 : Int) ≤ j := by omega
   have i2 : (j : Int) < knobs.length := by omega
   have hdl := dirT_lt hd6 hn
   have f1 : IntKind.i64.wrap (d : Int) = d := IntWalk.i64_in _ (by omega)
   have f2 : IntKind.u8.wrap (dirT d n : Int) = dirT d n := IntWalk.u8_in _ (by omega)
   obtain ⟨W4,hW4,E4,B4,hz4⟩ := mk_ wr #[.int .i64 qx,.int .i64 qy,.int .i64 qz,.int .u8 d,.int .u8 sort] 109
   have b4 := B4.cell
   have b2 := (BP.ext E4).cell
   go_upto_region 5 with (fail)
   refine wp_region_tail 20 (by kernel_rfl) (by kernel_rfl) ?_
   simp only [List.take_succ_cons,List.take_zero,List.drop_succ_cons,List.drop_zero]
   repeat (go_big_quiet_step ((first | (go_at_call 45; exact quiet_ext (turn_c _ _ _ n _ hn (by first | exact hqo | exact stepS_ok d))) | (go_at_call 44; exact quiet_ext (plus_c _ _ _ _ _ _ _ (turnS_ok hqo n) hp)) | (go_at_call 52; exact quiet_ext (step_c d hd6 _)) | (go_at_call 51; exact quiet_ext (direction_t d n hd6 hn _)))))
   refine wpQuiet_nil ?_
   intro W5 hW5
   have E5 : Ext W4 W5 := by
    obtain ⟨x,rfl⟩ := hW5
    exact (Ext.refl _).grow x
   clear hW5
   obtain ⟨hcW5,hfW5,hzW5⟩ := ext_facts E5
   have BO' := (BO.ext E4).ext E5
   unfold knbsA at BO'
   obtain ⟨W6,hW6,B6,far6,ext6⟩ := BO'.row5 (knbs_wide _) (k := j) (by rw [List.length_map,partL_len _ _ (by rw [Hpl.out]; omega),Hpl.out]; omega) (.int .i64 ((turnS ⟨qx,qy,qz⟩ n).x + x)) (.int .i64 ((turnS ⟨qx,qy,qz⟩ n).y + y)) (.int .i64 ((turnS ⟨qx,qy,qz⟩ n).z + z)) (.int .u8 (dirT d n)) (.int .u8 sort)
   have f6 := BO'.frozen
   have hz0 : ((partL zK (placeK knobs n ⟨x,y,z⟩) j).map Knb.cs)[j]? = some (Knb.cs zK) := by rw [List.getElem?_map,partL_at _ _ (by rw [Hpl.out]; exact hlt)]; rfl
   have y0 := (BO'.cell (j * 5 + 0)).trans (rowsA_get (knbs_wide _) hz0 (j := 0) rfl)
   have y1 := (BO'.cell (j * 5 + 1)).trans (rowsA_get (knbs_wide _) hz0 (j := 1) rfl)
   have y2 := (BO'.cell (j * 5 + 2)).trans (rowsA_get (knbs_wide _) hz0 (j := 2) rfl)
   have y3 := (BO'.cell (j * 5 + 3)).trans (rowsA_get (knbs_wide _) hz0 (j := 3) rfl)
   have y4 := (BO'.cell (j * 5 + 4)).trans (rowsA_get (knbs_wide _) hz0 (j := 4) rfl)
   simp only [Nat.add_zero] at y0
   clear hz0
   go_wp2_with fail
   go_roundw
   case rel => exact ⟨j + 1,by omega,by go_num,ext6 _ ((E.trans E4).trans E5) (by have := HS.out; omega),far6 _ _ _ (by omega) ((BK.ext E4).ext E5),far6 _ _ _ (by omega) ((BP.ext E4).ext E5),by
    rw [← partL_set _ _ Hset.out]
    unfold knbsA
    rw [List.map_set]
    exact B6⟩
   case measure => simp only [intOf]; omega
  ·obtain rfl : knobs.length = j := by omega
   have hpa : partL zK (placeK knobs n ⟨x,y,z⟩) knobs.length = placeK knobs n ⟨x,y,z⟩ := by
    have := partL_all zK (placeK knobs n ⟨x,y,z⟩)
    rwa [Hpl.out] at this
   rw [hpa] at BO
   clear hpa
   go_wp2_with fail
   go_ret
   exact ⟨S + 1 + 1,by have := HS.out; omega,rfl,BO,E⟩
end Go.Proofs.YtjacbhomhjoolaaGreat
