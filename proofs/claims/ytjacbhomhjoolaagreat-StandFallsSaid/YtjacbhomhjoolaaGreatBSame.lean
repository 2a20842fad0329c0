
/- Whether lists are equal (SameCells, slices.Equal, SameInts), whether a list has a knob (slices.Contains), whether lists have the same knobs (SameKnobs). No conditions. like of the reference, walked over contracts of Placed and Knobbed. Conditions: what these contracts ask. SameInts of the reference. No conditions. Kinds that look alike under turns, plain. like of the program. Conditions: the kind is valid, the turns are turns, the place is not far. -/
import Derived.Test.YtjacbhomhjoolaaGreatBOrd
import Derived.Test.YtjacbhomhjoolaaGreatBLib
import Derived.Test.YtjacbhomhjoolaaGreatBRKnob
namespace Go.Proofs.YtjacbhomhjoolaaGreat
open Go.RowKit

def eqC (a b : List Pt) : Bool := decide (a.length = b.length) && allR a.length fun i => (ptAt a i).eqB (ptAt b i)
/-! Knobs. -/
def Knb.eqB (a b : Knb) : Bool := a.at_.eqB b.at_ && (a.dir == b.dir && a.sort == b.sort)
theorem Knb.eqB_iff {a b : Knb} : a.eqB b = true ↔ a = b := by
 obtain ⟨p,d,s⟩ := a
 obtain ⟨q,e,t⟩ := b
 unfold Knb.eqB
 simp only [Bool.and_eq_true,beq_iff_eq,Pt.eqB_iff,Knb.mk.injEq]
theorem Knb.eqB_comm (p q : Knb) : p.eqB q = q.eqB p := by rw [Bool.eq_iff_iff,Knb.eqB_iff,Knb.eqB_iff]; exact eq_comm
def hasK (l : List Knb) (p : Knb) : Bool := l.any fun q => q.eqB p
def KnobsR (w : World) (A : Option Addr) (cap : Nat) (l : List Knb) : Prop := SliceIs w A l.length cap 5 (l.map Knb.cs)
theorem KnobsR.ext {w w' : World} {A : Option Addr} {cap : Nat} {l : List Knb} (h : KnobsR w A cap l) (e : Ext w w') : KnobsR w' A cap l := SliceIs.ext h e
theorem KnobsR.len {w : World} {A : Option Addr} {cap : Nat} {l : List Knb} (h : KnobsR w A cap l) : l.length ≤ maxLen := Nat.le_trans h.le h.small
theorem KnobsR.at_ {w : World} {A : Option Addr} {cap : Nat} {l : List Knb} (h : KnobsR w A cap l) {k : Nat} (hk : k < l.length) :
  ∃ b off p,A = some ⟨b,off,none⟩ ∧ l[k]? = some p ∧ b < w.heap.size ∧ w.cell? ⟨b,off + k * 5,none⟩ = some (.int .i64 p.at_.x) ∧ w.cell? ⟨b,off + k * 5 + 1,none⟩ = some (.int .i64 p.at_.y) ∧
   w.cell? ⟨b,off + k * 5 + 2,none⟩ = some (.int .i64 p.at_.z) ∧ w.cell? ⟨b,off + k * 5 + 3,none⟩ = some (.int .u8 p.dir) ∧ w.cell? ⟨b,off + k * 5 + 4,none⟩ = some (.int .u8 p.sort) := by
 obtain ⟨b,off,hA,hb,hc⟩ := SliceIs.cells h (by omega)
 have hget : l[k]? = some l[k] := List.getElem?_eq_getElem hk
 have hr : (l.map Knb.cs)[k]? = some l[k].cs := by rw [List.getElem?_map,hget]; rfl
 exact ⟨b,off,l[k],hA,hget,hb,hc k _ hr 0 _ rfl,hc k _ hr 1 _ rfl,hc k _ hr 2 _ rfl,hc k _ hr 3 _ rfl,hc k _ hr 4 _ rfl⟩
/-! SameKnobs. -/
def subK (a b : List Knb) : Bool := allR a.length fun i => hasK b (knbAt a i)
def sameK (a b : List Knb) : Bool := decide (a.length = b.length) && subK a b

def RowV (w : World) (v : Value) (n : Nat) (l : List Pt) : Prop := ∃ cp,v = .slice (some ⟨bk v,0,none⟩) n cp ∧ n ≤ cp ∧ cp ≤ maxLen ∧ RowX w (bk v) 27 (l.map Pt.cs)
theorem RowV.ext {w w' : World} {v : Value} {n : Nat} {l : List Pt} (h : RowV w v n l) (E : Ext w w') : RowV w' v n l := by
 obtain ⟨cp,h1,h2,h3,h4⟩ := h
 exact ⟨cp,h1,h2,h3,h4.ext E⟩
theorem RowX.far {w : World} {g : Nat} {t : TypeId} {rows : List (List Value)} (h : RowX w g t rows) {p : Addr} (hp : g ≠ p.block) (u : Value) : RowX (w.setCell p u) g t rows := by
 obtain ⟨ex,hb⟩ := h
 exact ⟨ex,hb.far hp u⟩
theorem pts_wide' (l : List Pt) : ∀ r ∈ l.map Pt.cs,r.length = 3 := fun r h => by
 obtain ⟨p,_,rfl⟩ := List.mem_map.1 h
 rfl
def ptV (p : Pt) : Value := .agg #[.int .i64 p.x,.int .i64 p.y,.int .i64 p.z]
def ptC (p : Pt) : Array Value := #[.int .i64 p.x,.int .i64 p.y,.int .i64 p.z]
structure Lk2 (W0 : World) (vQ v1 v6 : Value) (n : Nat) (L1 L2 : List Pt) (L : Nat → Bool) (us : Nat → Value) (w : World) : Prop where
 o : Owns [2,7,10,11] W0 L us w
 f0 : L 0 = true → us 0 = vQ
 f1 : L 1 = true → us 1 = v1
 f2 : L 2 = true → RowV w (us 2) n L2
 f3 : L 3 = true → us 3 = .pointer (some ⟨bk (us 2),0,none⟩)
 f4 : L 4 = true → us 4 = ptV (ptAt L2 0)
 f5 : L 5 = true → us 5 = vQ
 f6 : L 6 = true → us 6 = v6
 f7 : L 7 = true → RowV w (us 7) n L1
 f8 : L 8 = true → us 8 = .pointer (some ⟨bk (us 7),0,none⟩)
 f9 : L 9 = true → us 9 = ptV (ptAt L1 0)
 f10 : L 10 = true → us 10 = .pointer (some ⟨bk (us 10),0,none⟩)
 g10 : L 10 = true → L 12 = false → Blk w (bk (us 10)) 27 (ptC ⟨0,0,0⟩)
 f11 : L 11 = true → us 11 = .pointer (some ⟨bk (us 11),0,none⟩)
 g11 : L 11 = true → L 13 = false → Blk w (bk (us 11)) 27 (ptC ⟨0,0,0⟩)
 f12 : L 12 = true → Blk w (bk (us 10)) 27 (ptC (ptAt L2 0))
 f13 : L 13 = true → Blk w (bk (us 11)) 27 (ptC (ptAt L1 0))
def KV (w : World) (v : Value) (n : Nat) (l : List Knb) : Prop := ∃ A cp,v = .slice A n cp ∧ SliceIs w A n cp 5 (l.map Knb.cs)
theorem KV.ext {w w' : World} {v : Value} {n : Nat} {l : List Knb} (h : KV w v n l) (E : Ext w w') : KV w' v n l := by
 obtain ⟨A,cp,h1,h2⟩ := h
 exact ⟨A,cp,h1,h2.ext E⟩
structure Lk4 (w0 W5 : World) (S : Nat) (vQ vC vB : Value) (aC : Array Value) (n1 n2 : Nat) (L1 L3 : List Pt) (K1 K2 : List Knb) (r s : Bool) (L : Nat → Bool) (us : Nat → Value) (w : World) : Prop where
 e : Ext w0 w
 x : L 17 = false → Ext W5 w
 f0 : L 0 = true → us 0 = vC
 f1 : L 1 = true → us 1 = vQ
 f2 : L 2 = true → us 2 = vC
 f3 : L 3 = true → L 17 = false → RowV w (us 3) n1 L3
 f4 : L 4 = true → us 4 = vQ
 f5 : L 5 = true → us 5 = vB
 f6 : L 6 = true → L 17 = false → RowV w (us 6) n1 L1
 f7 : L 7 = true → us 7 = .bool r
 f8 : L 8 = true → us 8 = .bool r
 f9 : L 9 = true → r = true → us 9 = vQ
 f10 : L 10 = true → r = true → us 10 = vC
 f11 : L 11 = true → r = true → L 17 = false → KV w (us 11) n2 K2
 f12 : L 12 = true → r = true → us 12 = vQ
 f13 : L 13 = true → r = true → us 13 = vB
 f14 : L 14 = true → r = true → L 17 = false → KV w (us 14) n2 K1
 f15 : L 15 = true → r = true → us 15 = .bool s
 f16 : L 16 = true → us 16 = .bool (r && s)
 f17 : L 17 = true → Blk w (S + 1) 51 aC
 f18 : L 18 = true → us 18 = .bool (r && s)
def RCP (l : List Pt) (n : Nat) (w : World) (e : Ending) (w' : World) : Prop := ∃ g cap,w.heap.size ≤ g ∧ e = .returned (.slice (some ⟨g,0,none⟩) n cap) ∧ n ≤ cap ∧ cap ≤ maxLen ∧ RowX w' g 27 (l.map Pt.cs) ∧ Ext w w'
def RKP (l : List Knb) (n : Nat) (w : World) (e : Ending) (w' : World) : Prop := ∃ A cap,e = .returned (.slice A n cap) ∧ SliceIs w' A n cap 5 (l.map Knb.cs) ∧ (∀ q,A = some q → w.heap.size ≤ q.block) ∧ Ext w w'

def IntsZ (w : World) (A : Option Addr) (cap : Nat) (l : List Int) : Prop := SliceIs w A l.length cap 1 (l.map fun n => [.int .i64 n])
theorem IntsZ.ext {w w' : World} {A : Option Addr} {cap : Nat} {l : List Int} (h : IntsZ w A cap l) (e : Ext w w') : IntsZ w' A cap l := SliceIs.ext h e
theorem IntsZ.len {w : World} {A : Option Addr} {cap : Nat} {l : List Int} (h : IntsZ w A cap l) : l.length ≤ maxLen := Nat.le_trans h.le h.small
theorem IntsZ.at_ {w : World} {A : Option Addr} {cap : Nat} {l : List Int} (h : IntsZ w A cap l) {k : Nat} (hk : k < l.length) :
  ∃ b off p,A = some ⟨b,off,none⟩ ∧ l[k]? = some p ∧ b < w.heap.size ∧ w.cell? ⟨b,off + k,none⟩ = some (.int .i64 p) := by
 obtain ⟨b,off,hA,hb,hc⟩ := SliceIs.cells h (by omega)
 have hget : l[k]? = some l[k] := List.getElem?_eq_getElem hk
 have hr : (l.map fun n => [Value.int .i64 n])[k]? = some [.int .i64 l[k]] := by rw [List.getElem?_map,hget]; rfl
 have := hc k _ hr 0 _ rfl
 rw [Nat.mul_one,Nat.add_zero] at this
 exact ⟨b,off,l[k],hA,hget,hb,this⟩
def intAt (l : List Int) (k : Nat) : Int := l.getD k 0
theorem intAt_eq {l : List Int} {k : Nat} {p : Int} (h : l[k]? = some p) : intAt l k = p := by simp [intAt,h]
def eqI (a b : List Int) : Bool := decide (a.length = b.length) && allR a.length fun i => intAt a i == intAt b i
theorem eqI_iff {a b : List Int} : eqI a b = true ↔ a = b := by
 unfold eqI
 rw [Bool.and_eq_true,decide_eq_true_eq]
 constructor
 ·rintro ⟨h1,h2⟩
  refine List.ext_getElem h1 fun i hi hj => ?_
  have := allR_at h2 hi
  unfold intAt at this
  simpa [hi,hj] using this
 ·rintro rfl
  exact ⟨rfl,allR_good fun j _ => by simp⟩
theorem eqI_len {a b : List Int} (h : ¬ a.length = b.length) : eqI a b = false := by rw [eqI,decide_eq_false h]; rfl
theorem eqI_bad {a b : List Int} {k : Nat} (hk : k < a.length) (h : (intAt a k == intAt b k) = false) : eqI a b = false := by rw [eqI,allR_bad hk h,Bool.and_false]
theorem eqI_good {a b : List Int} (hl : a.length = b.length) (h : ∀ j,j < a.length → (intAt a j == intAt b j) = true) : eqI a b = true := by rw [eqI,decide_eq_true hl,allR_good h]; rfl
set_option maxHeartbeats 1600000 in
theorem rSameInts_c (A B : Option Addr) (ca cb : Nat) (a b : List Int) (w : World) (ha : IntsZ w A ca a) (hb : IntsZ w B cb b) :
  Calls Tryz.prog 20 #[.slice A a.length ca,.slice B b.length cb] w fun e w' => e = .returned (.bool (eqI a b)) ∧ Ext w w' := by
 have hl1 : a.length ≤ 9223372036854775807 := by have := ha.len; unfold maxLen at this; omega
 have hl2 : b.length ≤ 9223372036854775807 := by have := hb.len; unfold maxLen at this; omega
 by_cases hlen : a.length = b.length
 rotate_left
 ·have Hv := Lib.hid (eqI_len hlen)
  have h1 : ((a.length : Int) != b.length) = true := by rw [bne_iff_ne]; omega
  have h2 : (a.length != b.length) = true := by rw [bne_iff_ne]; omega
  go_enter Tryz.func20,Tryz.ntmps20
  go_wp2_with fail
  go_ret
  exact ⟨by rw [Hv.out]; rfl,Ext.refl w⟩
 obtain ⟨n,hn⟩ : ∃ n,a.length = n := ⟨_,rfl⟩
 have hm : b.length = n := by omega
 rw [hn,hm]
 have Hn := Lib.hid hn
 have Hm := Lib.hid hm
 rw [hn] at hl1
 clear hlen hl2 hn hm
 go_enter Tryz.func20,Tryz.ntmps20
 go_wp2_with fail
 go_loopw [5] (fun i wr => ∃ k : Nat,k ≤ n ∧ i = .int .i64 k ∧ Ext w wr ∧ Hid (∀ j,j < k → (intAt a j == intAt b j) = true)) (fun i _ => n - (intOf i).toNat)
 case atStart => exact ⟨0,by omega,rfl,Ext.refl w,Lib.hid (fun j hj => by omega)⟩
 case round =>
  obtain ⟨k,hk,rfl,E,Hj⟩ := hrel
  by_cases hlt : k < n
  ·obtain ⟨g,off,p,rfl,hp,hg,c0⟩ := (ha.ext E).at_ (k := k) (by rw [Hn.out]; exact hlt)
   obtain ⟨g',off',q,rfl,hq,hg',e0⟩ := (hb.ext E).at_ (k := k) (by rw [Hm.out]; exact hlt)
   have Hp := Lib.hid (intAt_eq hp)
   have Hq := Lib.hid (intAt_eq hq)
   clear hp hq
   have i1 : (0 : Int) ≤ k := by omega
   have i2 : (k : Int) < n := by omega
   go_upto_region 6 with (fail)
   refine wp_region_grow (by kernel_rfl) (by kernel_rfl) ?_
   repeat (go_big_quiet_step (fail))
   refine wpQuiet_nil ?_
   intro W3 hW3
   have E3 : Ext wr W3 := by
    obtain ⟨x,rfl⟩ := hW3
    exact (Ext.refl _).grow x
   clear hW3
   obtain ⟨hcW3,hfW3,hzW3⟩ := ext_facts E3
   replace E := E.trans E3
   clear hcW3 hfW3 hzW3 E3 c0 e0
   by_cases hpq : p = q
   rotate_left
   ·have Hr := Lib.hid (show (p == q) = false by simpa using hpq)
    have hb1 : (p != q) = true := by simpa using hpq
    have Hv := Lib.hid (eqI_bad (a := a) (b := b) (k := k) (by rw [Hn.out]; exact hlt) (by rw [Hp.out,Hq.out]; exact Hr.out))
    go_wp2_with fail
    go_ret
    exact ⟨by rw [Hv.out]; rfl,E⟩
   ·have Hr := Lib.hid (show (p == q) = true by simpa using hpq)
    have hb1 : (p != q) = false := by simpa using hpq
    clear hpq
    go_wp2_with fail
    go_roundw
    case rel => exact ⟨k + 1,by omega,by go_num,E,Lib.hid (fun j hj => by
     rcases Nat.lt_or_ge j k with h' | h'
     ·exact Hj.out j h'
     ·obtain rfl : j = k := by omega
      rw [Hp.out,Hq.out]
      exact Hr.out)⟩
    case measure => simp only [intOf]; omega
  ·obtain rfl : n = k := by omega
   have Hv := Lib.hid (eqI_good (a := a) (b := b) (by rw [Hn.out,Hm.out]) (by rw [Hn.out]; exact Hj.out))
   go_wp2_with fail
   go_ret
   exact ⟨by rw [Hv.out]; rfl,E⟩

def Pt.in_ (B : Int) (p : Pt) : Prop := (-B ≤ p.x ∧ p.x ≤ B) ∧ (-B ≤ p.y ∧ p.y ≤ B) ∧ (-B ≤ p.z ∧ p.z ≤ B)
theorem Pt.in_.ok {B : Int} {p : Pt} (h : p.in_ B) (hB : B ≤ 1000000) : p.ok := by
 unfold Pt.in_ at h
 unfold Pt.ok CB
 omega
theorem rotZn_in {B : Int} {p : Pt} (h : p.in_ B) : ∀ k,(rotZn p k).in_ B
 | 0 => h
 | k + 1 => by
  have := rotZn_in h k
  unfold Pt.in_ at *
  unfold rotZn rotZ
  simp only
  omega
theorem turnS_in {B : Int} {p : Pt} (h : p.in_ B) (n : Nat) : (turnS p n).in_ B := by
 have := rotZn_in h (n % 4)
 unfold turnS turnQ
 unfold Pt.in_ at *
 split <;> first | omega | (simp only; omega)
theorem addP_in {B C : Int} {p q : Pt} (h : p.in_ B) (k : q.in_ C) : (addP p q).in_ (B + C) := by
 unfold Pt.in_ at *
 unfold addP
 simp only
 omega
theorem near_in {p : Pt} (h : nearB p 0 15 = true) : p.in_ 15 := by
 rw [nearB_iff] at h
 unfold Pt.in_
 omega
theorem near_in' {p : Pt} (h : nearB p (-1000) 1000 = true) : p.in_ 1000 := by
 rw [nearB_iff] at h
 unfold Pt.in_
 omega
structure Knd.Fine (k : Knd) : Prop where
 pos : 0 < k.cells.length
 len : k.cells.length ≤ 24
 klen : k.knobs.length ≤ 48
 near : ∀ p ∈ k.cells,p.in_ 15
 knob : ∀ x ∈ k.knobs,x.at_.in_ 15 ∧ 0 ≤ x.dir ∧ x.dir ≤ 5
theorem Knd.fine_of {k : Knd} (h : k.valid = true) (hb : ∀ x ∈ k.knobs,x.byte) : k.Fine := by
 unfold Knd.valid at h
 rw [Bool.and_eq_true,Bool.and_eq_true,sized_iff] at h
 obtain ⟨⟨⟨h1,h2⟩,h3,_,_⟩,h6,h7⟩ := h
 have hnear : ∀ p ∈ k.cells,p.in_ 15 := fun p hp => by
  obtain ⟨i,hi⟩ := List.getElem?_of_mem hp
  have := allR_at h6 (List.getElem?_eq_some_iff.1 hi).1
  rw [cellOk,ptAt_eq hi,Bool.and_eq_true] at this
  exact near_in this.1
 refine ⟨h1,h2,h3,hnear,fun x hx => ?_⟩
 obtain ⟨i,hi⟩ := List.getElem?_of_mem hx
 have := allR_at h7 (List.getElem?_eq_some_iff.1 hi).1
 rw [knobOk,knbAt_eq hi,Bool.and_eq_true,Knb.one_iff] at this
 obtain ⟨⟨g1,_,g3,_⟩,_⟩ := this
 exact ⟨hnear _ (hasP_iff.1 g3),(hb x hx).1.1,g1⟩
theorem Knd.Fine.cok {k : Knd} (h : k.Fine) : ∀ p ∈ k.cells,p.ok := fun p hp => (h.near p hp).ok (by omega)
theorem Knd.Fine.kok {k : Knd} (h : k.Fine) : ∀ x ∈ k.knobs,x.fine := fun x hx => ⟨(h.knob x hx).1.ok (by omega),(h.knob x hx).2⟩
def likeAt (k : Knd) (bt : Nat) (p : Pt) (n : Nat) : Pt := subP (ptAt (sortP (placeP k.cells bt p)) 0) (ptAt (sortP (placeP k.cells n ⟨0,0,0⟩)) 0)
def likeB (k : Knd) (bt : Nat) (p : Pt) (n : Nat) : Bool := eqC (sortP (placeP k.cells n (likeAt k bt p n))) (sortP (placeP k.cells bt p)) && subK (placeK k.knobs n (likeAt k bt p n)) (placeK k.knobs bt p)
theorem cells_of_blk {w : World} {g n : Nat} {l : List Pt} (h : Blk w g 27 (ptsA l)) (hn : l.length = n) (hl : n ≤ 100000) : Cells w (some ⟨g,0,none⟩) n l := by
 have := Blk.slice (rows := l.map Pt.cs) h (pts_wide l) (by rw [List.length_map]; omega)
 rw [List.length_map,hn] at this
 unfold Cells
 rw [hn]
 exact this

def NewB (t : TypeId) (cs : Array Value) (w0 : World) (v : Value) (w : World) : Prop := ∃ g,v = .pointer (some ⟨g,0,none⟩) ∧ w0.heap.size ≤ g ∧ Blk w g t cs ∧ Ext w0 w
theorem Blk.ext' {w w' : World} {g : Nat} {t : TypeId} {cs : Array Value} (h : Blk w g t cs) (e : Ext w w') : Blk w' g t cs := h.ext e
end Go.Proofs.YtjacbhomhjoolaaGreat
