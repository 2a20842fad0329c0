
/- Links, plain: what the reference lists, and which links there are. In a valid model no two knobs are on one face. In a valid model there are at most as many links as knobs. Groups, plain: the least brick that is connected; the reference's rounds find it, and so does a search in depth. odd and Meet of the reference. Conditions: the knobs' directions and sorts are valid, the places not far. The program's map from faces to knobs: its key type, and what it holds. Joints, plain: what the reference lists; the program goes from pair to pair. What the program's walks over links need, apart from the reference's. A row of numbers in a block, cell by cell. Rows of rows: one block of slices, each row of numbers its own; the neighbours by number. SameLinks, SameJoints at equal lists. line of the program: the axis of a knob, and its place with the coordinate along it at 0. -/
import Derived.Test.YtjacbhomhjoolaaGreatBOvN
import Derived.Test.YtjacbhomhjoolaaGreatBSort
import Derived.Test.YtjacbhomhjoolaaGreatBOvWalk
import Derived.Test.YtjacbhomhjoolaaGreatBPairs
import Derived.Test.YtjacbhomhjoolaaGreatBSame
import Derived.Test.YtjacbhomhjoolaaGreatBRKnob
namespace Go.Proofs.YtjacbhomhjoolaaGreat
open Go.RowKit

structure Lnk where
 a : Nat
 b : Nat
 knob : Nat
 other : Nat
 sort : Int
deriving instance DecidableEq for Lnk
def Lnk.cs (x : Lnk) : List Value := [.int .i64 x.a,.int .i64 x.b,.int .i64 x.knob,.int .i64 x.other,.int .u8 x.sort]
def Links (w : World) (A : Option Addr) (cap : Nat) (l : List Lnk) : Prop := SliceIs w A l.length cap 5 (l.map Lnk.cs)
theorem Links.ext {w w' : World} {A : Option Addr} {cap : Nat} {l : List Lnk} (h : Links w A cap l) (e : Ext w w') : Links w' A cap l := SliceIs.ext h e
theorem Links.len {w : World} {A : Option Addr} {cap : Nat} {l : List Lnk} (h : Links w A cap l) : l.length ≤ maxLen := Nat.le_trans h.le h.small
theorem Links.at_ {w : World} {A : Option Addr} {cap : Nat} {l : List Lnk} (h : Links w A cap l) {k : Nat} (hk : k < l.length) :
  ∃ b off p,A = some ⟨b,off,none⟩ ∧ l[k]? = some p ∧ b < w.heap.size ∧ w.cell? ⟨b,off + k * 5,none⟩ = some (.int .i64 p.a) ∧ w.cell? ⟨b,off + k * 5 + 1,none⟩ = some (.int .i64 p.b) ∧
   w.cell? ⟨b,off + k * 5 + 2,none⟩ = some (.int .i64 p.knob) ∧ w.cell? ⟨b,off + k * 5 + 3,none⟩ = some (.int .i64 p.other) ∧ w.cell? ⟨b,off + k * 5 + 4,none⟩ = some (.int .u8 p.sort) := by
 obtain ⟨b,off,hA,hb,hc⟩ := SliceIs.cells h (by omega)
 have hget : l[k]? = some l[k] := List.getElem?_eq_getElem hk
 have hr : (l.map Lnk.cs)[k]? = some l[k].cs := by rw [List.getElem?_map,hget]; rfl
 exact ⟨b,off,l[k],hA,hget,hb,hc k _ hr 0 _ rfl,hc k _ hr 1 _ rfl,hc k _ hr 2 _ rfl,hc k _ hr 3 _ rfl,hc k _ hr 4 _ rfl⟩
theorem links_nil (w : World) : Links w none 0 [] := ⟨rfl,Nat.le_refl _,Nat.zero_le _,by simp,fun h => by cases h⟩
theorem lnk_wide (l : List Lnk) : ∀ r ∈ l.map Lnk.cs,r.length = 5 := fun r h => by
 obtain ⟨p,_,rfl⟩ := List.mem_map.1 h
 rfl

def bknobs (ks : List Knd) (b : Brk) : List Knb := placeK (kindAt ks b.kind.toNat).knobs b.turn.toNat b.at_
theorem bknobs_is {qs : List (Knd × KAt)} {b : Brk} {i tn : Nat} {k : Knd} {p : KAt} (h1 : b.kind = i) (h2 : b.turn = tn) (hi : qs[i]? = some (k,p)) : bknobs (qs.map (·.1)) b = placeK k.knobs tn b.at_ := by
 unfold bknobs kindAt
 rw [h1,h2]
 simp [hi]
def oddS (s : Int) : Int := s - (1 - s % 2)
def oppD (d : Int) : Int := if d % 2 = 0 then d + 1 else d - 1
def meetB (a b : Knb) : Bool := (addP a.at_ (stepS a.dir.toNat)).eqB b.at_ && (decide (b.dir = oppD a.dir) && (decide (a.sort ≠ b.sort) && decide (oddS a.sort = oddS b.sort)))
theorem meetB_iff {a b : Knb} : meetB a b = true ↔ addP a.at_ (stepS a.dir.toNat) = b.at_ ∧ b.dir = oppD a.dir ∧ a.sort ≠ b.sort ∧ oddS a.sort = oddS b.sort := by
 simp only [meetB,Bool.and_eq_true,decide_eq_true_eq,Pt.eqB_iff]

/-! The reference's list. -/
def lkC (p q : List Knb) (a b i n : Nat) : List Lnk := (List.range n).filterMap fun k => if meetB (knbAt p i) (knbAt q k) then some ⟨a,b,i,k,oddS (knbAt p i).sort⟩ else none
def lkI (p q : List Knb) (a b n : Nat) : List Lnk := (List.range n).flatMap fun i => lkC p q a b i q.length
def lkB (ks : List Knd) (bs : List Brk) (a n : Nat) : List Lnk := (List.range n).flatMap fun b => if a < b then lkI (bknobs ks (brkAt bs a)) (bknobs ks (brkAt bs b)) a b (bknobs ks (brkAt bs a)).length else []
def lkA (ks : List Knd) (bs : List Brk) (n : Nat) : List Lnk := (List.range n).flatMap fun a => lkB ks bs a bs.length
def linkL (ks : List Knd) (bs : List Brk) : List Lnk := lkA ks bs bs.length
theorem lkC_succ (p q : List Knb) (a b i n : Nat) : lkC p q a b i (n + 1) = lkC p q a b i n ++ (if meetB (knbAt p i) (knbAt q n) then [⟨a,b,i,n,oddS (knbAt p i).sort⟩] else []) := by
 unfold lkC
 rw [List.range_succ,List.filterMap_append]
 congr 1
 cases h : meetB (knbAt p i) (knbAt q n) <;> simp [h]
theorem lkI_succ (p q : List Knb) (a b n : Nat) : lkI p q a b (n + 1) = lkI p q a b n ++ lkC p q a b n q.length := by
 unfold lkI
 rw [List.range_succ,List.flatMap_append]
 simp
theorem lkB_succ {ks : List Knd} {bs : List Brk} {a n : Nat} (h : a < n) : lkB ks bs a (n + 1) = lkB ks bs a n ++ lkI (bknobs ks (brkAt bs a)) (bknobs ks (brkAt bs n)) a n (bknobs ks (brkAt bs a)).length := by
 unfold lkB
 rw [List.range_succ,List.flatMap_append]
 simp [h]
theorem lkB_start (ks : List Knd) (bs : List Brk) (a : Nat) : lkB ks bs a (a + 1) = [] := by
 unfold lkB
 rw [List.flatMap_eq_nil_iff]
 intro b hb
 rw [if_neg (by have := List.mem_range.1 hb; omega)]
theorem lkA_succ (ks : List Knd) (bs : List Brk) (n : Nat) : lkA ks bs (n + 1) = lkA ks bs n ++ lkB ks bs n bs.length := by
 unfold lkA
 rw [List.range_succ,List.flatMap_append]
 simp
theorem lkC_len (p q : List Knb) (a b i n : Nat) : (lkC p q a b i n).length ≤ n := by
 unfold lkC
 exact Nat.le_trans (List.length_filterMap_le _ _) (by simp)
theorem flat_len {α : Type} (f : Nat → List α) (m : Nat) : ∀ n,(∀ i,i < n → (f i).length ≤ m) → ((List.range n).flatMap f).length ≤ n * m
 | 0,_ => by simp
 | n + 1,h => by
  rw [List.range_succ,List.flatMap_append,List.length_append,Nat.succ_mul]
  have h1 := flat_len f m n fun i hi => h i (by omega)
  have h2 := h n (by omega)
  simp only [List.flatMap_cons,List.flatMap_nil,List.append_nil]
  omega
theorem lkI_len (p q : List Knb) (a b n : Nat) : (lkI p q a b n).length ≤ n * q.length := flat_len _ _ n fun i _ => lkC_len p q a b i q.length
theorem lkB_len {ks : List Knd} {bs : List Brk} {m : Nat} (hm : ∀ i,i < bs.length → (bknobs ks (brkAt bs i)).length ≤ m) {a : Nat} (ha : a < bs.length) (n : Nat) (hn : n ≤ bs.length) : (lkB ks bs a n).length ≤ n * (m * m) :=
 flat_len _ _ n fun b hb => by
  split
  ·exact Nat.le_trans (lkI_len _ _ _ _ _) (Nat.mul_le_mul (hm a ha) (hm b (by omega)))
  ·exact Nat.zero_le _
theorem lkA_len {ks : List Knd} {bs : List Brk} {m : Nat} (hm : ∀ i,i < bs.length → (bknobs ks (brkAt bs i)).length ≤ m) (n : Nat) (hn : n ≤ bs.length) : (lkA ks bs n).length ≤ n * (bs.length * (m * m)) :=
 flat_len _ _ n fun a ha => lkB_len hm (by omega) _ (Nat.le_refl _)
structure IsLnk (ks : List Knd) (bs : List Brk) (x : Lnk) : Prop where
 ab : x.a < x.b
 b : x.b < bs.length
 k : x.knob < (bknobs ks (brkAt bs x.a)).length
 o : x.other < (bknobs ks (brkAt bs x.b)).length
 m : meetB (knbAt (bknobs ks (brkAt bs x.a)) x.knob) (knbAt (bknobs ks (brkAt bs x.b)) x.other) = true
 s : x.sort = oddS (knbAt (bknobs ks (brkAt bs x.a)) x.knob).sort
theorem mem_linkL {ks : List Knd} {bs : List Brk} {x : Lnk} : x ∈ linkL ks bs ↔ IsLnk ks bs x := by
 unfold linkL lkA lkB lkI lkC
 constructor
 ·intro h
  obtain ⟨a,ha,h⟩ := List.mem_flatMap.1 h
  obtain ⟨b,hb,h⟩ := List.mem_flatMap.1 h
  split at h
  rotate_left
  ·cases h
  rename_i hab
  obtain ⟨i,hi,h⟩ := List.mem_flatMap.1 h
  obtain ⟨k,hk,h⟩ := List.mem_filterMap.1 h
  split at h
  rotate_left
  ·cases h
  rename_i hm
  cases h
  exact ⟨hab,List.mem_range.1 hb,List.mem_range.1 hi,List.mem_range.1 hk,hm,rfl⟩
 ·rintro ⟨h1,h2,h3,h4,h5,h6⟩
  refine List.mem_flatMap.2 ⟨x.a,List.mem_range.2 (by omega),List.mem_flatMap.2 ⟨x.b,List.mem_range.2 h2,?_⟩⟩
  rw [if_pos h1]
  refine List.mem_flatMap.2 ⟨x.knob,List.mem_range.2 h3,List.mem_filterMap.2 ⟨x.other,List.mem_range.2 h4,?_⟩⟩
  rw [if_pos h5,← h6]
def ltK (x y : Lnk) : Bool := decide (x.a < y.a) || (decide (x.a = y.a) && (decide (x.b < y.b) || (decide (x.b = y.b) && decide (x.knob < y.knob))))
theorem ltK_iff {x y : Lnk} : ltK x y = true ↔ x.a < y.a ∨ (x.a = y.a ∧ (x.b < y.b ∨ (x.b = y.b ∧ x.knob < y.knob))) := by simp [ltK]
theorem ltK_not {x y : Lnk} : ltK x y = false ↔ ¬ (x.a < y.a ∨ (x.a = y.a ∧ (x.b < y.b ∨ (x.b = y.b ∧ x.knob < y.knob)))) := by rw [← Bool.not_eq_true,ltK_iff]
def LtO (x y : Lnk) : Prop := x.a < y.a ∨ (x.a = y.a ∧ (x.b < y.b ∨ (x.b = y.b ∧ (x.knob < y.knob ∨ (x.knob = y.knob ∧ x.other < y.other)))))
theorem range_lt {α : Type} {R : α → α → Prop} {f : Nat → List α} {n : Nat} (h1 : ∀ i,i < n → (f i).Pairwise R) (h2 : ∀ i j,i < j → ∀ x ∈ f i,∀ y ∈ f j,R x y) : ((List.range n).flatMap f).Pairwise R := by
 rw [List.pairwise_flatMap]
 exact ⟨fun i hi => h1 i (List.mem_range.1 hi),List.pairwise_lt_range.imp fun {i j} hij x hx y hy => h2 i j hij x hx y hy⟩
theorem lkC_mem {p q : List Knb} {a b i n : Nat} {x : Lnk} (h : x ∈ lkC p q a b i n) : x.a = a ∧ x.b = b ∧ x.knob = i ∧ x.other < n := by
 obtain ⟨k,hk,h⟩ := List.mem_filterMap.1 h
 split at h
 ·cases h
  exact ⟨rfl,rfl,rfl,List.mem_range.1 hk⟩
 ·cases h
theorem lkI_mem {p q : List Knb} {a b n : Nat} {x : Lnk} (h : x ∈ lkI p q a b n) : x.a = a ∧ x.b = b := by
 obtain ⟨i, -,h⟩ := List.mem_flatMap.1 h
 exact ⟨(lkC_mem h).1,(lkC_mem h).2.1⟩
theorem lkB_mem {ks : List Knd} {bs : List Brk} {a n : Nat} {x : Lnk} (h : x ∈ lkB ks bs a n) : x.a = a := by
 obtain ⟨b, -,h⟩ := List.mem_flatMap.1 h
 split at h
 ·exact (lkI_mem h).1
 ·cases h
theorem linkL_ltO (ks : List Knd) (bs : List Brk) : (linkL ks bs).Pairwise LtO := by
 refine range_lt (fun a _ => range_lt (fun b _ => ?_) ?_) ?_
 ·split
  rotate_left
  ·exact List.Pairwise.nil
  refine range_lt (fun i _ => ?_) ?_
  ·unfold lkC
   rw [List.pairwise_filterMap]
   refine List.pairwise_lt_range.imp fun {k l} hkl x hx y hy => ?_
   split at hx <;> split at hy
   ·cases hx
    cases hy
    exact Or.inr ⟨rfl,Or.inr ⟨rfl,Or.inr ⟨rfl,hkl⟩⟩⟩
   all_goals (first | (cases hy; done) | (cases hx; done))
  ·intro i j hij x hx y hy
   obtain ⟨h1,h2,h3, -⟩ := lkC_mem hx
   obtain ⟨k1,k2,k3, -⟩ := lkC_mem hy
   exact Or.inr ⟨by omega,Or.inr ⟨by omega,Or.inl (by omega)⟩⟩
 ·intro b c hbc x hx y hy
  split at hx
  rotate_left
  ·cases hx
  split at hy
  rotate_left
  ·cases hy
  obtain ⟨h1,h2⟩ := lkI_mem hx
  obtain ⟨k1,k2⟩ := lkI_mem hy
  exact Or.inr ⟨by omega,Or.inl (by omega)⟩
 ·intro a b hab x hx y hy
  have := lkB_mem hx
  have := lkB_mem hy
  exact Or.inl (by omega)
theorem linkL_nodup (ks : List Knd) (bs : List Brk) : (linkL ks bs).Nodup := (linkL_ltO ks bs).imp fun {x y} h e => by
 subst e
 unfold LtO at h
 omega

theorem knbLt_iff {y x : Knb} : y.lt x = true ↔ ltP y.at_ x.at_ = true ∨ (y.at_ = x.at_ ∧ y.dir < x.dir) := by
 simp only [Knb.lt,Bool.or_eq_true,Bool.and_eq_true,Pt.eqB_iff,decide_eq_true_eq]
theorem knbLt_trans {a b c : Knb} (h : a.lt b = true) (k : b.lt c = true) : a.lt c = true := by
 rw [knbLt_iff] at *
 rcases h with h | ⟨h1,h2⟩ <;> rcases k with k | ⟨k1,k2⟩
 ·exact Or.inl (ltP_trans h k)
 ·exact Or.inl (by rw [← k1]; exact h)
 ·exact Or.inl (by rw [h1]; exact k)
 ·exact Or.inr ⟨h1.trans k1,by omega⟩
theorem knobs_asc {cs : List Pt} {l : List Knb} (h : knobsB cs l = true) {i j : Nat} (hij : i < j) (hj : j < l.length) : (knbAt l i).lt (knbAt l j) = true := by
 have step : ∀ i,i + 1 < l.length → (knbAt l i).lt (knbAt l (i + 1)) = true := fun i hi => by
  have := allR_at h hi
  unfold knobOk at this
  rw [Bool.and_eq_true,Bool.or_eq_true] at this
  rcases this.2 with h' | h'
  ·exact absurd (of_decide_eq_true h') (by omega)
  ·exact h'
 have far : ∀ d i,i + d + 1 < l.length → (knbAt l i).lt (knbAt l (i + d + 1)) = true := by
  intro d
  induction d with
  | zero => exact fun i hi => step i hi
  | succ d ih => exact fun i hi => knbLt_trans (ih i (by omega)) (step (i + d + 1) hi)
 have := far (j - i - 1) i (by omega)
 rwa [show i + (j - i - 1) + 1 = j by omega] at this
theorem knob_one {cs : List Pt} {l : List Knb} (h : knobsB cs l = true) {i : Nat} (hi : i < l.length) : (knbAt l i).one cs = true := by
 have := allR_at h hi
 unfold knobOk at this
 rw [Bool.and_eq_true] at this
 exact this.1
theorem one_iff {cs : List Pt} {x : Knb} (h : x.one cs = true) : x.dir ≤ 5 ∧ 1 ≤ x.sort ∧ x.sort ≤ 6 ∧ x.at_ ∈ cs ∧ addP x.at_ (stepS x.dir.toNat) ∉ cs := by
 unfold Knb.one at h
 simp only [Bool.and_eq_true,decide_eq_true_eq,inB_iff,Bool.not_eq_true'] at h
 refine ⟨h.1,h.2.1.1,h.2.1.2,hasP_iff.1 h.2.2.1,fun hm => ?_⟩
 rw [hasP_iff.2 hm] at h
 exact absurd h.2.2.2 (by decide)
theorem dirT_inj : ∀ d,d < 6 → ∀ e,e < 6 → ∀ n,n < 24 → dirT d n = dirT e n → d = e := by decide +kernel
theorem check_over {ks : List Knd} {bs : List Brk} (h : checkErr ks bs = 0) : overL ks bs bs.length = [] := by
 have hm := check_model h
 unfold checkErr at h
 rw [if_pos hm] at h
 by_cases h0 : overL ks bs bs.length = []
 ·exact h0
 ·rw [if_neg h0] at h
  cases h
structure Fit (ks : List Knd) (bs : List Brk) : Prop where
 n : bs.length ≤ 40
 b : ∀ j,j < bs.length → ∃ (i tn : Nat) (k : Knd),(brkAt bs j).kind = i ∧ (brkAt bs j).turn = tn ∧ tn < 24 ∧ ks[i]? = some k ∧ k.valid = true ∧ k.Fine ∧ Pt.in_ 1000 (brkAt bs j).at_ ∧ bknobs ks (brkAt bs j) = placeK k.knobs tn (brkAt bs j).at_ ∧ bcells ks (brkAt bs j) = sortP (placeP k.cells tn (brkAt bs j).at_)
 o : ∀ i k,i < bs.length → k < bs.length → ∀ p,p ∈ bcells ks (brkAt bs i) → p ∈ bcells ks (brkAt bs k) → i = k
theorem fit_of {w : World} {QA : Option Addr} {qc : Nat} {qs : List (Knd × KAt)} (hk : Kinds w QA qc qs) {bs : List Brk} (hb : ∀ b ∈ bs,b.byte) (h : checkErr (qs.map (·.1)) bs = 0) : Fit (qs.map (·.1)) bs := by
 have hm := check_model h
 have hf := mfine_of hk hb hm
 have h0 : kindsErr (qs.map (·.1)) = 0 := by
  by_cases h0 : kindsErr (qs.map (·.1)) = 0
  ·exact h0
  ·rw [modelErr_kinds h0] at hm
   exact hm
 refine ⟨hf.n,fun j hj => ?_,?_⟩
 ·have hq : bs[j]? = some bs[j] := List.getElem?_eq_getElem hj
  obtain ⟨i,tn,k,p,e1,e2,ht,hi,hkf,hp, -⟩ := hf.b _ (List.getElem_mem hj)
  rw [brkAt_eq hq]
  exact ⟨i,tn,k,e1,e2,ht,by rw [List.getElem?_map,hi]; rfl,kindsErr_valid h0 (List.mem_map.2 ⟨_,List.mem_of_getElem? hi,rfl⟩),hkf,hp,bknobs_is e1 e2 hi,bcells_is e1 e2 hi⟩
 ·have ho := check_over h
  have key : ∀ i k,i < k → k < bs.length → ∀ p,p ∈ bcells (qs.map (·.1)) (brkAt bs i) → p ∈ bcells (qs.map (·.1)) (brkAt bs k) → False := fun i k hik hk p h1 h2 => by
   have : ((i : Int),(k : Int)) ∈ overL (qs.map (·.1)) bs bs.length := mem_overL.2 ⟨i,k,rfl,hik,hk,commonB_iff.2 ⟨p,h1,h2⟩⟩
   rw [ho] at this
   cases this
  intro i k hi hk p h1 h2
  rcases Nat.lt_trichotomy i k with h | h | h
  ·exact (key i k h hk p h1 h2).elim
  ·exact h
  ·exact (key k i h hi p h2 h1).elim
section
variable {ks : List Knd} {bs : List Brk}
theorem Fit.klen (hf : Fit ks bs) {j : Nat} (hj : j < bs.length) : (bknobs ks (brkAt bs j)).length ≤ 48 := by
 obtain ⟨i,tn,k,e1,e2,ht,hi,hv,hkf,hp,hb,hc⟩ := hf.b j hj
 rw [hb,placeK_len]
 have h1 : k.sized = true := by
  unfold Knd.valid at hv
  rw [Bool.and_eq_true] at hv
  exact hv.1
 exact (sized_iff.1 h1).2.1
theorem Fit.knob (hf : Fit ks bs) {j q : Nat} (hj : j < bs.length) (hq : q < (bknobs ks (brkAt bs j)).length) : ∃ (tn : Nat) (k : Knd) (d : Nat),tn < 24 ∧ k.valid = true ∧ q < k.knobs.length ∧ d < 6 ∧ (knbAt k.knobs q).dir = d ∧ 1 ≤ (knbAt k.knobs q).sort ∧ (knbAt k.knobs q).sort ≤ 6 ∧
  knbAt (bknobs ks (brkAt bs j)) q = ⟨addP (turnS (knbAt k.knobs q).at_ tn) (brkAt bs j).at_,dirT d tn,(knbAt k.knobs q).sort⟩ ∧ addP (turnS (knbAt k.knobs q).at_ tn) (brkAt bs j).at_ ∈ bcells ks (brkAt bs j) ∧ (brkAt bs j).turn = tn ∧ (∃ i : Nat,(brkAt bs j).kind = i ∧ ks[i]? = some k) ∧ (knbAt k.knobs q).at_ ∈ k.cells ∧ (knbAt k.knobs q).at_.in_ 15 ∧ Pt.in_ 1000 (brkAt bs j).at_ := by
 obtain ⟨i,tn,k,e1,e2,ht,hi,hv,hkf,hp,hb,hc⟩ := hf.b j hj
 rw [hb,placeK_len] at hq
 have hv' := hv
 unfold Knd.valid at hv'
 simp only [Bool.and_eq_true] at hv'
 have ho := one_iff (knob_one hv'.2.2 hq)
 have hm : knbAt k.knobs q ∈ k.knobs := by
  rw [knbAt_eq (List.getElem?_eq_getElem hq)]
  exact List.getElem_mem hq
 have hkd := hkf.kok _ hm
 refine ⟨tn,k,(knbAt k.knobs q).dir.toNat,ht,hv,hq,by have := ho.1; have := hkd.2.1; omega,by have := hkd.2.1; omega,ho.2.1,ho.2.2.1,?_,?_,e2,⟨i,e1,hi⟩,ho.2.2.2.1,hkf.near _ ho.2.2.2.1,hp⟩
 ·rw [hb]
  have hg : k.knobs[q]? = some k.knobs[q] := List.getElem?_eq_getElem hq
  rw [knbAt_eq hg]
  refine knbAt_eq ?_
  unfold placeK
  rw [List.getElem?_map,hg]
  rfl
 ·rw [hc]
  refine (sortP_perm _).mem_iff.2 ?_
  unfold placeP
  exact List.mem_map.2 ⟨_,ho.2.2.2.1,rfl⟩
theorem Fit.dir (hf : Fit ks bs) {j q : Nat} (hj : j < bs.length) (hq : q < (bknobs ks (brkAt bs j)).length) : 0 ≤ (knbAt (bknobs ks (brkAt bs j)) q).dir ∧ (knbAt (bknobs ks (brkAt bs j)) q).dir < 6 ∧ 1 ≤ (knbAt (bknobs ks (brkAt bs j)) q).sort ∧ (knbAt (bknobs ks (brkAt bs j)) q).sort ≤ 6 := by
 obtain ⟨tn,k,d,ht,hv,hqk,hd,e1,e2,e3,e4, -⟩ := hf.knob hj hq
 rw [e4]
 have := dirT_lt hd ht
 exact ⟨by simp only; omega,by simp only; omega,e2,e3⟩
structure Knb.meets (x : Knb) : Prop where
 ok : x.at_.ok
 d0 : 0 ≤ x.dir
 d5 : x.dir ≤ 5
 s1 : 1 ≤ x.sort
 s6 : x.sort ≤ 6
theorem Fit.meets (hf : Fit ks bs) {j q : Nat} (hj : j < bs.length) (hq : q < (bknobs ks (brkAt bs j)).length) : (knbAt (bknobs ks (brkAt bs j)) q).meets := by
 obtain ⟨tn,k,d,ht,hv,hqk,hd,e1,e2,e3,e4, -, -, -, -,hin,hp⟩ := hf.knob hj hq
 rw [e4]
 have := dirT_lt hd ht
 exact ⟨(addP_in (turnS_in hin tn) hp).ok (by omega),by simp only; omega,by simp only; omega,e2,e3⟩
theorem Fit.face (hf : Fit ks bs) {i j q r : Nat} (hi : i < bs.length) (hj : j < bs.length) (hq : q < (bknobs ks (brkAt bs i)).length) (hr : r < (bknobs ks (brkAt bs j)).length) (h1 : (knbAt (bknobs ks (brkAt bs i)) q).at_ = (knbAt (bknobs ks (brkAt bs j)) r).at_)
  (h2 : (knbAt (bknobs ks (brkAt bs i)) q).dir = (knbAt (bknobs ks (brkAt bs j)) r).dir) : i = j ∧ q = r := by
 obtain ⟨t1,k1,d1,ht1,hv1,hq1,hd1,a1, -, -,b1,c1,f1,⟨i1,g1,l1⟩, -⟩ := hf.knob hi hq
 obtain ⟨t2,k2,d2,ht2,hv2,hq2,hd2,a2, -, -,b2,c2,f2,⟨i2,g2,l2⟩, -⟩ := hf.knob hj hr
 rw [b1,b2] at h1 h2
 simp only at h1 h2
 have hij : i = j := hf.o i j hi hj _ c1 (by rw [h1]; exact c2)
 subst hij
 refine ⟨rfl,?_⟩
 obtain rfl : t1 = t2 := by omega
 obtain rfl : i1 = i2 := by omega
 obtain rfl : k1 = k2 := by
  rw [l1] at l2
  cases l2
  rfl
 have e1 := turnS_inj _ (addP_inj h1)
 have e2 : d1 = d2 := dirT_inj d1 hd1 d2 hd2 t1 ht1 (by omega)
 have hv' := hv1
 unfold Knd.valid at hv'
 simp only [Bool.and_eq_true] at hv'
 rcases Nat.lt_trichotomy q r with h | h | h
 ·have := knbLt_iff.1 (knobs_asc hv'.2.2 h hq2)
  rw [e1,ltP_irrefl] at this
  rcases this with h' | h'
  ·cases h'
  ·omega
 ·exact h
 ·have := knbLt_iff.1 (knobs_asc hv'.2.2 h hq1)
  rw [e1,ltP_irrefl] at this
  rcases this with h' | h'
  ·cases h'
  ·omega
theorem lnk_unique (hf : Fit ks bs) {x y : Lnk} (hx : IsLnk ks bs x) (hy : IsLnk ks bs y) (ha : x.a = y.a) (hk : x.knob = y.knob) : x = y := by
 obtain ⟨xa,xb,xk,xo,xs⟩ := x
 obtain ⟨ya,yb,yk,yo,ys⟩ := y
 simp only at ha hk
 subst ha hk
 obtain ⟨a1,a2,a3,a4,a5,a6⟩ := hx
 obtain ⟨b1,b2,b3,b4,b5,b6⟩ := hy
 simp only at a1 a2 a3 a4 a5 a6 b1 b2 b3 b4 b5 b6
 rw [meetB_iff] at a5 b5
 obtain ⟨h1,h2⟩ := hf.face a2 b2 a4 b4 (by rw [← a5.1,← b5.1]) (by rw [a5.2.1,b5.2.1])
 subst h1 h2
 rw [a6,b6]
theorem linkL_asc (hf : Fit ks bs) : (linkL ks bs).Pairwise fun x y => ltK x y = true := by
 have h := linkL_ltO ks bs
 rw [List.pairwise_iff_getElem] at h ⊢
 intro i j hi hj hij
 have h1 := h i j hi hj hij
 rw [ltK_iff]
 unfold LtO at h1
 rcases h1 with h1 | ⟨e1,h1 | ⟨e2,h1 | ⟨e3,h1⟩⟩⟩
 ·exact Or.inl h1
 ·exact Or.inr ⟨e1,Or.inl h1⟩
 ·exact Or.inr ⟨e1,Or.inr ⟨e2,h1⟩⟩
 ·have := lnk_unique hf (mem_linkL.1 (List.getElem_mem hi)) (mem_linkL.1 (List.getElem_mem hj)) e1 e3
  rw [this] at h1
  omega
/-! What the program has gathered. -/
structure Got (ks : List Knd) (bs : List Brk) (a n : Nat) (L : List Lnk) : Prop where
 nd : L.Nodup
 m : ∀ x,x ∈ L ↔ IsLnk ks bs x ∧ (x.a < a ∨ (x.a = a ∧ x.knob < n))
theorem Got.nil : Got ks bs 0 0 [] := ⟨List.nodup_nil,fun x => ⟨fun h => (nomatch h),fun h => absurd h.2 (by omega)⟩⟩
theorem Got.next {a : Nat} {L : List Lnk} (h : Got ks bs a (bknobs ks (brkAt bs a)).length L) : Got ks bs (a + 1) 0 L := ⟨h.nd,fun x => by
 rw [h.m]
 constructor
 ·rintro ⟨h1,h2⟩
  exact ⟨h1,by omega⟩
 ·rintro ⟨h1,h2⟩
  refine ⟨h1,?_⟩
  have := h1.k
  by_cases e : x.a = a
  ·rw [e] at this
   exact Or.inr ⟨e,this⟩
  ·omega⟩
theorem Got.skip {a n : Nat} {L : List Lnk} (h : Got ks bs a n L) (hn : ∀ x,IsLnk ks bs x → x.a = a → x.knob = n → False) : Got ks bs a (n + 1) L := ⟨h.nd,fun x => by
 rw [h.m]
 constructor
 ·rintro ⟨h1,h2⟩
  exact ⟨h1,by omega⟩
 ·rintro ⟨h1,h2⟩
  refine ⟨h1,?_⟩
  rcases h2 with h2 | ⟨h2,h3⟩
  ·exact Or.inl h2
  ·by_cases e : x.knob = n
   ·exact (hn x h1 h2 e).elim
   ·omega⟩
theorem Got.add (hf : Fit ks bs) {a n : Nat} {L : List Lnk} (h : Got ks bs a n L) {x : Lnk} (hx : IsLnk ks bs x) (ha : x.a = a) (hn : x.knob = n) : Got ks bs a (n + 1) (L ++ [x]) := by
 refine ⟨?_,fun y => ?_⟩
 ·rw [List.nodup_append]
  refine ⟨h.nd,by simp,fun y hy z hz e => ?_⟩
  rw [List.mem_singleton] at hz
  subst hz e
  have := ((h.m y).1 hy).2
  omega
 ·rw [List.mem_append,h.m,List.mem_singleton]
  constructor
  ·rintro (⟨h1,h2⟩ | rfl)
   ·exact ⟨h1,by omega⟩
   ·exact ⟨hx,by omega⟩
  ·rintro ⟨h1,h2⟩
   by_cases e : y.a = a ∧ y.knob = n
   ·exact Or.inr (lnk_unique hf h1 hx (by omega) (by omega))
   ·exact Or.inl ⟨h1,by omega⟩
theorem Got.perm {L : List Lnk} (h : Got ks bs bs.length 0 L) : L.Perm (linkL ks bs) :=
 (List.perm_ext_iff_of_nodup h.nd (linkL_nodup ks bs)).2 fun x => by
  rw [h.m,mem_linkL]
  exact ⟨fun h => h.1,fun h => ⟨h,Or.inl (by have := h.ab; have := h.b; omega)⟩⟩
theorem sorted_linkL (hf : Fit ks bs) {l : List Lnk} (hp : l.Perm (linkL ks bs)) (hs : l.Pairwise fun x y => ltK y x = false) : l = linkL ks bs := by
 refine List.Perm.eq_of_pairwise (le := fun x y => ltK y x = false) ?_ hs ((linkL_asc hf).imp fun {x y} h => by rw [ltK_iff] at h; rw [ltK_not]; omega) hp
 intro a b ha hb h k
 rw [ltK_not] at h k
 exact lnk_unique hf (mem_linkL.1 (hp.mem_iff.1 ha)) (mem_linkL.1 hb) (by omega) (by omega)
end

theorem nodup_len {l : List Nat} {n : Nat} (h : l.Nodup) (hb : ∀ x ∈ l,x < n) : l.length ≤ n := by
 have hp : l.Perm ((List.range n).filter fun x => decide (x ∈ l)) := (List.perm_ext_iff_of_nodup h (List.nodup_range.filter _)).2 fun a => by
  rw [List.mem_filter,List.mem_range,decide_eq_true_eq]
  exact ⟨fun h => ⟨hb a h,h⟩,fun h => h.2⟩
 rw [hp.length_eq]
 exact Nat.le_trans (List.length_filter_le _ _) (by simp)
theorem linkL_len {ks : List Knd} {bs : List Brk} (hf : Fit ks bs) : (linkL ks bs).length ≤ 1920 := by
 have hm : ∀ x ∈ linkL ks bs,x.a < 40 ∧ x.knob < 48 := fun x hx => by
  have h := mem_linkL.1 hx
  have := h.ab
  have := h.b
  have := hf.n
  have := h.k
  have := hf.klen (j := x.a) (by omega)
  omega
 have h1 : ((linkL ks bs).map fun x => x.a * 48 + x.knob).Nodup := by
  unfold List.Nodup
  rw [List.pairwise_map]
  refine (linkL_nodup ks bs).imp_of_mem fun {x y} hx hy hne e => ?_
  have := hm x hx
  have := hm y hy
  exact hne (lnk_unique hf (mem_linkL.1 hx) (mem_linkL.1 hy) (by omega) (by omega))
 have h2 := nodup_len h1 (n := 1920) fun v hv => by
  obtain ⟨x,hx,rfl⟩ := List.mem_map.1 hv
  have := hm x hx
  omega
 rwa [List.length_map] at h2
theorem links_few {w : World} {QA : Option Addr} {qc : Nat} {qs : List (Knd × KAt)} (hk : Kinds w QA qc qs) {bs : List Brk} (hb : ∀ b ∈ bs,b.byte) (h : checkErr (qs.map (·.1)) bs = 0) : (linkL (qs.map (·.1)) bs).length ≤ 100000 :=
 Nat.le_trans (linkL_len (fit_of hk hb h)) (by omega)

def Nbr (L : List Lnk) (i k : Nat) : Prop := ∃ x ∈ L,(x.a = i ∧ x.b = k) ∨ (x.b = i ∧ x.a = k)
theorem Nbr.symm {L : List Lnk} {i k : Nat} (h : Nbr L i k) : Nbr L k i := by
 obtain ⟨x,hx,h | h⟩ := h
 ·exact ⟨x,hx,Or.inr ⟨h.2,h.1⟩⟩
 ·exact ⟨x,hx,Or.inl ⟨h.2,h.1⟩⟩
inductive Conn (L : List Lnk) (i : Nat) : Nat → Prop where
 | refl : Conn L i i
 | step {j k : Nat} : Conn L i j → Nbr L j k → Conn L i k
theorem Conn.trans {L : List Lnk} {i j k : Nat} (h : Conn L i j) (h' : Conn L j k) : Conn L i k := by
 induction h' with
 | refl => exact h
 | step _ hn ih => exact ih.step hn
theorem Conn.one {L : List Lnk} {i k : Nat} (h : Nbr L i k) : Conn L i k := Conn.refl.step h
theorem Conn.symm {L : List Lnk} {i j : Nat} (h : Conn L i j) : Conn L j i := by
 induction h with
 | refl => exact .refl
 | step _ hn ih => exact (Conn.one hn.symm).trans ih
structure Least (L : List Lnk) (i g : Nat) : Prop where
 c : Conn L i g
 le : ∀ j,Conn L i j → g ≤ j
theorem Least.unique {L : List Lnk} {i g h : Nat} (a : Least L i g) (b : Least L i h) : g = h := by
 have := a.le _ b.c
 have := b.le _ a.c
 omega
def Within (L : List Lnk) (n : Nat) : Prop := ∀ x ∈ L,x.a < n ∧ x.b < n
theorem Nbr.lt {L : List Lnk} {n i k : Nat} (hw : Within L n) (h : Nbr L i k) : i < n ∧ k < n := by
 obtain ⟨x,hx,h⟩ := h
 have := hw x hx
 omega
theorem Conn.lt {L : List Lnk} {n i k : Nat} (hw : Within L n) (hi : i < n) (h : Conn L i k) : k < n := by
 induction h with
 | refl => exact hi
 | step _ hn _ => exact (hn.lt hw).2
def isLeast (L : List Lnk) (n : Nat) (out : List Nat) : Prop := out.length = n ∧ ∀ i,i < n → Least L i (out.getD i 0)
theorem isLeast.unique {L : List Lnk} {n : Nat} {a b : List Nat} (ha : isLeast L n a) (hb : isLeast L n b) : a = b := by
 refine List.ext_getElem (by rw [ha.1,hb.1]) fun i h1 h2 => ?_
 have := (ha.2 i (by have := ha.1; omega)).unique (hb.2 i (by have := ha.1; omega))
 rw [List.getD_eq_getElem?_getD,List.getD_eq_getElem?_getD,List.getElem?_eq_getElem h1,List.getElem?_eq_getElem h2] at this
 simpa using this

/-! The reference's rounds. -/
def rlx (o : List Nat) (x : Lnk) : List Nat := (o.set x.a (min (o.getD x.a 0) (o.getD x.b 0))).set x.b (min (o.getD x.a 0) (o.getD x.b 0))
def rlxs (L : List Lnk) (o : List Nat) (q : Nat) : List Nat := (L.take q).foldl rlx o
def rounds (L : List Lnk) (o : List Nat) : Nat → List Nat
 | 0 => o
 | n + 1 => rlxs L (rounds L o n) L.length
def groupL (L : List Lnk) (n : Nat) : List Nat := rounds L (List.range n) n
theorem rlx_len (o : List Nat) (x : Lnk) : (rlx o x).length = o.length := by simp [rlx]
theorem getD_set {o : List Nat} {i j v : Nat} (hi : i < o.length) : (o.set i v).getD j 0 = if i = j then v else o.getD j 0 := by
 rw [List.getD_eq_getElem?_getD,List.getD_eq_getElem?_getD,List.getElem?_set]
 by_cases h : i = j
 ·subst h
  simp [hi]
 ·simp [h]
theorem rlx_at {o : List Nat} {x : Lnk} (ha : x.a < o.length) (hb : x.b < o.length) (j : Nat) : (rlx o x).getD j 0 = if j = x.a ∨ j = x.b then min (o.getD x.a 0) (o.getD x.b 0) else o.getD j 0 := by
 unfold rlx
 rw [getD_set (by simpa using hb),getD_set ha]
 by_cases h1 : x.b = j
 ·rw [if_pos h1,if_pos (Or.inr h1.symm)]
 ·rw [if_neg h1]
  by_cases h2 : x.a = j
  ·rw [if_pos h2,if_pos (Or.inl h2.symm)]
  ·rw [if_neg h2,if_neg (by omega)]
def Sound (L : List Lnk) (n : Nat) (o : List Nat) : Prop := o.length = n ∧ ∀ i,i < n → Conn L i (o.getD i 0)
theorem Sound.rlx {L : List Lnk} {n : Nat} {o : List Nat} (hw : Within L n) (h : Sound L n o) {x : Lnk} (hx : x ∈ L) : Sound L n (rlx o x) ∧ ∀ j,(Go.Proofs.YtjacbhomhjoolaaGreat.rlx o x).getD j 0 ≤ o.getD j 0 := by
 have hl := hw x hx
 have ha := rlx_at (o := o) (x := x) (by rw [h.1]; exact hl.1) (by rw [h.1]; exact hl.2)
 have hn : Nbr L x.a x.b := ⟨x,hx,Or.inl ⟨rfl,rfl⟩⟩
 refine ⟨⟨by rw [rlx_len,h.1],fun i hi => ?_⟩,fun j => ?_⟩
 ·rw [ha]
  split
  ·rename_i hij
   have hm : min (o.getD x.a 0) (o.getD x.b 0) = o.getD x.a 0 ∨ min (o.getD x.a 0) (o.getD x.b 0) = o.getD x.b 0 := by omega
   have c1 := h.2 x.a hl.1
   have c2 := h.2 x.b hl.2
   rcases hm with hm | hm <;> rw [hm] <;> rcases hij with rfl | rfl
   ·exact c1
   ·exact (Conn.one hn.symm).trans c1
   ·exact (Conn.one hn).trans c2
   ·exact c2
  ·exact h.2 i hi
 ·rw [ha]
  split
  ·rename_i hij
   rcases hij with rfl | rfl <;> omega
  ·exact Nat.le_refl _
theorem Sound.rlxs {L : List Lnk} {n : Nat} (hw : Within L n) : ∀ (l : List Lnk) (o : List Nat),(∀ x ∈ l,x ∈ L) → Sound L n o → Sound L n (l.foldl Go.Proofs.YtjacbhomhjoolaaGreat.rlx o) ∧ ∀ j,(l.foldl Go.Proofs.YtjacbhomhjoolaaGreat.rlx o).getD j 0 ≤ o.getD j 0
 | [],o,_,h => ⟨h,fun _ => Nat.le_refl _⟩
 | x :: l,o,hl,h => by
  obtain ⟨h1,h2⟩ := h.rlx hw (hl x (List.mem_cons_self ..))
  obtain ⟨h3,h4⟩ := Sound.rlxs hw l (Go.Proofs.YtjacbhomhjoolaaGreat.rlx o x) (fun y hy => hl y (List.mem_cons_of_mem _ hy)) h1
  exact ⟨h3,fun j => Nat.le_trans (h4 j) (h2 j)⟩
theorem Sound.start (L : List Lnk) (n : Nat) : Sound L n (List.range n) := ⟨List.length_range,fun i hi => by
 rw [List.getD_eq_getElem?_getD,List.getElem?_range hi]
 exact .refl⟩
theorem Sound.rounds {L : List Lnk} {n : Nat} (hw : Within L n) {o : List Nat} (h : Sound L n o) : ∀ m,Sound L n (rounds L o m)
 | 0 => h
 | m + 1 => by
  have := (Sound.rlxs hw L _ (fun _ h => h) (Sound.rounds hw h m)).1
  unfold Go.Proofs.YtjacbhomhjoolaaGreat.rounds Go.Proofs.YtjacbhomhjoolaaGreat.rlxs
  rw [List.take_length]
  exact this
open Classical in
noncomputable def reached (L : List Lnk) (n g : Nat) (o : List Nat) : Nat := (List.range n).countP fun i => decide (Conn L g i ∧ o.getD i 0 ≤ g)
/-! The search in depth: out holds a label, or a number below 0. -/
def lab (o : List Int) (v : Nat) : Int := o.getD v 0
theorem lab_set {o : List Int} {i j : Nat} {v : Int} (hi : i < o.length) : lab (o.set i v) j = if i = j then v else lab o j := by
 unfold lab
 rw [List.getD_eq_getElem?_getD,List.getD_eq_getElem?_getD,List.getElem?_set]
 by_cases h : i = j
 ·subst h
  simp [hi]
 ·simp [h]
structure Vis (L : List Lnk) (n : Nat) (i k : Nat) (o o' : List Int) : Prop where
 len : o'.length = o.length
 old : ∀ v,0 ≤ lab o v → lab o' v = lab o v
 new : ∀ v,lab o v < 0 → lab o' v < 0 ∨ (lab o' v = i ∧ Conn L k v)
 at_ : 0 ≤ lab o' k
 cl : ∀ v,lab o v < 0 → 0 ≤ lab o' v → ∀ u,Nbr L v u → 0 ≤ lab o' u
theorem Vis.done {L : List Lnk} {n i k : Nat} {o : List Int} (h : 0 ≤ lab o k) : Vis L n i k o o := ⟨rfl,fun _ _ => rfl,fun _ h => Or.inl h,h,fun v h h' => by omega⟩
structure VisP (L : List Lnk) (n : Nat) (i k : Nat) (nb : List Nat) (t : Nat) (o o' : List Int) : Prop where
 len : o'.length = o.length
 old : ∀ v,0 ≤ lab o v → lab o' v = lab o v
 new : ∀ v,lab o v < 0 → lab o' v < 0 ∨ (lab o' v = i ∧ Conn L k v)
 at_ : 0 ≤ lab o' k
 cl : ∀ v,v ≠ k → lab o v < 0 → 0 ≤ lab o' v → ∀ u,Nbr L v u → 0 ≤ lab o' u
 nb : ∀ s u,s < t → nb[s]? = some u → 0 ≤ lab o' u
theorem VisP.start {L : List Lnk} {n i k : Nat} {nb : List Nat} {o : List Int} (hk : k < o.length) (h : lab o k < 0) : VisP L n i k nb 0 o (o.set k i) := by
 have hl := fun j => lab_set (o := o) (i := k) (j := j) (v := (i : Int)) hk
 refine ⟨by simp,fun v hv => ?_,fun v hv => ?_,?_,fun v hv h1 h2 => ?_,fun s u hs => by omega⟩
 ·rw [hl,if_neg (by rintro rfl; omega)]
 ·rw [hl]
  by_cases e : k = v
  ·subst e
   rw [if_pos rfl]
   exact Or.inr ⟨rfl,.refl⟩
  ·rw [if_neg e]
   exact Or.inl hv
 ·rw [hl,if_pos rfl]
  omega
 ·rw [hl,if_neg (Ne.symm hv)] at h2
  omega
theorem VisP.next {L : List Lnk} {n i k : Nat} {nb : List Nat} {t u : Nat} {o o' o'' : List Int} (h : VisP L n i k nb t o o') (hu : nb[t]? = some u) (hn : Nbr L k u) (h' : Vis L n i u o' o'') : VisP L n i k nb (t + 1) o o'' := by
 have mono : ∀ v,0 ≤ lab o' v → 0 ≤ lab o'' v := fun v hv => by rw [h'.old v hv]; exact hv
 refine ⟨h'.len.trans h.len,fun v hv => ?_,fun v hv => ?_,mono _ h.at_,fun v hv h1 h2 w hw => ?_,fun s w hs hw => ?_⟩
 ·rw [h'.old v (by rw [h.old v hv]; exact hv),h.old v hv]
 ·rcases h.new v hv with h1 | ⟨h1,h2⟩
  ·rcases h'.new v h1 with h3 | ⟨h3,h4⟩
   ·exact Or.inl h3
   ·exact Or.inr ⟨h3,(Conn.one hn).trans h4⟩
  ·exact Or.inr ⟨by rw [h'.old v (by omega),h1],h2⟩
 ·rcases Int.lt_or_le (lab o' v) 0 with h3 | h3
  ·exact h'.cl v h3 h2 w hw
  ·exact mono _ (h.cl v hv h1 h3 w hw)
 ·rcases Nat.lt_or_ge s t with h1 | h1
  ·exact mono _ (h.nb s w h1 hw)
  ·obtain rfl : s = t := by omega
   rw [hu] at hw
   cases hw
   exact h'.at_
theorem VisP.all {L : List Lnk} {n i k : Nat} {nb : List Nat} {o o' : List Int} (h : VisP L n i k nb nb.length o o') (hnb : ∀ u,Nbr L k u → u ∈ nb) : Vis L n i k o o' := by
 refine ⟨h.len,h.old,h.new,h.at_,fun v h1 h2 u hu => ?_⟩
 by_cases e : v = k
 ·subst e
  obtain ⟨s,hs⟩ := List.getElem?_of_mem (hnb u hu)
  exact h.nb s u (List.getElem?_eq_some_iff.1 hs).1 hs
 ·exact h.cl v e h1 h2 u hu
def negs (o : List Int) : Nat := o.countP fun v => decide (v < 0)
structure Upto (L : List Lnk) (n i : Nat) (o : List Int) : Prop where
 len : o.length = n
 l : ∀ v,v < n → 0 ≤ lab o v → Least L v (lab o v).toNat
 cl : ∀ v,v < n → 0 ≤ lab o v → ∀ u,Nbr L v u → 0 ≤ lab o u
 d : ∀ j,j < i → 0 ≤ lab o j
theorem Upto.conn {L : List Lnk} {n i v u : Nat} {o : List Int} (hw : Within L n) (h : Upto L n i o) (hv : v < n) (h0 : 0 ≤ lab o v) (hc : Conn L v u) : 0 ≤ lab o u := by
 induction hc with
 | refl => exact h0
 | step hj hn ih => exact h.cl _ (hj.lt hw hv) ih _ hn
theorem Upto.start (L : List Lnk) (n : Nat) : Upto L n 0 (List.replicate n (-1)) := by
 have key : ∀ v,v < n → lab (List.replicate n (-1)) v = -1 := fun v hv => by
  unfold lab
  rw [List.getD_eq_getElem?_getD,List.getElem?_replicate,if_pos hv]
  rfl
 refine ⟨by simp,fun v hv h => ?_,fun v hv h => ?_,fun j hj => by omega⟩
 ·rw [key v hv] at h
  omega
 ·rw [key v hv] at h
  omega
theorem Upto.next {L : List Lnk} {n i : Nat} {o o' : List Int} (hw : Within L n) (hi : i < n) (h : Upto L n i o) (h' : Vis L n i i o o') : Upto L n (i + 1) o' := by
 have mono : ∀ v,0 ≤ lab o v → 0 ≤ lab o' v := fun v hv => by rw [h'.old v hv]; exact hv
 refine ⟨h'.len.trans h.len,fun v hv h0 => ?_,fun v hv h0 u hu => ?_,fun j hj => ?_⟩
 ·rcases Int.lt_or_le (lab o v) 0 with h1 | h1
  ·rcases h'.new v h1 with h2 | ⟨h2,h3⟩
   ·omega
   ·rw [h2,Int.toNat_natCast]
    refine ⟨h3.symm,fun j hj => ?_⟩
    rcases Nat.lt_or_ge j i with h4 | h4
    ·exfalso
     have h5 := h.conn hw (by omega) (h.d j h4) (hj.symm)
     omega
    ·exact h4
  ·rw [h'.old v h1]
   exact h.l v hv h1
 ·rcases Int.lt_or_le (lab o v) 0 with h1 | h1
  ·exact h'.cl v h1 h0 u hu
  ·exact mono _ (h.cl v hv h1 u hu)
 ·rcases Nat.lt_or_ge j i with h1 | h1
  ·exact mono _ (h.d j h1)
  ·obtain rfl : j = i := by omega
   exact h'.at_

theorem oddS_in {s : Int} (h : 1 ≤ s ∧ s ≤ 6) : 1 ≤ oddS s ∧ oddS s ≤ 5 := by
 unfold oddS
 omega
theorem rodd_c (s : Int) (h : 1 ≤ s ∧ s ≤ 6) (w : World) : Calls Tryz.prog 173 #[.int .u8 s] w fun e w' => e = .returned (.int .u8 (oddS s)) ∧ w = w' := by
 have e1 : s = 1 ∨ s = 2 ∨ s = 3 ∨ s = 4 ∨ s = 5 ∨ s = 6 := by omega
 rcases e1 with rfl | rfl | rfl | rfl | rfl | rfl
 all_goals
  go_enter Tryz.func173,Tryz.ntmps173
  go_wp2_with fail
  go_ret
  exact ⟨rfl,rfl⟩
theorem oppD_xor {d : Nat} (hd : d < 6) : bits BinOp.xor IntKind.u8 (d : Int) 1 = oppD d := by
 have e1 : d = 0 ∨ d = 1 ∨ d = 2 ∨ d = 3 ∨ d = 4 ∨ d = 5 := by omega
 rcases e1 with rfl | rfl | rfl | rfl | rfl | rfl <;> rfl
set_option maxRecDepth 100000 in
set_option maxHeartbeats 8000000 in
theorem rMeet_c (ax ay az : Int) (ad : Nat) (as_ bx by_ bz : Int) (bd : Nat) (bs_ : Int) (w : World) (ha : Knb.meets ⟨⟨ax,ay,az⟩,ad,as_⟩) (hb : Knb.meets ⟨⟨bx,by_,bz⟩,bd,bs_⟩) :
  Calls Tryz.prog 172 #[.agg #[.int .i64 ax,.int .i64 ay,.int .i64 az,.int .u8 ad,.int .u8 as_],.agg #[.int .i64 bx,.int .i64 by_,.int .i64 bz,.int .u8 bd,.int .u8 bs_]] w fun e w' => e = .returned (.bool (meetB ⟨⟨ax,ay,az⟩,ad,as_⟩ ⟨⟨bx,by_,bz⟩,bd,bs_⟩)) ∧ Ext w w' := by
 obtain ⟨W1,hW1,E1,B1,hz1⟩ := mk_ w #[.int .i64 ax,.int .i64 ay,.int .i64 az,.int .u8 ad,.int .u8 as_] 109
 obtain ⟨W2,hW2,E2,B2,hz2⟩ := mk_ W1 #[.int .i64 bx,.int .i64 by_,.int .i64 bz,.int .u8 bd,.int .u8 bs_] 109
 clear hz1
 have b1 := (B1.ext E2).cell
 have b2 := B2.cell
 have E12 := E1.trans E2
 have aok := ha.ok
 have had : ad < 6 := by have := ha.d5; simp only at this; omega
 have hbd : bd < 6 := by have := hb.d5; simp only at this; omega
 have Ha := Lib.hid (show 1 ≤ as_ ∧ as_ ≤ 6 from ⟨ha.s1,ha.s6⟩)
 have Hb := Lib.hid (show 1 ≤ bs_ ∧ bs_ ≤ 6 from ⟨hb.s1,hb.s6⟩)
 simp only at aok
 have f1 : IntKind.i64.wrap (ad : Int) = ad := IntWalk.i64_in _ (by omega)
 have hx := oppD_xor had
 have heq := pt_eql
 clear hz2 ha hb
 cases h1 : Pt.eqB ⟨ax + (stepS ad).x,ay + (stepS ad).y,az + (stepS ad).z⟩ ⟨bx,by_,bz⟩
 ·have Hv := Lib.hid (show meetB ⟨⟨ax,ay,az⟩,ad,as_⟩ ⟨⟨bx,by_,bz⟩,bd,bs_⟩ = false by
   unfold meetB addP
   rw [show (ad : Int).toNat = ad from rfl,h1]
   rfl)
  go_enter Tryz.func172,Tryz.ntmps172
  go_upto_region 1 with (fail)
  refine wp_region_grow (by kernel_rfl) (by kernel_rfl) ?_
  repeat (go_big_quiet_step ((first | (go_at_call 181; exact quiet_ext (rstep_c ad had _)) | (go_at_call 115; exact quiet_ext (rPlus_c _ _ _ _ _ _ _ aok (stepS_ok ad))) | (go_at_call 173; first | exact quiet_ext ((rodd_c as_ Ha.out _).mono fun _ _ ⟨he,hw⟩ => ⟨he,hw ▸ Ext.refl _⟩) | exact quiet_ext ((rodd_c bs_ Hb.out _).mono fun _ _ ⟨he,hw⟩ => ⟨he,hw ▸ Ext.refl _⟩)))))
  refine wpQuiet_nil ?_
  intro W5 hW5
  have E5 : Ext W2 W5 := by
   obtain ⟨x,rfl⟩ := hW5
   exact (Ext.refl _).grow x
  clear hW5
  obtain ⟨hcW5,hfW5,hzW5⟩ := ext_facts E5
  go_wp2_with fail
  go_ret
  exact ⟨by rw [Hv.out]; rfl,E12.trans E5⟩
 by_cases h2 : (bd : Int) = oppD ad
 rotate_left
 ·have Hv := Lib.hid (show meetB ⟨⟨ax,ay,az⟩,ad,as_⟩ ⟨⟨bx,by_,bz⟩,bd,bs_⟩ = false by
   unfold meetB addP
   rw [show (ad : Int).toNat = ad from rfl,h1,decide_eq_false h2]
   rfl)
  have d2 : ((bd : Int) == oppD ad) = false := by simpa using h2
  clear h2
  go_enter Tryz.func172,Tryz.ntmps172
  go_upto_region 1 with (fail)
  refine wp_region_grow (by kernel_rfl) (by kernel_rfl) ?_
  repeat (go_big_quiet_step ((first | (go_at_call 181; exact quiet_ext (rstep_c ad had _)) | (go_at_call 115; exact quiet_ext (rPlus_c _ _ _ _ _ _ _ aok (stepS_ok ad))) | (go_at_call 173; first | exact quiet_ext ((rodd_c as_ Ha.out _).mono fun _ _ ⟨he,hw⟩ => ⟨he,hw ▸ Ext.refl _⟩) | exact quiet_ext ((rodd_c bs_ Hb.out _).mono fun _ _ ⟨he,hw⟩ => ⟨he,hw ▸ Ext.refl _⟩)))))
  refine wpQuiet_nil ?_
  intro W5 hW5
  have E5 : Ext W2 W5 := by
   obtain ⟨x,rfl⟩ := hW5
   exact (Ext.refl _).grow x
  clear hW5
  obtain ⟨hcW5,hfW5,hzW5⟩ := ext_facts E5
  go_wp2_with fail
  go_ret
  exact ⟨by rw [Hv.out]; rfl,E12.trans E5⟩
 have d2 : ((bd : Int) == oppD ad) = true := by simpa using h2
 have H2 := Lib.hid h2
 clear h2
 by_cases h3 : as_ = bs_
 ·have Hv := Lib.hid (show meetB ⟨⟨ax,ay,az⟩,ad,as_⟩ ⟨⟨bx,by_,bz⟩,bd,bs_⟩ = false by
   unfold meetB addP
   rw [show (ad : Int).toNat = ad from rfl,h1,decide_eq_true H2.out,decide_eq_false (by simpa using h3)]
   rfl)
  have d3 : (as_ != bs_) = false := by simpa using h3
  clear h3
  go_enter Tryz.func172,Tryz.ntmps172
  go_upto_region 1 with (fail)
  refine wp_region_grow (by kernel_rfl) (by kernel_rfl) ?_
  repeat (go_big_quiet_step ((first | (go_at_call 181; exact quiet_ext (rstep_c ad had _)) | (go_at_call 115; exact quiet_ext (rPlus_c _ _ _ _ _ _ _ aok (stepS_ok ad))) | (go_at_call 173; first | exact quiet_ext ((rodd_c as_ Ha.out _).mono fun _ _ ⟨he,hw⟩ => ⟨he,hw ▸ Ext.refl _⟩) | exact quiet_ext ((rodd_c bs_ Hb.out _).mono fun _ _ ⟨he,hw⟩ => ⟨he,hw ▸ Ext.refl _⟩)))))
  refine wpQuiet_nil ?_
  intro W5 hW5
  have E5 : Ext W2 W5 := by
   obtain ⟨x,rfl⟩ := hW5
   exact (Ext.refl _).grow x
  clear hW5
  obtain ⟨hcW5,hfW5,hzW5⟩ := ext_facts E5
  go_wp2_with fail
  go_ret
  exact ⟨by rw [Hv.out]; rfl,E12.trans E5⟩
 have d3 : (as_ != bs_) = true := by simpa using h3
 have H3 := Lib.hid h3
 clear h3
 have Hv := Lib.hid (show meetB ⟨⟨ax,ay,az⟩,ad,as_⟩ ⟨⟨bx,by_,bz⟩,bd,bs_⟩ = (oddS as_ == oddS bs_) by
  unfold meetB addP
  rw [show (ad : Int).toNat = ad from rfl,h1,decide_eq_true H2.out,decide_eq_true (by simpa using H3.out)]
  simp only [Bool.true_and]
  rfl)
 go_enter Tryz.func172,Tryz.ntmps172
 go_upto_region 1 with (fail)
 refine wp_region_grow (by kernel_rfl) (by kernel_rfl) ?_
 repeat (go_big_quiet_step ((first | (go_at_call 181; exact quiet_ext (rstep_c ad had _)) | (go_at_call 115; exact quiet_ext (rPlus_c _ _ _ _ _ _ _ aok (stepS_ok ad))) | (go_at_call 173; first | exact quiet_ext ((rodd_c as_ Ha.out _).mono fun _ _ ⟨he,hw⟩ => ⟨he,hw ▸ Ext.refl _⟩) | exact quiet_ext ((rodd_c bs_ Hb.out _).mono fun _ _ ⟨he,hw⟩ => ⟨he,hw ▸ Ext.refl _⟩)))))
 refine wpQuiet_nil ?_
 intro W5 hW5
 have E5 : Ext W2 W5 := by
  obtain ⟨x,rfl⟩ := hW5
  exact (Ext.refl _).grow x
 clear hW5
 obtain ⟨hcW5,hfW5,hzW5⟩ := ext_facts E5
 go_wp2_with fail
 go_ret
 exact ⟨by rw [Hv.out]; rfl,E12.trans E5⟩

def encF (x : Pt × Int) : Value := .agg #[.int .i64 x.1.x,.int .i64 x.1.y,.int .i64 x.1.z,.int .u8 x.2]
def evE (x : Nat × Nat) : Value := .agg #[.int .i64 x.1,.int .i64 x.2]
theorem pt_equalIn (w : World) (n : Nat) (a b c d e f : Int) : (Op.equalIn (n + 3) 27 (.agg #[.int .i64 a,.int .i64 b,.int .i64 c]) (.agg #[.int .i64 d,.int .i64 e,.int .i64 f])).run Tryz.prog w = .ok (decide (a = d) && (decide (b = e) && decide (c = f))) w := by
 have u3 := Tryz.underlying3
 have hS : Tryz.prog.underlying 27 = some (.struct (Tryz.prog.fieldsOf 27)) := by kernel_rfl
 have hp : Tryz.prog.stoodInHeld 27 = false := by kernel_rfl
 rw [run_equalIn_agg w (n + 2) _ _ _ hS hp]
 simp only [Program.fieldsOf,Tryz.underlying27]
 go_simp
 by_cases h1 : a = d <;> by_cases h2 : b = e <;> by_cases h3 : c = f <;> simp [h1,h2,h3]
theorem face_equalIn (w : World) (n : Nat) (a b c d a' b' c' d' : Int) : (Op.equalIn (n + 4) 159 (.agg #[.int .i64 a,.int .i64 b,.int .i64 c,.int .u8 d]) (.agg #[.int .i64 a',.int .i64 b',.int .i64 c',.int .u8 d'])).run Tryz.prog w = .ok (decide (a = a') && (decide (b = b') && (decide (c = c') && decide (d = d')))) w := by
 have u5 := Tryz.underlying5
 have hS : Tryz.prog.underlying 159 = some (.struct (Tryz.prog.fieldsOf 159)) := by kernel_rfl
 have hp : Tryz.prog.stoodInHeld 159 = false := by kernel_rfl
 have hc := fun w => pt_equalIn w n a b c a' b' c'
 rw [run_equalIn_agg w (n + 3) _ _ _ hS hp]
 simp only [Program.fieldsOf,Tryz.underlying159]
 go_simp
 by_cases h1 : a = a' <;> by_cases h2 : b = b' <;> by_cases h3 : c = c' <;> by_cases h4 : d = d' <;> simp [h1,h2,h3,h4]
theorem face_equal (w : World) (a b c d a' b' c' d' : Int) : (Op.equal 159 (.agg #[.int .i64 a,.int .i64 b,.int .i64 c,.int .u8 d]) (.agg #[.int .i64 a',.int .i64 b',.int .i64 c',.int .u8 d'])).run Tryz.prog w = .ok (decide (a = a') && (decide (b = b') && (decide (c = c') && decide (d = d')))) w := face_equalIn w 9996 a b c d a' b' c' d'
theorem faceKey : KeyEnc Tryz.prog 159 encF where
 wide := by kernel_rfl
 eq w x y := by
  obtain ⟨⟨a,b,c⟩,d⟩ := x
  obtain ⟨⟨a',b',c'⟩,d'⟩ := y
  rw [encF,encF,face_equal]
  simp [Pt.mk.injEq,Bool.and_assoc]
 check w em x := by
  obtain ⟨⟨a,b,c⟩,d⟩ := x
  show (Instr.checkKey em 10000 159 (.agg #[.int .i64 a,.int .i64 b,.int .i64 c,.int .u8 d])).run Tryz.prog w = .ok () w
  kernel_rfl
 same x := by
  obtain ⟨⟨a,b,c⟩,d⟩ := x
  simp [encF,Instr.sameBits]
section
variable {ks : List Knd} {bs : List Brk}
def klen (ks : List Knd) (bs : List Brk) (i : Nat) : Nat := (bknobs ks (brkAt bs i)).length
def faceAt (ks : List Knd) (bs : List Brk) (i k : Nat) : Pt × Int := ((knbAt (bknobs ks (brkAt bs i)) k).at_,(knbAt (bknobs ks (brkAt bs i)) k).dir)
structure Faces (ks : List Knd) (bs : List Brk) (m : List ((Pt × Int) × (Nat × Nat))) (P : Nat → Nat → Prop) : Prop where
 s : ∀ F i k,getK m F = some (i,k) → P i k ∧ faceAt ks bs i k = F
 a : ∀ i k,P i k → getK m (faceAt ks bs i k) = some (i,k)
theorem Faces.nil {P : Nat → Nat → Prop} (h : ∀ i k, ¬ P i k) : Faces ks bs [] P := ⟨(fun _ _ _ h => nomatch h),fun i k hp => (h i k hp).elim⟩
theorem Faces.congr {m : List ((Pt × Int) × (Nat × Nat))} {P Q : Nat → Nat → Prop} (h : Faces ks bs m P) (e : ∀ i k,Q i k ↔ P i k) : Faces ks bs m Q :=
 ⟨fun F i k hg => ⟨(e i k).2 (h.s F i k hg).1,(h.s F i k hg).2⟩,fun i k hq => h.a i k ((e i k).1 hq)⟩
def Upk (ks : List Knd) (bs : List Brk) (j q i k : Nat) : Prop := (i < j ∧ k < klen ks bs i) ∨ (i = j ∧ k < q)
theorem Faces.put (hf : Fit ks bs) {m : List ((Pt × Int) × (Nat × Nat))} {j q : Nat} (h : Faces ks bs m (Upk ks bs j q)) (hj : j < bs.length) (hq : q < klen ks bs j) : Faces ks bs (putK m (faceAt ks bs j q) (j,q)) (Upk ks bs j (q + 1)) := by
 have hlen : ∀ i k,Upk ks bs j q i k → i < bs.length ∧ k < klen ks bs i := fun i k h => by
  rcases h with ⟨h1,h2⟩ | ⟨rfl,h2⟩
  ·exact ⟨by omega,h2⟩
  ·exact ⟨hj,by omega⟩
 refine ⟨fun F i k hg => ?_,fun i k hp => ?_⟩
 ·rw [getK_putK] at hg
  split at hg
  ·rename_i e
   cases hg
   exact ⟨Or.inr ⟨rfl,Nat.lt_succ_self _⟩,e.symm⟩
  ·obtain ⟨h1,h2⟩ := h.s F i k hg
   refine ⟨?_,h2⟩
   rcases h1 with h1 | ⟨h1,h3⟩
   ·exact Or.inl h1
   ·exact Or.inr ⟨h1,by omega⟩
 ·rw [getK_putK]
  by_cases e : i = j ∧ k = q
  ·obtain ⟨rfl,rfl⟩ := e
   rw [if_pos rfl]
  ·have hu : Upk ks bs j q i k := by
    rcases hp with hp | ⟨h1,h2⟩
    ·exact Or.inl hp
    ·exact Or.inr ⟨h1,by omega⟩
   obtain ⟨l1,l2⟩ := hlen i k hu
   rw [if_neg,h.a i k hu]
   intro e1
   unfold faceAt at e1
   simp only [Prod.mk.injEq] at e1
   obtain ⟨e2,e3⟩ := hf.face l1 hj l2 hq e1.1 e1.2
   exact e ⟨e2,e3⟩
theorem Upk.next (i k j : Nat) : Upk ks bs (j + 1) 0 i k ↔ Upk ks bs j (klen ks bs j) i k := by
 unfold Upk
 constructor
 ·rintro (⟨h1,h2⟩ | ⟨-,h2⟩)
  ·by_cases e : i = j
   ·subst e
    exact Or.inr ⟨rfl,h2⟩
   ·exact Or.inl ⟨by omega,h2⟩
  ·omega
 ·rintro (⟨h1,h2⟩ | ⟨rfl,h2⟩)
  ·exact Or.inl ⟨by omega,h2⟩
  ·exact Or.inl ⟨by omega,h2⟩
def farAt (ks : List Knd) (bs : List Brk) (i k : Nat) : Pt × Int := (addP (knbAt (bknobs ks (brkAt bs i)) k).at_ (stepS (knbAt (bknobs ks (brkAt bs i)) k).dir.toNat),oppD (knbAt (bknobs ks (brkAt bs i)) k).dir)
theorem IsLnk.far {x : Lnk} (h : IsLnk ks bs x) : faceAt ks bs x.b x.other = farAt ks bs x.a x.knob := by
 have := meetB_iff.1 h.m
 unfold faceAt farAt
 rw [this.1,this.2.1]
theorem Faces.none_ {m : List ((Pt × Int) × (Nat × Nat))} (h : Faces ks bs m (Upk ks bs bs.length 0)) {a i : Nat} (hg : getK m (farAt ks bs a i) = none) : ∀ x,IsLnk ks bs x → x.a = a → x.knob = i → False := fun x hx ha hi => by
 have := h.a x.b x.other (Or.inl ⟨hx.b,hx.o⟩)
 rw [hx.far,ha,hi,hg] at this
 cases this
theorem Faces.some_ {m : List ((Pt × Int) × (Nat × Nat))} (h : Faces ks bs m (Upk ks bs bs.length 0)) {a i b k : Nat} (hg : getK m (farAt ks bs a i) = some (b,k)) : ∀ x,IsLnk ks bs x → x.a = a → x.knob = i → x.b = b ∧ x.other = k := fun x hx ha hi => by
 have := h.a x.b x.other (Or.inl ⟨hx.b,hx.o⟩)
 rw [hx.far,ha,hi,hg] at this
 cases this
 exact ⟨rfl,rfl⟩
def fitS (s t : Int) : Bool := decide ((s + 1) / 2 = (t + 1) / 2) && decide (s ≠ t)
theorem fitS_iff {s t : Int} (hs : 1 ≤ s ∧ s ≤ 6) (ht : 1 ≤ t ∧ t ≤ 6) : fitS s t = true ↔ s ≠ t ∧ oddS s = oddS t := by
 unfold fitS oddS
 simp only [Bool.and_eq_true,decide_eq_true_eq]
 omega
theorem fitS_min {s t : Int} (_ : 1 ≤ s ∧ s ≤ 6) (_ : 1 ≤ t ∧ t ≤ 6) (h : fitS s t = true) : min s t = oddS s := by
 unfold fitS at h
 unfold oddS
 simp only [Bool.and_eq_true,decide_eq_true_eq] at h
 omega
def sortAt (ks : List Knd) (bs : List Brk) (i k : Nat) : Int := (knbAt (bknobs ks (brkAt bs i)) k).sort
theorem Faces.skip1 {m : List ((Pt × Int) × (Nat × Nat))} (h : Faces ks bs m (Upk ks bs bs.length 0)) {a i b k : Nat} (hg : getK m (farAt ks bs a i) = some (b,k)) (hb : b ≤ a) : ∀ x,IsLnk ks bs x → x.a = a → x.knob = i → False := fun x hx ha hi => by
 have := (h.some_ hg x hx ha hi).1
 have := hx.ab
 omega
theorem Faces.skip2 (hf : Fit ks bs) {m : List ((Pt × Int) × (Nat × Nat))} (h : Faces ks bs m (Upk ks bs bs.length 0)) {a i b k : Nat} (ha : a < bs.length) (hi : i < klen ks bs a) (hg : getK m (farAt ks bs a i) = some (b,k)) (hs : fitS (sortAt ks bs a i) (sortAt ks bs b k) = false) : ∀ x,IsLnk ks bs x → x.a = a → x.knob = i → False := fun x hx hxa hxi => by
 obtain ⟨e1,e2⟩ := h.some_ hg x hx hxa hxi
 have hm := meetB_iff.1 hx.m
 have s1 := (hf.dir ha hi).2.2
 have s2 := (hf.dir hx.b hx.o).2.2
 rw [hxa,hxi] at hm
 have : fitS (sortAt ks bs a i) (sortAt ks bs b k) = true := by
  rw [← e1,← e2]
  exact (fitS_iff s1 s2).2 hm.2.2
 rw [hs] at this
 cases this
theorem Faces.hit (hf : Fit ks bs) {m : List ((Pt × Int) × (Nat × Nat))} (h : Faces ks bs m (Upk ks bs bs.length 0)) {a i b k : Nat} (ha : a < bs.length) (hi : i < klen ks bs a) (hg : getK m (farAt ks bs a i) = some (b,k)) (hb : a < b) (hs : fitS (sortAt ks bs a i) (sortAt ks bs b k) = true) :
  IsLnk ks bs ⟨a,b,i,k,min (sortAt ks bs a i) (sortAt ks bs b k)⟩ := by
 obtain ⟨h1,h2⟩ := h.s _ _ _ hg
 have hbk : b < bs.length ∧ k < klen ks bs b := by
  rcases h1 with h1 | ⟨-,h1⟩
  ·exact h1
  ·omega
 have s1 := (hf.dir ha hi).2.2
 have s2 := (hf.dir hbk.1 hbk.2).2.2
 unfold faceAt farAt at h2
 simp only [Prod.mk.injEq] at h2
 exact ⟨hb,hbk.1,hi,hbk.2,meetB_iff.2 ⟨h2.1.symm,h2.2,(fitS_iff s1 s2).1 hs⟩,fitS_min s1 s2 hs⟩
theorem Faces.lt {m : List ((Pt × Int) × (Nat × Nat))} (h : Faces ks bs m (Upk ks bs bs.length 0)) {F : Pt × Int} {b k : Nat} (hg : getK m F = some (b,k)) : b < bs.length ∧ k < klen ks bs b := by
 rcases (h.s _ _ _ hg).1 with h1 | ⟨-,h1⟩
 ·exact h1
 ·omega
end

structure Jnt where
 a : Nat
 b : Nat
 strength : Int
 axis : Int
 slides : Bool
deriving instance DecidableEq for Jnt
def Jnt.cs (x : Jnt) : List Value := [.int .i64 x.a,.int .i64 x.b,.int .i64 x.strength,.int .u8 x.axis,.bool x.slides]
def Jnts (w : World) (A : Option Addr) (cap : Nat) (l : List Jnt) : Prop := SliceIs w A l.length cap 5 (l.map Jnt.cs)
theorem Jnts.ext {w w' : World} {A : Option Addr} {cap : Nat} {l : List Jnt} (h : Jnts w A cap l) (e : Ext w w') : Jnts w' A cap l := SliceIs.ext h e
theorem Jnts.len {w : World} {A : Option Addr} {cap : Nat} {l : List Jnt} (h : Jnts w A cap l) : l.length ≤ maxLen := Nat.le_trans h.le h.small
theorem jnts_nil (w : World) : Jnts w none 0 [] := ⟨rfl,Nat.le_refl _,Nat.zero_le _,by simp,fun h => by cases h⟩
theorem jnt_wide (l : List Jnt) : ∀ r ∈ l.map Jnt.cs,r.length = 5 := fun r h => by
 obtain ⟨p,_,rfl⟩ := List.mem_map.1 h
 rfl
def strongS (s : Int) : Int := if s = 1 then 2 else if s = 3 then 3 else if s = 5 then 5 else 0
def lineB (a b : Knb) : Bool := decide (a.dir / 2 = b.dir / 2) && ((decide (a.dir / 2 = 0) || decide (a.at_.x = b.at_.x)) && ((decide (a.dir / 2 = 1) || decide (a.at_.y = b.at_.y)) && (decide (a.dir / 2 = 2) || decide (a.at_.z = b.at_.z))))
theorem lineB_iff {a b : Knb} : lineB a b = true ↔ a.dir / 2 = b.dir / 2 ∧ (a.dir / 2 = 0 ∨ a.at_.x = b.at_.x) ∧ (a.dir / 2 = 1 ∨ a.at_.y = b.at_.y) ∧ (a.dir / 2 = 2 ∨ a.at_.z = b.at_.z) := by
 simp only [lineB,Bool.and_eq_true,Bool.or_eq_true,decide_eq_true_eq]
def lineK (k : Knb) : Pt := if k.dir / 2 = 0 then ⟨0,k.at_.y,k.at_.z⟩ else if k.dir / 2 = 1 then ⟨k.at_.x,0,k.at_.z⟩ else ⟨k.at_.x,k.at_.y,0⟩
theorem lineK_iff {a b : Knb} (ha : 0 ≤ a.dir ∧ a.dir ≤ 5) (hb : 0 ≤ b.dir ∧ b.dir ≤ 5) : lineB a b = true ↔ a.dir / 2 + 1 = b.dir / 2 + 1 ∧ lineK a = lineK b := by
 rw [lineB_iff]
 unfold lineK
 have h1 : a.dir / 2 = 0 ∨ a.dir / 2 = 1 ∨ a.dir / 2 = 2 := by omega
 have h2 : b.dir / 2 = 0 ∨ b.dir / 2 = 1 ∨ b.dir / 2 = 2 := by omega
 rcases h1 with h1 | h1 | h1 <;> rcases h2 with h2 | h2 | h2 <;> rw [h1,h2] <;> simp
section
variable (ks : List Knd) (bs : List Brk)
def knobAt (i k : Nat) : Knb := knbAt (bknobs ks (brkAt bs i)) k
def lineOk (x y : Lnk) : Bool := lineB (knobAt ks bs x.a x.knob) (knobAt ks bs x.a y.knob) && lineB (knobAt ks bs x.a x.knob) (knobAt ks bs x.b y.other)
def midJ (x : Lnk) (l : List Lnk) (k : Nat) : Jnt := ⟨x.a,x.b,((l.take k).map fun y => strongS y.sort).sum,if (l.take k).all (lineOk ks bs x) then (knobAt ks bs x.a x.knob).dir / 2 + 1 else 0,(l.take k).all fun y => decide (y.sort = 3)⟩
def endJ (j : Jnt) : Jnt := ⟨j.a,j.b,j.strength,j.axis,j.slides && decide (j.axis ≠ 0)⟩
def lnkAt (l : List Lnk) (i : Nat) : Lnk := l.getD i ⟨0,0,0,0,0⟩
def joinJ (l : List Lnk) : Jnt := endJ (midJ ks bs (lnkAt l 0) l l.length)
def sameP (x y : Lnk) : Bool := decide (y.a = x.a) && decide (y.b = x.b)
def jntAt (L : List Lnk) (i : Nat) : Option Jnt := if 0 < i ∧ sameP (lnkAt L (i - 1)) (lnkAt L i) = true then none else some (joinJ ks bs (L.filter (sameP (lnkAt L i))))
def pj (L : List Lnk) (i : Nat) : List Jnt := (List.range i).filterMap (jntAt ks bs L)
def jointL : List Jnt := pj ks bs (linkL ks bs) (linkL ks bs).length
end
theorem sameP_iff {x y : Lnk} : sameP x y = true ↔ y.a = x.a ∧ y.b = x.b := by simp [sameP]
theorem lnkAt_eq {l : List Lnk} {k : Nat} {p : Lnk} (h : l[k]? = some p) : lnkAt l k = p := by simp [lnkAt,h]
theorem lnkAt_get {l : List Lnk} {k : Nat} (h : k < l.length) : l[k]? = some (lnkAt l k) := by
 have := List.getElem?_eq_getElem h
 rw [lnkAt_eq this,this]
theorem lnkAt_mem {l : List Lnk} {k : Nat} (h : k < l.length) : lnkAt l k ∈ l := List.mem_of_getElem? (lnkAt_get h)
section
variable {ks : List Knd} {bs : List Brk}
theorem pj_succ (L : List Lnk) (i : Nat) : pj ks bs L (i + 1) = pj ks bs L i ++ (jntAt ks bs L i).toList := by
 unfold pj
 rw [List.range_succ,List.filterMap_append]
 cases h : jntAt ks bs L i <;> simp [h]
theorem pj_len (L : List Lnk) (i : Nat) : (pj ks bs L i).length ≤ i := by
 unfold pj
 exact Nat.le_trans (List.length_filterMap_le _ _) (by simp)
theorem midJ_zero (x : Lnk) (l : List Lnk) : midJ ks bs x l 0 = ⟨x.a,x.b,0,(knobAt ks bs x.a x.knob).dir / 2 + 1,true⟩ := by
 unfold midJ
 simp
theorem midJ_succ {x : Lnk} {l : List Lnk} {k : Nat} {y : Lnk} (h : l[k]? = some y) : midJ ks bs x l (k + 1) = ⟨x.a,x.b,(midJ ks bs x l k).strength + strongS y.sort,if lineOk ks bs x y then (midJ ks bs x l k).axis else 0,(midJ ks bs x l k).slides && decide (y.sort = 3)⟩ := by
 unfold midJ
 rw [List.take_add_one,h]
 simp only [Option.toList_some,List.map_append,List.sum_append,List.map_cons,List.map_nil,List.sum_cons,List.sum_nil,List.all_append,List.all_cons,List.all_nil,Bool.and_true,Int.add_zero,Jnt.mk.injEq,true_and,and_true]
 cases h1 : (l.take k).all (lineOk ks bs x) <;> cases h2 : lineOk ks bs x y <;> simp
theorem midJ_axis (x : Lnk) (l : List Lnk) (k : Nat) : (midJ ks bs x l k).axis = (knobAt ks bs x.a x.knob).dir / 2 + 1 ∨ (midJ ks bs x l k).axis = 0 := by
 unfold midJ
 simp only
 split
 ·exact Or.inl rfl
 ·exact Or.inr rfl
theorem midJ_strength (x : Lnk) (l : List Lnk) (k : Nat) : 0 ≤ (midJ ks bs x l k).strength ∧ (midJ ks bs x l k).strength ≤ 5 * k := by
 induction k with
 | zero => rw [midJ_zero]; simp
 | succ k ih =>
  cases h : l[k]? with
  | none =>
   have e : midJ ks bs x l (k + 1) = midJ ks bs x l k := by
    unfold midJ
    rw [List.take_add_one,h,Option.toList_none,List.append_nil]
   rw [e]
   omega
  | some y =>
   rw [midJ_succ h]
   simp only
   have : 0 ≤ strongS y.sort ∧ strongS y.sort ≤ 5 := by
    unfold strongS
    repeat' split
    all_goals omega
   omega
theorem filter_group {L : List Lnk} (ha : L.Pairwise fun x y => ltK x y = true) {p n : Nat} (hp : p + n ≤ L.length) (hn : 0 < n) (hb : p = 0 ∨ sameP (lnkAt L (p - 1)) (lnkAt L p) = false) (hs : ∀ t,t < n → sameP (lnkAt L p) (lnkAt L (p + t)) = true) (he : p + n = L.length ∨ sameP (lnkAt L p) (lnkAt L (p + n)) = false) :
  L.filter (sameP (lnkAt L p)) = (L.drop p).take n := by
 have asc : ∀ i j,i < j → j < L.length → ltK (lnkAt L i) (lnkAt L j) = true := fun i j hij hj => by
  have := List.pairwise_iff_getElem.1 ha i j (by omega) hj hij
  rwa [← lnkAt_eq (List.getElem?_eq_getElem (show i < L.length by omega)),← lnkAt_eq (List.getElem?_eq_getElem hj)] at this
 have e : L = L.take p ++ ((L.drop p).take n ++ L.drop (p + n)) := by
  rw [← List.drop_drop,List.take_append_drop,List.take_append_drop]
 have f1 : (L.take p).filter (sameP (lnkAt L p)) = [] := by
  rw [List.filter_eq_nil_iff]
  intro y hy h
  obtain ⟨k,hk⟩ := List.getElem?_of_mem hy
  have hkp : k < p := by
   have := (List.getElem?_eq_some_iff.1 hk).1
   rw [List.length_take] at this
   omega
  rw [List.getElem?_take_of_lt hkp] at hk
  rw [← lnkAt_eq hk,sameP_iff] at h
  rcases hb with hb | hb
  ·omega
  ·rw [← Bool.not_eq_true,sameP_iff] at hb
   have h2 := ltK_iff.1 (asc (p - 1) p (by omega) (by omega))
   rcases Nat.lt_or_ge k (p - 1) with h3 | h3
   ·have h4 := ltK_iff.1 (asc k (p - 1) h3 (by omega))
    omega
   ·obtain rfl : k = p - 1 := by omega
    omega
 have f2 : ((L.drop p).take n).filter (sameP (lnkAt L p)) = (L.drop p).take n := by
  rw [List.filter_eq_self]
  intro y hy
  obtain ⟨k,hk⟩ := List.getElem?_of_mem hy
  have hkn : k < n := by
   have := (List.getElem?_eq_some_iff.1 hk).1
   rw [List.length_take] at this
   omega
  rw [List.getElem?_take_of_lt hkn,List.getElem?_drop] at hk
  rw [← lnkAt_eq hk]
  exact hs k hkn
 have f3 : (L.drop (p + n)).filter (sameP (lnkAt L p)) = [] := by
  rw [List.filter_eq_nil_iff]
  intro y hy h
  obtain ⟨k,hk⟩ := List.getElem?_of_mem hy
  have hlt := (List.getElem?_eq_some_iff.1 hk).1
  rw [List.length_drop] at hlt
  rw [List.getElem?_drop] at hk
  rw [← lnkAt_eq hk,sameP_iff] at h
  rcases he with he | he
  ·omega
  ·rw [← Bool.not_eq_true,sameP_iff] at he
   have h2 := ltK_iff.1 (asc p (p + n) (by omega) (by omega))
   rcases Nat.eq_zero_or_pos k with rfl | h3
   ·exact he h
   ·have h4 := ltK_iff.1 (asc (p + n) (p + n + k) (by omega) (by omega))
    omega
 refine (congrArg (List.filter (sameP (lnkAt L p))) e).trans ?_
 rw [List.filter_append,List.filter_append,f1,f2,f3,List.nil_append,List.append_nil]
theorem pj_group {L : List Lnk} (ha : L.Pairwise fun x y => ltK x y = true) {p n : Nat} (hp : p + n ≤ L.length) (hn : 0 < n) (hb : p = 0 ∨ sameP (lnkAt L (p - 1)) (lnkAt L p) = false) (hs : ∀ t,t < n → sameP (lnkAt L p) (lnkAt L (p + t)) = true) (he : p + n = L.length ∨ sameP (lnkAt L p) (lnkAt L (p + n)) = false) :
  pj ks bs L (p + n) = pj ks bs L p ++ [joinJ ks bs ((L.drop p).take n)] := by
 rw [← filter_group ha hp hn hb hs he]
 have key : ∀ t,t < n → pj ks bs L (p + (t + 1)) = pj ks bs L p ++ [joinJ ks bs (L.filter (sameP (lnkAt L p)))] := by
  intro t
  induction t with
  | zero =>
   intro _
   rw [Nat.zero_add,pj_succ]
   unfold jntAt
   rw [if_neg (by
    rintro ⟨h1,h2⟩
    rcases hb with hb | hb
    ·omega
    ·rw [hb] at h2
     cases h2)]
   rfl
  | succ t ih =>
   intro ht
   rw [show p + (t + 1 + 1) = p + (t + 1) + 1 by omega,pj_succ,ih (by omega)]
   unfold jntAt
   rw [if_pos]
   ·simp
   ·refine ⟨by omega,?_⟩
    have h1 := sameP_iff.1 (hs t (by omega))
    have h2 := sameP_iff.1 (hs (t + 1) ht)
    rw [show p + (t + 1) - 1 = p + t by omega,sameP_iff]
    omega
 have := key (n - 1) (by omega)
 rwa [show n - 1 + 1 = n by omega] at this
structure OfPair (ks : List Knd) (bs : List Brk) (l : List Lnk) : Prop where
 ne : 0 < l.length
 m : ∀ y ∈ l,IsLnk ks bs y ∧ y.a = (lnkAt l 0).a ∧ y.b = (lnkAt l 0).b
theorem ofPair_filter {x : Lnk} (hx : x ∈ linkL ks bs) : OfPair ks bs ((linkL ks bs).filter (sameP x)) := by
 have hne : 0 < ((linkL ks bs).filter (sameP x)).length := List.length_pos_iff.2 fun e => by
  have : x ∈ (linkL ks bs).filter (sameP x) := List.mem_filter.2 ⟨hx,sameP_iff.2 ⟨rfl,rfl⟩⟩
  rw [e] at this
  cases this
 refine ⟨hne,fun y hy => ?_⟩
 obtain ⟨h1,h2⟩ := List.mem_filter.1 hy
 obtain ⟨-,h3⟩ := List.mem_filter.1 (lnkAt_mem hne)
 rw [sameP_iff] at h2 h3
 exact ⟨mem_linkL.1 h1,by omega,by omega⟩
theorem lineOk_iff (hf : Fit ks bs) {x y : Lnk} (hx : IsLnk ks bs x) (hy : IsLnk ks bs y) (ha : y.a = x.a) (hb : y.b = x.b) : lineOk ks bs x y = lineB (knobAt ks bs x.a x.knob) (knobAt ks bs x.a y.knob) := by
 obtain ⟨xa,xb,xk,xo,xs⟩ := x
 obtain ⟨ya,yb,yk,yo,ys⟩ := y
 simp only at ha hb
 subst ha hb
 have hm := meetB_iff.1 hy.m
 have hd := hf.dir (show ya < bs.length from by have := hy.ab; have := hy.b; simp only at *; omega) hy.k
 simp only at hm hd
 unfold lineOk
 cases h : lineB (knobAt ks bs ya xk) (knobAt ks bs ya yk)
 ·rfl
 ·rw [Bool.true_and,lineB_iff]
  rw [lineB_iff] at h
  unfold knobAt at *
  obtain ⟨d,hdn⟩ : ∃ d : Nat,(knbAt (bknobs ks (brkAt bs ya)) yk).dir = d := ⟨(knbAt (bknobs ks (brkAt bs ya)) yk).dir.toNat,by omega⟩
  rw [← hm.1,hm.2.1]
  rw [hdn] at h hd ⊢
  rw [Int.toNat_natCast]
  unfold addP oppD
  simp only
  have e1 : d = 0 ∨ d = 1 ∨ d = 2 ∨ d = 3 ∨ d = 4 ∨ d = 5 := by omega
  rcases e1 with rfl | rfl | rfl | rfl | rfl | rfl <;> simp only [stepS] <;> omega
end

theorem infoJnt : (Tryz.prog.info? 44).map (fun i => (i.zero,i.size,i.bytes)) = some (some (.agg #[.int .i64 0,.int .i64 0,.int .i64 0,.int .u8 0,.bool false]),5,32) := by kernel_rfl
theorem Knb.meets.nat {x : Knb} (h : x.meets) : ∃ (a b c : Int) (d : Nat) (s : Int),x = ⟨⟨a,b,c⟩,d,s⟩ ∧ Knb.meets ⟨⟨a,b,c⟩,d,s⟩ := by
 obtain ⟨⟨a,b,c⟩,d,s⟩ := x
 have h0 := h.d0
 simp only at h0
 have e : d = (d.toNat : Int) := by omega
 rw [e] at h ⊢
 exact ⟨a,b,c,d.toNat,s,rfl,h⟩
theorem infoLnk : (Tryz.prog.info? 95).map (fun i => (i.zero,i.size,i.bytes)) = some (some (.agg #[.int .i64 0,.int .i64 0,.int .i64 0,.int .i64 0,.int .u8 0]),5,40) := by kernel_rfl
theorem links_cell {w : World} {A : Option Addr} {cap : Nat} {l : List Lnk} (h : Links w A cap l) {k : Nat} (hk : k < l.length) {g off : Nat} (hA : A = some ⟨g,off,none⟩) : w.cell? ⟨g,off + k * 5,none⟩ = some (.int .i64 (lnkAt l k).a) ∧ w.cell? ⟨g,off + k * 5 + 1,none⟩ = some (.int .i64 (lnkAt l k).b) ∧ w.cell? ⟨g,off + k * 5 + 2,none⟩ = some (.int .i64 (lnkAt l k).knob) ∧ w.cell? ⟨g,off + k * 5 + 3,none⟩ = some (.int .i64 (lnkAt l k).other) ∧ w.cell? ⟨g,off + k * 5 + 4,none⟩ = some (.int .u8 (lnkAt l k).sort) := by
 obtain ⟨b,o,p,hA',hp, -,c0,c1,c2,c3,c4⟩ := h.at_ hk
 rw [hA'] at hA
 cases hA
 rw [lnkAt_eq hp]
 exact ⟨c0,c1,c2,c3,c4⟩
theorem five_put {w w0 : World} {g : Nat} {t : TypeId} {x y z p q : Value} (h : Blk w g t #[x,y,z,p,q]) (E : Ext w0 w) (hg : w0.heap.size ≤ g) (a b c d e : Value) :
  ∃ V,((((w.setCell ⟨g,0,none⟩ a).setCell ⟨g,1,none⟩ b).setCell ⟨g,2,none⟩ c).setCell ⟨g,3,none⟩ d).setCell ⟨g,4,none⟩ e = V ∧ Blk V g t #[a,b,c,d,e] ∧ Ext w0 V ∧ V.heap.size = w.heap.size :=
 ⟨_,rfl,((((h.set_ 0 a).set_ 1 b).set_ 2 c).set_ 3 d).set_ 4 e,((((E.setCell hg a).setCell hg b).setCell hg c).setCell hg d).setCell hg e,by simp [World.setCell]⟩
def natZ (l : List Nat) : List Int := l.map fun (g : Nat) => (g : Int)

def NumX (w : World) (g : Nat) (l : List Int) : Prop := ∃ ex,Blk w g 3 ((l.map numC).toArray ++ ex)
section
variable {w w' : World} {g : Nat} {l : List Int}
theorem NumX.ext (h : NumX w g l) (E : Ext w w') : NumX w' g l := by
 obtain ⟨ex,h⟩ := h
 exact ⟨ex,h.ext E⟩
theorem NumX.lt (h : NumX w g l) : g < w.heap.size := by
 obtain ⟨ex,h⟩ := h
 exact h.lt
theorem NumX.frozen (h : NumX w g l) (i : Nat) : w.frozen? ⟨g,i,none⟩ = false := by
 obtain ⟨ex,h⟩ := h
 exact h.frozen i
theorem NumX.cell (h : NumX w g l) {i : Nat} {v : Int} (hv : l[i]? = some v) : w.cell? ⟨g,i,none⟩ = some (.int .i64 v) := by
 obtain ⟨ex,h⟩ := h
 have hl := (List.getElem?_eq_some_iff.1 hv).1
 rw [h.cell,Array.getElem?_append_left (by simpa using hl)]
 simp [hv,numC]
theorem NumX.set_ (h : NumX w g l) {i : Nat} (hi : i < l.length) (v : Int) : NumX (w.setCell ⟨g,i,none⟩ (.int .i64 v)) g (l.set i v) := by
 obtain ⟨ex,h⟩ := h
 refine ⟨ex,?_⟩
 have := h.set_ i (.int .i64 v)
 rw [Array.setIfInBounds_append,if_pos (by simpa using hi)] at this
 have e : (l.map numC).toArray.setIfInBounds i (.int .i64 v) = ((l.set i v).map numC).toArray := by
  rw [List.setIfInBounds_toArray,List.map_set]
  rfl
 rwa [e] at this
theorem NumX.far (h : NumX w g l) {p : Addr} (hp : g ≠ p.block) (v : Value) : NumX (w.setCell p v) g l := by
 obtain ⟨ex,h⟩ := h
 exact ⟨ex,h.far hp v⟩
theorem num_rows (l : List Int) : (l.map fun n => [Value.int .i64 n]).flatten = l.map numC := by
 induction l with
 | nil => rfl
 | cons x l ih => rw [List.map_cons,List.flatten_cons,ih]; rfl
theorem NumX.of_own {b n cap : Nat} (h : w.ownsRow b 3 1 (.slice (some ⟨g,0,none⟩) n cap) n (l.map numC)) : NumX w g l ∧ b ≤ g ∧ n ≤ cap ∧ cap ≤ maxLen := by
 rw [← num_rows] at h
 obtain ⟨⟨ex,h1⟩,h2⟩ := RowX.of_own (rows := l.map fun n => [Value.int .i64 n]) h
 refine ⟨⟨ex,?_⟩,h2⟩
 unfold rowsA at h1
 rwa [num_rows] at h1
theorem NumX.slice (h : NumX w g l) {cap : Nat} (h1 : l.length ≤ cap) (h2 : cap ≤ maxLen) : IntsZ w (some ⟨g,0,none⟩) cap l :=
 ⟨by rw [List.length_map],h1,h2,fun r hr => by obtain ⟨y, -,rfl⟩ := List.mem_map.1 hr; rfl,fun _ => ⟨g,0,rfl,h.lt,fun i r hr j u hu => by
  rw [List.getElem?_map] at hr
  obtain ⟨v,hv,rfl⟩ := Option.map_eq_some_iff.1 hr
  have hj : j = 0 := by
   have := (List.getElem?_eq_some_iff.1 hu).1
   simpa using this
  subst hj
  simp only [List.getElem?_cons_zero,Option.some.injEq] at hu
  subst hu
  rw [Nat.zero_add,Nat.mul_one,Nat.add_zero]
  exact h.cell hv⟩⟩
end

def setF {α : Type} (f : Nat → α) (i : Nat) (v : α) : Nat → α := fun d => if d = i then v else f d
theorem setF_at {α : Type} (f : Nat → α) (i : Nat) (v : α) : setF f i v i = v := if_pos rfl
theorem setF_ne {α : Type} (f : Nat → α) {i d : Nat} (v : α) (h : d ≠ i) : setF f i v d = f d := if_neg h
structure RowsO (w : World) (T n : Nat) (vs : Nat → Value) (f : Nat → List Int) : Prop where
 row : ∀ k,k < n → w.ownsRow T 3 1 (vs k) (f k).length ((f k).map numC)
 sep : ∀ c d,c < n → d < n → c ≠ d → ∀ r,(vs c).ownBlock = some r → (vs d).ownBlock ≠ some r
section
variable {w w' : World} {T n : Nat} {vs : Nat → Value} {f : Nat → List Int}
theorem RowsO.ext (h : RowsO w T n vs f) (E : Ext w w') : RowsO w' T n vs f := ⟨fun k hk => own_ext (h.row k hk) E,h.sep⟩
theorem RowsO.nil (w : World) (T n : Nat) : RowsO w T n (fun _ => nilV) (fun _ => []) := ⟨fun _ _ => World.ownsRow_nil _ _ _ _,fun _ _ _ _ _ r hr => by cases hr⟩
theorem RowsO.other (h : RowsO w T n vs f) {c : Nat} (hc : c < n) {v' : Value} {m : Nat} {xs ns : List Value} (hf : Fate w w' T 3 1 (vs c) v' m xs ns) {d : Nat} (hd : d < n) (hdc : d ≠ c) :
  w'.ownsRow T 3 1 (vs d) (f d).length ((f d).map numC) ∧ ∀ r,(vs d).ownBlock = some r → v'.ownBlock ≠ some r := by
 obtain ⟨-,g,cap,rfl,hh⟩ := hf
 have key : ∀ r,(vs d).ownBlock = some r → (Value.slice (some ⟨g,0,none⟩) (m + 1) cap).ownBlock ≠ some r := by
  intro r hr e
  simp only [Value.ownBlock,Option.some.injEq] at e
  subst e
  rcases hh with ⟨hu, -⟩ | ⟨hu, -⟩
  ·exact h.sep d c hd hc hdc g hr (by rw [hu]; rfl)
  ·have := ((h.row d hd).lt _ hr).2
   omega
 refine ⟨?_,key⟩
 rcases hh with ⟨-,hg⟩ | ⟨-,hg⟩
 ·refine ownGrown (h.row d hd) hg ?_
  cases ho : (vs d).ownBlock with
  | none => exact Or.inl rfl
  | some r =>
   right
   intro e
   exact key r ho e.symm
 ·refine ownGrown (h.row d hd) hg ?_
  cases ho : (vs d).ownBlock with
  | none => exact Or.inl rfl
  | some r =>
   right
   intro e
   cases e
theorem RowsO.step (h : RowsO w T n vs f) {c : Nat} (hc : c < n) {v' : Value} {j : Int} (hf : Fate w w' T 3 1 (vs c) v' (f c).length ((f c).map numC) [numC j]) : RowsO w' T n (setF vs c v') (setF f c (f c ++ [j])) := by
 refine ⟨fun d hd => ?_,fun a b ha hb hab r hr => ?_⟩
 ·by_cases e : d = c
  ·subst e
   rw [setF_at,setF_at,List.length_append,List.map_append]
   exact hf.1
  ·rw [setF_ne _ _ e,setF_ne _ _ e]
   exact (h.other hc hf hd e).1
 ·by_cases ea : a = c
  ·subst ea
   rw [setF_at] at hr
   rw [setF_ne _ _ (Ne.symm hab)]
   exact fun e => (h.other hc hf hb (Ne.symm hab)).2 r e hr
  ·rw [setF_ne _ _ ea] at hr
   by_cases eb : b = c
   ·subst eb
    rw [setF_at]
    exact (h.other hc hf ha ea).2 r hr
   ·rw [setF_ne _ _ eb]
    exact h.sep a b ha hb hab r hr
structure TmpO (w : World) (n : Nat) (vs : Nat → Value) (g : Nat) (x : Int) : Prop where
 b : Blk w g 3 #[.int .i64 x]
 s : ∀ k,k < n → (vs k).ownBlock ≠ some g
theorem TmpO.ext {g : Nat} {x : Int} (h : TmpO w n vs g x) (E : Ext w w') : TmpO w' n vs g x := ⟨h.b.ext E,h.s⟩
theorem TmpO.new (h : RowsO w T n vs f) (x : Int) : TmpO (w.alloc (.cells #[.int .i64 x] 3)) n vs w.heap.size x := ⟨Blk.new _ _ _,fun k hk e => by
 have := ((h.row k hk).lt _ e).2
 omega⟩
theorem TmpO.step {g c : Nat} {x : Int} (h : TmpO w n vs g x) (hc : c < n) {v' : Value} {m : Nat} {xs ns : List Value} (hf : Fate w w' T 3 1 (vs c) v' m xs ns) : TmpO w' n (setF vs c v') g x := by
 obtain ⟨-,g0,cap,rfl,hh⟩ := hf
 have hne : g0 ≠ g := by
  rcases hh with ⟨hu, -⟩ | ⟨hu, -⟩
  ·exact fun e => h.s c hc (by rw [hu,e]; rfl)
  ·have := h.b.lt
   omega
 refine ⟨?_,fun k hk => ?_⟩
 ·rcases hh with ⟨-,hg⟩ | ⟨-,hg⟩
  ·exact h.b.grown hg (fun e => hne (Option.some.inj e).symm)
  ·exact h.b.grown hg (by nofun)
 ·by_cases e : k = c
  ·subst e
   rw [setF_at]
   exact fun e => hne (Option.some.inj e)
  ·rw [setF_ne _ _ e]
   exact h.s k hk
theorem Blk.fate {g : Nat} {t e : TypeId} {cs : Array Value} {b sz m : Nat} {v v' : Value} {xs ys ns : List Value} {k : Nat} (h : Blk w g t cs) (own : w.ownsRow b e sz v k ys) (hf : Fate w w' b e sz v v' m xs ns) (hne : t ≠ e) : Blk w' g t cs := by
 obtain ⟨-,g0,cap,rfl,hh⟩ := hf
 rcases hh with ⟨hu,hg⟩ | ⟨-,hg⟩
 ·refine blkGrown h own ?_ hne
  rw [hu]
  exact hg
 ·exact h.grown hg (by nofun)
theorem Ext.fate {a : World} {e : TypeId} {b sz m : Nat} {v v' : Value} {xs ys ns : List Value} {k : Nat} (E : Ext a w) (own : w.ownsRow b e sz v k ys) (hb : a.heap.size ≤ b) (hf : Fate w w' b e sz v v' m xs ns) : Ext a w' := by
 obtain ⟨-,g0,cap,rfl,hh⟩ := hf
 rcases hh with ⟨hu,hg⟩ | ⟨-,hg⟩
 ·refine E.grown hg fun k hk => ?_
  cases hk
  have := (own.lt g0 (by rw [hu]; rfl)).1
  omega
 ·exact E.grown hg fun k hk => by cases hk
theorem Fate.size {e : TypeId} {b sz m : Nat} {v v' : Value} {xs ns : List Value} (hf : Fate w w' b e sz v v' m xs ns) : w.heap.size ≤ w'.heap.size := by
 obtain ⟨-,g0,cap,rfl,hh⟩ := hf
 rcases hh with ⟨-,hg⟩ | ⟨-,hg⟩ <;> exact hg.size
end
def vsA (n : Nat) (vs : Nat → Value) : Array Value := ((List.range n).map vs).toArray
theorem vsA_get {n i : Nat} (vs : Nat → Value) (h : i < n) : (vsA n vs)[i]? = some (vs i) := by
 unfold vsA
 simp [h]
theorem vsA_set {n i : Nat} (vs : Nat → Value) (v : Value) : (vsA n vs).setIfInBounds i v = vsA n (setF vs i v) := by
 apply Array.ext_getElem?
 intro j
 unfold vsA setF
 rw [Array.getElem?_setIfInBounds]
 by_cases hj : j < n
 ·by_cases h : i = j
  ·subst h
   simp [hj]
  ·rw [if_neg h]
   simp [hj,Ne.symm h]
 ·by_cases h : i = j
  ·subst h
   simp [hj]
  ·rw [if_neg h]
   simp [hj]
def nbrs (l : List Lnk) (k : Nat) : List Int := l.flatMap fun x => (if k = x.a then [(x.b : Int)] else []) ++ if k = x.b then [(x.a : Int)] else []
theorem RowsO.far {w : World} {T n : Nat} {vs : Nat → Value} {f : Nat → List Int} (h : RowsO w T n vs f) {g : Nat} {t : TypeId} {cs : Array Value} (hb : Blk w g t cs) (ht : t ≠ 3) {p : Addr} (hp : p.block = g) (u : Value) : RowsO (w.setCell p u) T n vs f := by
 have ho : Only (fun b => b = g) w (w.setCell p u) := (Only.refl _ _).setCell (fun _ => hp) _
 refine ⟨fun k hk => own_only (h.row k hk) ho fun r hr e => ?_,h.sep⟩
 subst e
 obtain ⟨cs',h'⟩ := own_typed (h.row k hk) hr
 exact ht (hb.types h')
theorem infoInts : (Tryz.prog.info? 39).map (fun i => (i.zero,i.size,i.bytes)) = some (some (.slice none 0 0),1,24) := by kernel_rfl
theorem infoInt2 : (Tryz.prog.info? 3).map (fun i => (i.zero,i.size,i.bytes)) = some (some (.int .i64 0),1,8) := by kernel_rfl
theorem flat_one (n : Nat) (v : Value) : (List.replicate n [v]).flatten = List.replicate n v := by
 induction n with
 | zero => rfl
 | succ n ih => rw [List.replicate_succ,List.flatten_cons,ih,List.replicate_succ]; rfl
def zeroA (n : Nat) : Array Value := ((List.replicate n (0 : Int)).map numC).toArray
theorem make_nums (n : Nat) (hn : n ≤ 1000) (w : World) : (Instr.makeSlice 39 (.int .i64 (n : Int)) (.int .i64 (n : Int))).run Tryz.prog w = .ok (.slice (some ⟨w.heap.size,0,none⟩) n n) (w.alloc (.cells (zeroA n) 3)) := by
 obtain ⟨i0,hi,hz0,hz1,hz2⟩ := info_parts infoInt2
 have h := run_make (P := Tryz.prog) w 39 3 i0 (.int .i64 0) Tryz.underlying39 hi hz0 .i64 .i64 (n : Int) (n : Int) (by omega) (Int.le_refl _) (by rw [hz2]; omega) (by omega)
 rw [h]
 have e : madeCells (Value.cells (.int .i64 0)) ((n : Int).toNat * i0.size) = zeroA n := by
  rw [hz1,Int.toNat_natCast,rowsA_made (sz := 1) rfl (by omega)]
  unfold rowsA zeroA
  rw [List.map_replicate]
  exact congrArg List.toArray (flat_one n (numC 0))
 rw [e]
 simp
theorem num_zero {w : World} {g n : Nat} (h : Blk w g 3 (zeroA n)) : NumX w g (List.replicate n 0) := ⟨#[],by rw [Array.append_empty]; exact h⟩
def negL (n t : Nat) : List Int := List.replicate t (-1) ++ List.replicate (n - t) 0

theorem Jnts.at_ {w : World} {A : Option Addr} {cap : Nat} {l : List Jnt} (h : Jnts w A cap l) {k : Nat} (hk : k < l.length) :
  ∃ b off p,A = some ⟨b,off,none⟩ ∧ l[k]? = some p ∧ b < w.heap.size ∧ w.cell? ⟨b,off + k * 5,none⟩ = some (.int .i64 p.a) ∧ w.cell? ⟨b,off + k * 5 + 1,none⟩ = some (.int .i64 p.b) ∧
   w.cell? ⟨b,off + k * 5 + 2,none⟩ = some (.int .i64 p.strength) ∧ w.cell? ⟨b,off + k * 5 + 3,none⟩ = some (.int .u8 p.axis) ∧ w.cell? ⟨b,off + k * 5 + 4,none⟩ = some (.bool p.slides) := by
 obtain ⟨b,off,hA,hb,hc⟩ := SliceIs.cells h (by omega)
 have hget : l[k]? = some l[k] := List.getElem?_eq_getElem hk
 have hr : (l.map Jnt.cs)[k]? = some l[k].cs := by rw [List.getElem?_map,hget]; rfl
 exact ⟨b,off,l[k],hA,hget,hb,hc k _ hr 0 _ rfl,hc k _ hr 1 _ rfl,hc k _ hr 2 _ rfl,hc k _ hr 3 _ rfl,hc k _ hr 4 _ rfl⟩

theorem three_put {w w0 : World} {g : Nat} {t : TypeId} {x y z : Value} (h : Blk w g t #[x,y,z]) (E : Ext w0 w) (hg : w0.heap.size ≤ g) (a b c : Value) :
  ∃ V,((w.setCell ⟨g,0,none⟩ a).setCell ⟨g,1,none⟩ b).setCell ⟨g,2,none⟩ c = V ∧ Blk V g t #[a,b,c] ∧ Ext w0 V :=
 ⟨_,rfl,((h.set_ 0 a).set_ 1 b).set_ 2 c,((E.setCell hg a).setCell hg b).setCell hg c⟩
set_option maxRecDepth 100000 in
set_option maxHeartbeats 8000000 in
theorem line_c (x y z : Int) (d : Nat) (s : Int) (hd : d < 6) (w : World) :
  Calls Tryz.prog 49 #[.agg #[.int .i64 x,.int .i64 y,.int .i64 z,.int .u8 d,.int .u8 s]] w fun e w' => e = .returned (.tuple #[.int .u8 ((d : Int) / 2 + 1),.agg #[.int .i64 (lineK ⟨⟨x,y,z⟩,d,s⟩).x,.int .i64 (lineK ⟨⟨x,y,z⟩,d,s⟩).y,.int .i64 (lineK ⟨⟨x,y,z⟩,d,s⟩).z]]) ∧ Ext w w' := by
 obtain ⟨W1,hW1,E1,B1,hz1⟩ := mk_ w #[.int .i64 x,.int .i64 y,.int .i64 z,.int .u8 d,.int .u8 s] 109
 obtain ⟨W2,hW2,E2,B2,hz2⟩ := mk_ W1 #[.int .i64 0,.int .i64 0,.int .i64 0] 27
 have E12 := E1.trans E2
 have B12 := B1.ext E2
 have b1 := B12.cell
 have f1 := B12.frozen
 have hz : w.heap.size ≤ W1.heap.size := E1.size
 have hne : W1.heap.size ≠ w.heap.size := by omega
 have Hne := Lib.hid hne
 have Hz := Lib.hid hz
 clear hz1 hz2 hne hz
 obtain ⟨q,hq⟩ : ∃ q,(d : Int).tdiv 2 = q := ⟨_,rfl⟩
 have eq := Int.tdiv_eq_ediv_of_nonneg (a := (d : Int)) (b := 2) (by omega)
 rw [hq] at eq
 have e1 : q = 0 ∨ q = 1 ∨ q = 2 := by omega
 have hK : lineK ⟨⟨x,y,z⟩,d,s⟩ = if q = 0 then ⟨0,y,z⟩ else if q = 1 then ⟨x,0,z⟩ else ⟨x,y,0⟩ := by
  unfold lineK
  rw [eq]
 rw [hK,← eq]
 clear hK eq
 rcases e1 with rfl | rfl | rfl
 ·obtain ⟨V,hV⟩ : ∃ V,W2.setCell ⟨w.heap.size,0,none⟩ (.int .i64 0) = V := ⟨_,rfl⟩
  have BV := B12.set_ 0 (.int .i64 0)
  rw [hV] at BV
  have BC : Blk V W1.heap.size 27 #[.int .i64 0,.int .i64 0,.int .i64 0] := by rw [← hV]; exact B2.far Hne.out _
  have EV : Ext w V := by rw [← hV]; exact E12.setCell (Nat.le_refl _) _
  have bv := BV.cell
  go_enter Tryz.func49,Tryz.ntmps49
  go_upto_region 7 with (fail)
  clear b1 f1 hV hW1 hW2
  refine wp_region_tail 7 (by kernel_rfl) (by kernel_rfl) ?_
  simp only [List.take_succ_cons,List.take_zero,List.drop_succ_cons,List.drop_zero]
  repeat (go_big_quiet_step (fail))
  refine wpQuiet_nil ?_
  intro W7 hW7
  have E7 : Ext V W7 := by
   obtain ⟨x,rfl⟩ := hW7
   exact (Ext.refl _).grow x
  clear hW7
  obtain ⟨hcW7,hfW7,hzW7⟩ := ext_facts E7
  clear hcW7 hfW7 hzW7 bv
  have bc := (BC.ext E7).cell
  have fc := (BC.ext E7).frozen
  obtain ⟨V2,hV2,BV2,EV2⟩ := three_put (BC.ext E7) (EV.trans E7) Hz.out (.int .i64 0) (.int .i64 y) (.int .i64 z)
  have bv2 := BV2.cell
  go_wp2_with fail
  refine bodyPost_ret (v := .tuple #[.int .u8 1,.agg #[.int .i64 0,.int .i64 y,.int .i64 z]]) (by simp [results,Tryz.results49,go_sem,bv2]) rfl ⟨rfl,EV2⟩
 ·obtain ⟨V,hV⟩ : ∃ V,W2.setCell ⟨w.heap.size,1,none⟩ (.int .i64 0) = V := ⟨_,rfl⟩
  have BV := B12.set_ 1 (.int .i64 0)
  rw [hV] at BV
  have BC : Blk V W1.heap.size 27 #[.int .i64 0,.int .i64 0,.int .i64 0] := by rw [← hV]; exact B2.far Hne.out _
  have EV : Ext w V := by rw [← hV]; exact E12.setCell (Nat.le_refl _) _
  have bv := BV.cell
  go_enter Tryz.func49,Tryz.ntmps49
  go_upto_region 7 with (fail)
  clear b1 f1 hV hW1 hW2
  refine wp_region_tail 7 (by kernel_rfl) (by kernel_rfl) ?_
  simp only [List.take_succ_cons,List.take_zero,List.drop_succ_cons,List.drop_zero]
  repeat (go_big_quiet_step (fail))
  refine wpQuiet_nil ?_
  intro W7 hW7
  have E7 : Ext V W7 := by
   obtain ⟨x,rfl⟩ := hW7
   exact (Ext.refl _).grow x
  clear hW7
  obtain ⟨hcW7,hfW7,hzW7⟩ := ext_facts E7
  clear hcW7 hfW7 hzW7 bv
  have bc := (BC.ext E7).cell
  have fc := (BC.ext E7).frozen
  obtain ⟨V2,hV2,BV2,EV2⟩ := three_put (BC.ext E7) (EV.trans E7) Hz.out (.int .i64 x) (.int .i64 0) (.int .i64 z)
  have bv2 := BV2.cell
  go_wp2_with fail
  refine bodyPost_ret (v := .tuple #[.int .u8 2,.agg #[.int .i64 x,.int .i64 0,.int .i64 z]]) (by simp [results,Tryz.results49,go_sem,bv2]) rfl ⟨rfl,EV2⟩
 ·obtain ⟨V,hV⟩ : ∃ V,W2.setCell ⟨w.heap.size,2,none⟩ (.int .i64 0) = V := ⟨_,rfl⟩
  have BV := B12.set_ 2 (.int .i64 0)
  rw [hV] at BV
  have BC : Blk V W1.heap.size 27 #[.int .i64 0,.int .i64 0,.int .i64 0] := by rw [← hV]; exact B2.far Hne.out _
  have EV : Ext w V := by rw [← hV]; exact E12.setCell (Nat.le_refl _) _
  have bv := BV.cell
  go_enter Tryz.func49,Tryz.ntmps49
  go_upto_region 7 with (fail)
  clear b1 f1 hV hW1 hW2
  refine wp_region_tail 7 (by kernel_rfl) (by kernel_rfl) ?_
  simp only [List.take_succ_cons,List.take_zero,List.drop_succ_cons,List.drop_zero]
  repeat (go_big_quiet_step (fail))
  refine wpQuiet_nil ?_
  intro W7 hW7
  have E7 : Ext V W7 := by
   obtain ⟨x,rfl⟩ := hW7
   exact (Ext.refl _).grow x
  clear hW7
  obtain ⟨hcW7,hfW7,hzW7⟩ := ext_facts E7
  clear hcW7 hfW7 hzW7 bv
  have bc := (BC.ext E7).cell
  have fc := (BC.ext E7).frozen
  obtain ⟨V2,hV2,BV2,EV2⟩ := three_put (BC.ext E7) (EV.trans E7) Hz.out (.int .i64 x) (.int .i64 y) (.int .i64 0)
  have bv2 := BV2.cell
  go_wp2_with fail
  refine bodyPost_ret (v := .tuple #[.int .u8 3,.agg #[.int .i64 x,.int .i64 y,.int .i64 0]]) (by simp [results,Tryz.results49,go_sem,bv2]) rfl ⟨rfl,EV2⟩
end Go.Proofs.YtjacbhomhjoolaaGreat
