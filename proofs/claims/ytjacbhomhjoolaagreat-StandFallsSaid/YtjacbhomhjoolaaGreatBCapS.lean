
/- A number of a table, changed. What each brick may put on each other one, plain. -/
import Derived.Test.YtjacbhomhjoolaaGreatBLib
import Derived.Test.YtjacbhomhjoolaaGreatBRestS
namespace Go.Proofs.YtjacbhomhjoolaaGreat
def upd (f : Nat → Nat → Int) (i k : Nat) (v : Int) : Nat → Nat → Int := fun a b => if a = i ∧ b = k then v else f a b
open Go.RowKit

def restsOn (ks : List Knd) (bs : List Brk) (i k : Nat) : Bool := (bcells ks (brkAt bs i)).any fun c => hasP (bcells ks (brkAt bs k)) (addP c ⟨0,0, -1⟩)
def strOf (ks : List Knd) (bs : List Brk) (i k : Nat) : Int := sumL (linkL ks bs) (((min i k : Nat) : Int),((max i k : Nat) : Int))
def capV (ks : List Knd) (bs : List Brk) (i k : Nat) : Int := if i = k then 0 else if restsOn ks bs i k then 1073741824 else 10 * strOf ks bs i k
def PJ (x y : Nat) (j : Jnt) : Bool := decide ((j.a = x ∧ j.b = y) ∨ (j.a = y ∧ j.b = x))
def capJ (J : List Jnt) (q : Nat) : Nat → Nat → Int := fun x y => (((J.take q).find? (PJ x y)).map fun j => 10 * j.strength).getD 0
theorem capJ_zero (J : List Jnt) : capJ J 0 = fun _ _ => 0 := rfl
structure Pairs (J : List Jnt) : Prop where
 lt : ∀ j ∈ J,j.a < j.b
 o : J.Pairwise fun x y => ltPr (jPr x) (jPr y)
theorem capJ_succ {J : List Jnt} (hJ : Pairs J) {q : Nat} {j : Jnt} (h : J[q]? = some j) : capJ J (q + 1) = upd (upd (capJ J q) j.a j.b (10 * j.strength)) j.b j.a (10 * j.strength) := by
 have hjm := List.mem_of_getElem? h
 have hjl := hJ.lt j hjm
 have htk : J.take (q + 1) = J.take q ++ [j] := by rw [List.take_add_one,h]; rfl
 funext x y
 have hno : ∀ x y,PJ x y j = true → (J.take q).find? (PJ x y) = none := fun x y hp => by
  rw [List.find?_eq_none]
  intro i hi hpi
  obtain ⟨n,hn,rfl⟩ := List.getElem_of_mem hi
  rw [List.length_take] at hn
  rw [List.getElem_take] at hpi
  have hq : q < J.length := (List.getElem?_eq_some_iff.1 h).1
  have hjq : J[q] = j := (List.getElem?_eq_some_iff.1 h).2
  have hlt := List.pairwise_iff_getElem.1 hJ.o n q (by omega) hq (by omega)
  have hil := hJ.lt _ (List.getElem_mem (show n < J.length by omega))
  rw [hjq] at hlt
  unfold PJ at hp hpi
  rw [decide_eq_true_eq] at hp hpi
  unfold ltPr jPr at hlt
  simp only at hlt
  omega
 unfold upd
 by_cases hp : PJ x y j = true
 ·have hv : capJ J (q + 1) x y = 10 * j.strength := by
   unfold capJ
   rw [htk,List.find?_append,hno x y hp]
   simp [hp]
  rw [hv]
  unfold PJ at hp
  rw [decide_eq_true_eq] at hp
  by_cases h1 : x = j.b ∧ y = j.a
  ·rw [if_pos h1]
  ·rw [if_neg h1,if_pos (by omega)]
 ·have hv : capJ J (q + 1) x y = capJ J q x y := by
   unfold capJ
   rw [htk,List.find?_append]
   simp [hp]
  rw [hv]
  unfold PJ at hp
  rw [decide_eq_true_eq] at hp
  rw [if_neg (by omega),if_neg (by omega)]
section
variable {ks : List Knd} {bs : List Brk}
theorem pairs_of (hf : Fit ks bs) : Pairs (jointL ks bs) := by
 have hj := jntsOk hf rfl
 refine ⟨fun j hjm => ?_,hj.o⟩
 obtain ⟨x,hx,hp⟩ := (hj.k (jPr j)).2 (List.mem_map.2 ⟨j,hjm,rfl⟩)
 have := (mem_linkL.1 hx).ab
 unfold prOf jPr at hp
 rw [Prod.mk.injEq] at hp
 omega
theorem capJ_all (hf : Fit ks bs) (x y : Nat) : capJ (jointL ks bs) (jointL ks bs).length x y = 10 * strOf ks bs x y := by
 have hj := jntsOk hf rfl
 have hp := pairs_of hf
 unfold capJ
 rw [List.take_length]
 cases hfi : (jointL ks bs).find? (PJ x y) with
 | none =>
  rw [List.find?_eq_none] at hfi
  show (0 : Int) = _
  unfold strOf sumL
  have : ((linkL ks bs).filter fun l => decide (prOf l = (((min x y : Nat) : Int),((max x y : Nat) : Int)))) = [] := by
   rw [List.filter_eq_nil_iff]
   intro l hl hd
   rw [decide_eq_true_eq] at hd
   obtain ⟨j,hjm,hje⟩ := List.mem_map.1 ((hj.k (prOf l)).1 ⟨l,hl,rfl⟩)
   refine hfi j hjm ?_
   unfold PJ
   rw [decide_eq_true_eq]
   rw [hd] at hje
   unfold jPr at hje
   rw [Prod.mk.injEq] at hje
   omega
  rw [this]
  rfl
 | some j =>
  have hjm := List.mem_of_find?_eq_some hfi
  have hjp := List.find?_some hfi
  have hlt := hp.lt j hjm
  show 10 * j.strength = _
  rw [← (hj.s j hjm).1]
  unfold strOf
  congr 2
  unfold PJ at hjp
  rw [decide_eq_true_eq] at hjp
  unfold jPr
  rw [Prod.mk.injEq]
  omega
theorem capJ_same (hf : Fit ks bs) (x : Nat) (q : Nat) : capJ (jointL ks bs) q x x = 0 := by
 unfold capJ
 have : ((jointL ks bs).take q).find? (PJ x x) = none := by
  rw [List.find?_eq_none]
  intro j hj hp
  have := (pairs_of hf).lt j (List.mem_of_mem_take hj)
  unfold PJ at hp
  rw [decide_eq_true_eq] at hp
  omega
 rw [this]
 rfl
theorem strOf_le (hf : Fit ks bs) (x y : Nat) : 0 ≤ strOf ks bs x y ∧ strOf ks bs x y ≤ 9600 := by
 have h1 := sumL_le (linkL ks bs) (((min x y : Nat) : Int),((max x y : Nat) : Int))
 have h2 := linkL_len hf
 unfold strOf
 omega
theorem below_of (hf : Fit ks bs) {m : List (Pt × Int)} (hm : BrkMap ks bs m) (p : Pt) : (getK m p = none ∧ ∀ i,i < bs.length → p ∉ bcells ks (brkAt bs i)) ∨ ∃ k,k < bs.length ∧ getK m p = some (k : Int) ∧ p ∈ bcells ks (brkAt bs k) ∧ ∀ i,i < bs.length → p ∈ bcells ks (brkAt bs i) → i = k := by
 cases h : getK m p with
 | none =>
  left
  refine ⟨rfl,fun i hi hp => ?_⟩
  have := (hm p i).2 ⟨i,hi,rfl,hp⟩
  rw [h] at this
  cases this
 | some v =>
  right
  obtain ⟨k,hk,rfl,hp⟩ := (hm p v).1 h
  exact ⟨k,hk,rfl,hp,fun i hi hpi => hf.o i k hi hk p hpi hp⟩
end
def dn : Pt := ⟨0,0, -1⟩
theorem addP_dn (a b c : Int) : addP ⟨a,b,c⟩ ⟨0,0, -1⟩ = ⟨a,b,c + -1⟩ := by simp [addP]
def hitB (ks : List Knd) (bs : List Brk) (l : List Pt) (y : Nat) : Bool := l.any fun c => hasP (bcells ks (brkAt bs y)) (addP c ⟨0,0, -1⟩)
def capI (ks : List Knd) (bs : List Brk) (J : List Jnt) (i q x y : Nat) : Int :=
 if (decide (x ≠ y) && ((decide (x < i) && restsOn ks bs x y) || (decide (x = i) && hitB ks bs ((bcells ks (brkAt bs i)).take q) y))) = true then 1073741824 else capJ J J.length x y
section
variable {ks : List Knd} {bs : List Brk} {J : List Jnt}
theorem capI_zero (x y : Nat) : capI ks bs J 0 0 x y = capJ J J.length x y := by
 unfold capI hitB
 rw [if_neg]
 simp
theorem hitB_succ {l : List Pt} {q y : Nat} {c : Pt} (h : l[q]? = some c) : hitB ks bs (l.take (q + 1)) y = (hitB ks bs (l.take q) y || hasP (bcells ks (brkAt bs y)) (addP c ⟨0,0, -1⟩)) := by
 unfold hitB
 rw [List.take_add_one,h,List.any_append]
 simp
theorem capI_keep {i q x y : Nat} {c : Pt} (h : (bcells ks (brkAt bs i))[q]? = some c) (hn : y ≠ i → hasP (bcells ks (brkAt bs y)) (addP c ⟨0,0, -1⟩) = false) : capI ks bs J i (q + 1) x y = capI ks bs J i q x y := by
 unfold capI
 rw [hitB_succ h]
 by_cases hxi : x = i
 ·by_cases hyi : y = i
  ·have : decide (x ≠ y) = false := by simp; omega
   rw [this]
   rfl
  ·rw [hn hyi,Bool.or_false]
 ·have : decide (x = i) = false := by simpa using hxi
  rw [this,Bool.false_and,Bool.false_and]
theorem capI_put {i q k x y : Nat} {c : Pt} (h : (bcells ks (brkAt bs i))[q]? = some c) (hki : k ≠ i) (hn : hasP (bcells ks (brkAt bs y)) (addP c ⟨0,0, -1⟩) = decide (y = k)) : capI ks bs J i (q + 1) x y = if x = i ∧ y = k then 1073741824 else capI ks bs J i q x y := by
 unfold capI
 rw [hitB_succ h,hn]
 by_cases hxi : x = i
 ·subst hxi
  by_cases hyk : y = k
  ·subst hyk
   rw [if_pos (show x = x ∧ y = y from ⟨rfl,rfl⟩),if_pos]
   have h1 : decide (x ≠ y) = true := by simp; omega
   rw [h1]
   simp
  ·rw [if_neg (show ¬ (x = x ∧ y = k) from fun e => hyk e.2),decide_eq_false hyk,Bool.or_false]
 ·rw [if_neg (show ¬ (x = i ∧ y = k) from fun e => hxi e.1),decide_eq_false hxi,Bool.false_and,Bool.false_and]
theorem capI_next {i x y : Nat} : capI ks bs J (i + 1) 0 x y = capI ks bs J i (bcells ks (brkAt bs i)).length x y := by
 unfold capI
 rw [List.take_zero,List.take_length]
 have e : (decide (x < i + 1) && restsOn ks bs x y || decide (x = i + 1) && hitB ks bs [] y) = (decide (x < i) && restsOn ks bs x y || decide (x = i) && hitB ks bs (bcells ks (brkAt bs i)) y) := by
  have h0 : hitB ks bs [] y = false := rfl
  rw [h0,Bool.and_false,Bool.or_false]
  by_cases hxi : x = i
  ·subst hxi
   have h1 : decide (x < x) = false := by simp
   have h2 : decide (x < x + 1) = true := by simp
   have h3 : decide (x = x) = true := by simp
   rw [h1,h2,h3,Bool.true_and,Bool.false_and,Bool.true_and,Bool.false_or]
   rfl
  ·have h3 : decide (x = i) = false := by simpa using hxi
   rw [h3,Bool.false_and,Bool.or_false]
   congr 1
   rw [decide_eq_decide]
   omega
 rw [e]
theorem capI_all (hf : Fit ks bs) {x y : Nat} (hx : x < bs.length) : capI ks bs (jointL ks bs) bs.length 0 x y = capV ks bs x y := by
 unfold capI capV
 have h0 : hitB ks bs ((bcells ks (brkAt bs bs.length)).take 0) y = false := rfl
 rw [h0,Bool.and_false,Bool.or_false]
 have h1 : decide (x < bs.length) = true := by simpa using hx
 rw [h1,Bool.true_and]
 by_cases hxy : x = y
 ·subst hxy
  rw [if_neg (by simp),if_pos rfl]
  exact capJ_same hf _ _
 ·rw [if_neg hxy]
  have h2 : decide (x ≠ y) = true := by simpa using hxy
  rw [h2,Bool.true_and]
  cases restsOn ks bs x y
  ·rw [if_neg (by decide),if_neg (by decide)]
   exact capJ_all hf x y
  ·rfl
theorem cell_ok (hf : Fit ks bs) {j : Nat} (hj : j < bs.length) {c : Pt} (hc : c ∈ bcells ks (brkAt bs j)) : c.ok := by
 obtain ⟨n,tn,k,e1,e2,htn,hk,hv,hfi,hp,h1,h2⟩ := hf.b j hj
 rw [h2,(sortP_perm _).mem_iff] at hc
 obtain ⟨c0,h0,rfl⟩ := List.mem_map.1 hc
 exact (addP_in (turnS_in (hfi.near _ h0) tn) hp).ok (by omega)
end
end Go.Proofs.YtjacbhomhjoolaaGreat
