
/- The reference's rows of what a brick may put on others, plain and in memory. -/
import Derived.Test.YtjacbhomhjoolaaGreatBRPut
import Derived.Test.YtjacbhomhjoolaaGreatBLinkS
import Derived.Test.YtjacbhomhjoolaaGreatBLinks
import Derived.Test.YtjacbhomhjoolaaGreatBRJoinB
namespace Go.Proofs.YtjacbhomhjoolaaGreat
open Go.RowKit

def putR (ks : List Knd) (bs : List Brk) (x y : Nat) : Int := if (decide (y ≠ x) && restsOn ks bs x y) = true then 1073741824 else 0
def putQ (ks : List Knd) (bs : List Brk) (J : List Jnt) (q x y : Nat) : Int := if putR ks bs x y = 0 then capJ J q x y else putR ks bs x y
def put1 (f : Nat → Nat → Int) (a b : Nat) (v : Int) : Nat → Nat → Int := if f a b = 0 then upd f a b v else f
section
variable {ks : List Knd} {bs : List Brk} {J : List Jnt}
theorem putQ_zero : putQ ks bs J 0 = putR ks bs := by
 funext x y
 unfold putQ
 rw [capJ_zero]
 split
 ·rename_i h
  exact h.symm
 ·rfl
theorem capJ_fresh (hJ : Pairs J) {q : Nat} {j : Jnt} (h : J[q]? = some j) {x y : Nat} (hp : PJ x y j = true) : capJ J q x y = 0 := by
 have hjm := List.mem_of_getElem? h
 have hjl := hJ.lt j hjm
 have : (J.take q).find? (PJ x y) = none := by
  rw [List.find?_eq_none]
  intro i hi hpi
  obtain ⟨n,hn,rfl⟩ := List.getElem_of_mem hi
  rw [List.length_take] at hn
  rw [List.getElem_take] at hpi
  have hq : q < J.length := (List.getElem?_eq_some_iff.1 h).1
  have hjq : J[q] = j := (List.getElem?_eq_some_iff.1 h).2
  have hlt := List.pairwise_iff_getElem.1 hJ.o n q (by omega) hq (by omega)
  have hil := hJ.lt _ (List.getElem_mem (show n < J.length by omega))
  rw [hjq] at hlt
  unfold PJ at hp hpi
  rw [decide_eq_true_eq] at hp hpi
  unfold ltPr jPr at hlt
  simp only at hlt
  omega
 unfold capJ
 rw [this]
 rfl
def overF (r c : Nat → Nat → Int) : Nat → Nat → Int := fun x y => if r x y = 0 then c x y else r x y
theorem put1_at (f : Nat → Nat → Int) (a b : Nat) (v : Int) (x y : Nat) : put1 f a b v x y = if f a b = 0 ∧ x = a ∧ y = b then v else f x y := by
 unfold put1
 by_cases h : f a b = 0
 ·rw [if_pos h]
  unfold upd
  by_cases hxy : x = a ∧ y = b
  ·rw [if_pos hxy,if_pos ⟨h,hxy.1,hxy.2⟩]
  ·rw [if_neg hxy,if_neg (fun e => hxy e.2)]
 ·rw [if_neg h,if_neg (fun e => h e.1)]
theorem overF_zero {r c : Nat → Nat → Int} {a b : Nat} (h : c a b = 0) : overF r c a b = 0 ↔ r a b = 0 := by
 unfold overF
 by_cases e : r a b = 0
 ·rw [if_pos e]
  exact ⟨fun _ => e,fun _ => h⟩
 ·rw [if_neg e]
theorem over_put {r c : Nat → Nat → Int} {a b : Nat} {v : Int} (hab : a ≠ b) (h1 : c a b = 0) (h2 : c b a = 0) : put1 (put1 (overF r c) a b v) b a v = overF r (upd (upd c a b v) b a v) := by
 funext x y
 rw [put1_at,put1_at,put1_at]
 simp only [overF_zero h1]
 rw [if_neg (show ¬ (r a b = 0 ∧ b = a ∧ a = b) from fun e => hab e.2.2)]
 simp only [overF_zero h2]
 by_cases hx : x = b ∧ y = a
 ·obtain ⟨rfl,rfl⟩ := hx
  by_cases e : r x y = 0
  ·rw [if_pos ⟨e,rfl,rfl⟩]
   unfold overF upd
   rw [if_pos e,if_pos ⟨rfl,rfl⟩]
  ·rw [if_neg (fun z => e z.1),if_neg (fun z => hab z.2.2)]
   unfold overF
   rw [if_neg e,if_neg e]
 ·rw [if_neg (fun z => hx z.2)]
  by_cases hy : x = a ∧ y = b
  ·obtain ⟨rfl,rfl⟩ := hy
   by_cases e : r x y = 0
   ·rw [if_pos ⟨e,rfl,rfl⟩]
    unfold overF upd
    rw [if_pos e,if_neg hx,if_pos ⟨rfl,rfl⟩]
   ·rw [if_neg (fun z => e z.1)]
    unfold overF
    rw [if_neg e,if_neg e]
  ·rw [if_neg (fun z => hy z.2)]
   unfold overF upd
   rw [if_neg hx,if_neg hy]
theorem putQ_succ (hJ : Pairs J) {q : Nat} {j : Jnt} (h : J[q]? = some j) : put1 (put1 (putQ ks bs J q) j.a j.b (10 * j.strength)) j.b j.a (10 * j.strength) = putQ ks bs J (q + 1) := by
 have hlt := hJ.lt j (List.mem_of_getElem? h)
 have h1 : capJ J q j.a j.b = 0 := capJ_fresh hJ h (by unfold PJ; rw [decide_eq_true_eq]; omega)
 have h2 : capJ J q j.b j.a = 0 := capJ_fresh hJ h (by unfold PJ; rw [decide_eq_true_eq]; omega)
 show put1 (put1 (overF (putR ks bs) (capJ J q)) j.a j.b (10 * j.strength)) j.b j.a (10 * j.strength) = overF (putR ks bs) (capJ J (q + 1))
 rw [capJ_succ hJ h]
 exact over_put (by omega) h1 h2
theorem putQ_all (hf : Fit ks bs) (x y : Nat) : putQ ks bs (jointL ks bs) (jointL ks bs).length x y = capV ks bs x y := by
 unfold putQ putR capV
 by_cases hxy : x = y
 ·subst hxy
  rw [if_pos rfl]
  simp only [ne_eq,not_true_eq_false,decide_false,Bool.false_and,Bool.false_eq_true,if_false,if_true]
  exact capJ_same hf _ _
 ·have hd : decide (y ≠ x) = true := by simp; omega
  rw [if_neg hxy,hd,Bool.true_and]
  cases restsOn ks bs x y
  ·simp only [Bool.false_eq_true,if_false,if_true]
   exact capJ_all hf x y
  ·rfl
end
def rowL (n : Nat) (f : Nat → Int) (t : Nat) : List Int := (List.range n).map fun y => if y < t then f y else 0
theorem rowL_len (n : Nat) (f : Nat → Int) (t : Nat) : (rowL n f t).length = n := by simp [rowL]
theorem rowL_zero (n : Nat) (f : Nat → Int) : rowL n f 0 = List.replicate n 0 := by
 unfold rowL
 rw [List.eq_replicate_iff]
 exact ⟨by simp,fun b hb => by obtain ⟨y, -,rfl⟩ := List.mem_map.1 hb; exact if_neg (by omega)⟩
theorem rowL_all (n : Nat) (f : Nat → Int) : rowL n f n = (List.range n).map f := by
 unfold rowL
 exact List.map_congr_left fun y hy => if_pos (List.mem_range.1 hy)
theorem rowL_keep {n t : Nat} {f : Nat → Int} (h : f t = 0) : rowL n f (t + 1) = rowL n f t := by
 unfold rowL
 refine List.map_congr_left fun y _ => ?_
 by_cases hy : y = t
 ·subst hy
  rw [if_pos (by omega),if_neg (by omega),h]
 ·by_cases h1 : y < t
  ·rw [if_pos (by omega),if_pos h1]
  ·rw [if_neg (by omega),if_neg h1]
theorem map_set (n t : Nat) (f : Nat → Int) (v : Int) : ((List.range n).map f).set t v = (List.range n).map fun y => if y = t then v else f y := by
 refine List.ext_getElem? fun k => ?_
 rw [List.getElem?_set,List.length_map,List.length_range,List.getElem?_map,List.getElem?_map]
 by_cases hk : k < n
 ·rw [List.getElem?_range hk]
  by_cases e : t = k
  ·subst e
   rw [if_pos rfl,if_pos hk]
   simp
  ·rw [if_neg e]
   simp only [Option.map_some]
   rw [if_neg (fun x => e x.symm)]
 ·rw [List.getElem?_eq_none (l := List.range n) (by simpa using hk)]
  by_cases e : t = k
  ·rw [if_pos e,if_neg (by omega)]
   rfl
  ·rw [if_neg e]
   rfl
theorem rowL_set {n t : Nat} {f : Nat → Int} : (rowL n f t).set t (f t) = rowL n f (t + 1) := by
 unfold rowL
 rw [map_set]
 refine List.map_congr_left fun y _ => ?_
 by_cases hy : y = t
 ·subst hy
  rw [if_pos rfl,if_pos (by omega)]
 ·rw [if_neg hy]
  by_cases h1 : y < t
  ·rw [if_pos h1,if_pos (by omega)]
  ·rw [if_neg h1,if_neg (by omega)]
theorem NumX.grown {w w' : World} {g : Nat} {l : List Int} (h : NumX w g l) {b : Nat} {e : TypeId} {sz : Nat} {v : Value} {n : Nat} {xs : List Value} (own : w.ownsRow b e sz v n xs) (hg : w.grownBy w' v.ownBlock) (hne : 3 ≠ e) : NumX w' g l := by
 obtain ⟨ex,h⟩ := h
 exact ⟨ex,blkGrown h own hg hne⟩
theorem own_store {w : World} {base : Nat} {e : TypeId} {size : Nat} {v : Value} {n : Nat} {xs : List Value} (h : w.ownsRow base e size v n xs) {g : Nat} {l : List Int} (hb : NumX w g l) (ht : 3 ≠ e) (o : Nat) (u : Value) : (w.setCell ⟨g,o,none⟩ u).ownsRow base e size v n xs :=
 own_only h ((Only.refl (fun r => r = g) w).setCell (p := ⟨g,o,none⟩) (fun _ => rfl) u) (fun r hr e' => by
  subst e'
  obtain ⟨cs',h'⟩ := own_typed h hr
  obtain ⟨ex,hb⟩ := hb
  exact ht (hb.types h'))
structure PR (w : World) (U : Nat) (gs : Nat → Nat) (n : Nat) (f : Nat → Nat → Int) (j : Nat) : Prop where
 lo : ∀ i,i < j → U ≤ gs i
 r : ∀ i,i < j → NumX w (gs i) ((List.range n).map (f i))
 s : ∀ i k,i < j → k < j → gs i = gs k → i = k
section
variable {w w' : World} {U n j : Nat} {gs : Nat → Nat} {f : Nat → Nat → Int}
theorem PR.zero : PR w U gs n f 0 := ⟨fun _ h => absurd h (Nat.not_lt_zero _),fun _ h => absurd h (Nat.not_lt_zero _),fun _ _ h => absurd h (Nat.not_lt_zero _)⟩
theorem PR.ext (h : PR w U gs n f j) (E : Ext w w') : PR w' U gs n f j := ⟨h.lo,fun i hi => (h.r i hi).ext E,h.s⟩
theorem PR.grown (h : PR w U gs n f j) {b : Nat} {e : TypeId} {sz : Nat} {v : Value} {m : Nat} {xs : List Value} (own : w.ownsRow b e sz v m xs) (hg : w.grownBy w' v.ownBlock) (hne : 3 ≠ e) : PR w' U gs n f j := ⟨h.lo,fun i hi => (h.r i hi).grown own hg hne,h.s⟩
theorem PR.add (h : PR w U gs n f j) {g : Nat} (hU : U ≤ g) (hx : NumX w g ((List.range n).map (f j))) (hn : ∀ i,i < j → gs i ≠ g) : PR w U (updF gs j g) n f (j + 1) := by
 refine ⟨fun i hi => ?_,fun i hi => ?_,fun i k hi hk he => ?_⟩
 ·by_cases e : i = j
  ·subst e; rw [updF_at]; exact hU
  ·rw [updF_ne _ _ e]; exact h.lo i (by omega)
 ·by_cases e : i = j
  ·subst e; rw [updF_at]; exact hx
  ·rw [updF_ne _ _ e]; exact h.r i (by omega)
 ·by_cases e : i = j
  ·by_cases e2 : k = j
   ·rw [e,e2]
   ·subst e
    rw [updF_at,updF_ne _ _ e2] at he
    exact absurd he.symm (hn k (by omega))
  ·by_cases e2 : k = j
   ·subst e2
    rw [updF_at,updF_ne _ _ e] at he
    exact absurd he (hn i (by omega))
   ·rw [updF_ne _ _ e,updF_ne _ _ e2] at he
    exact h.s i k (by omega) (by omega) he
theorem PR.cell (h : PR w U gs n f j) {i t : Nat} (hi : i < j) (ht : t < n) : w.cell? ⟨gs i,t,none⟩ = some (.int .i64 (f i t)) :=
 (h.r i hi).cell (by rw [List.getElem?_map,List.getElem?_range ht]; rfl)
theorem PR.set_ (h : PR w U gs n f j) {i t : Nat} (hi : i < j) (ht : t < n) (v : Int) : PR (w.setCell ⟨gs i,t,none⟩ (.int .i64 v)) U gs n (upd f i t v) j := by
 refine ⟨h.lo,fun k hk => ?_,h.s⟩
 by_cases e : k = i
 ·subst e
  have := (h.r k hk).set_ (i := t) (by simpa using ht) v
  rw [map_set] at this
  have e : (List.range n).map (upd f k t v k) = (List.range n).map fun y => if y = t then v else f k y := by
   refine List.map_congr_left fun y _ => ?_
   unfold upd
   by_cases hy : y = t
   ·rw [if_pos ⟨rfl,hy⟩,if_pos hy]
   ·rw [if_neg (fun x => hy x.2),if_neg hy]
  rw [e]
  exact this
 ·have := (h.r k hk).far (p := ⟨gs i,t,none⟩) (fun x => e (h.s k i hk hi x)) (.int .i64 v)
  have e2 : (List.range n).map (upd f i t v k) = (List.range n).map (f k) := by
   refine List.map_congr_left fun y _ => ?_
   unfold upd
   rw [if_neg (fun x => e x.1)]
  rw [e2]
  exact this
end
end Go.Proofs.YtjacbhomhjoolaaGreat
