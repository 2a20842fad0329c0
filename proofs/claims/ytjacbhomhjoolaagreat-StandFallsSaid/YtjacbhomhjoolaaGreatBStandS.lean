
/- A model with what is known of it, plain and in memory: the brick at a cell, the rows of cells, the joints. -/
import Derived.Test.YtjacbhomhjoolaaGreatBTouch
import Derived.Test.YtjacbhomhjoolaaGreatBLinks
import Derived.Test.YtjacbhomhjoolaaGreatBJointsP
import Derived.Test.YtjacbhomhjoolaaGreatBLinkS
namespace Go.Proofs.YtjacbhomhjoolaaGreat
open Go.RowKit

theorem flat_ones {α : Type} (l : List α) : (l.map fun v => [v]).flatten = l := by
 induction l with
 | nil => rfl
 | cons a l ih => rw [List.map_cons,List.flatten_cons,ih]; rfl
section
variable {ks : List Knd} {bs : List Brk}
def BrkOf (ks : List Knd) (bs : List Brk) (j q : Nat) (m : List (Pt × Int)) : Prop := ∀ p v,getK m p = some v ↔ ∃ i : Nat,v = i ∧ ((i < j ∧ p ∈ bcells ks (brkAt bs i)) ∨ (i = j ∧ p ∈ (bcells ks (brkAt bs j)).take q))
theorem BrkOf.nil : BrkOf ks bs 0 0 [] := fun p v => by
 constructor
 ·intro h
  cases h
 ·rintro ⟨i, -,⟨h, -⟩ | ⟨-,h⟩⟩
  ·omega
  ·cases h
theorem BrkOf.next {j : Nat} {m : List (Pt × Int)} (h : BrkOf ks bs j (bcells ks (brkAt bs j)).length m) : BrkOf ks bs (j + 1) 0 m := fun p v => by
 rw [h p v]
 refine exists_congr fun i => and_congr_right fun _ => ?_
 rw [List.take_length,List.take_zero]
 constructor
 ·rintro (⟨h1,h2⟩ | ⟨rfl,h2⟩)
  ·exact Or.inl ⟨by omega,h2⟩
  ·exact Or.inl ⟨by omega,h2⟩
 ·rintro (⟨h1,h2⟩ | ⟨-,h2⟩)
  ·rcases Nat.lt_or_ge i j with h' | h'
   ·exact Or.inl ⟨h',h2⟩
   ·obtain rfl : i = j := by omega
    exact Or.inr ⟨rfl,h2⟩
  ·cases h2
theorem BrkOf.put (hf : Fit ks bs) {j q : Nat} {m : List (Pt × Int)} {c : Pt} (hj : j < bs.length) (h : BrkOf ks bs j q m) (hc : (bcells ks (brkAt bs j))[q]? = some c) : BrkOf ks bs j (q + 1) (putK m c (j : Int)) := fun p v => by
 have hcm := List.mem_of_getElem? hc
 have htk : (bcells ks (brkAt bs j)).take (q + 1) = (bcells ks (brkAt bs j)).take q ++ [c] := by rw [List.take_add_one,hc]; rfl
 rw [getK_putK,htk]
 by_cases hp : p = c
 ·subst hp
  rw [if_pos rfl]
  constructor
  ·intro e
   exact ⟨j,(Option.some.inj e).symm,Or.inr ⟨rfl,by simp⟩⟩
  ·rintro ⟨i,rfl,⟨h1,h2⟩ | ⟨rfl, -⟩⟩
   ·have := hf.o i j (by omega) hj p h2 hcm
    omega
   ·rfl
 ·rw [if_neg hp,h p v]
  refine exists_congr fun i => and_congr_right fun _ => or_congr_right (and_congr_right fun _ => ?_)
  rw [List.mem_append,List.mem_singleton]
  exact ⟨Or.inl,fun h => h.resolve_right hp⟩
def BrkMap (ks : List Knd) (bs : List Brk) (m : List (Pt × Int)) : Prop := ∀ p v,getK m p = some v ↔ ∃ i : Nat,i < bs.length ∧ v = i ∧ p ∈ bcells ks (brkAt bs i)
theorem BrkOf.all {m : List (Pt × Int)} (h : BrkOf ks bs bs.length 0 m) : BrkMap ks bs m := fun p v => by
 rw [h p v]
 constructor
 ·rintro ⟨i,e,⟨h1,h2⟩ | ⟨-,h2⟩⟩
  ·exact ⟨i,h1,e,h2⟩
  ·cases h2
 ·rintro ⟨i,h1,e,h2⟩
  exact ⟨i,e,Or.inl ⟨h1,h2⟩⟩
end
def clen (ks : List Knd) (bs : List Brk) (i : Nat) : Nat := (bcells ks (brkAt bs i)).length
def clC (gs ln cp : Nat → Nat) (j : Nat) : List Value := (List.range j).map fun i => .slice (some ⟨gs i,0,none⟩) (ln i) (cp i)
theorem clC_succ (gs ln cp : Nat → Nat) (j : Nat) : clC gs ln cp (j + 1) = clC gs ln cp j ++ [.slice (some ⟨gs j,0,none⟩) (ln j) (cp j)] := by
 unfold clC
 rw [List.range_succ,List.map_append]
 rfl
theorem clC_upd {gs gs' ln cp cp' : Nat → Nat} {j : Nat} (h : ∀ i,i < j → gs' i = gs i) (h2 : ∀ i,i < j → cp' i = cp i) : clC gs' ln cp' j = clC gs ln cp j := by
 unfold clC
 refine List.map_congr_left fun i hi => ?_
 rw [h i (List.mem_range.1 hi),h2 i (List.mem_range.1 hi)]
theorem clC_at {gs ln cp : Nat → Nat} {j i : Nat} (h : i < j) : (clC gs ln cp j)[i]? = some (.slice (some ⟨gs i,0,none⟩) (ln i) (cp i)) := by
 unfold clC
 rw [List.getElem?_map,List.getElem?_range h]
 rfl
def CBl (ks : List Knd) (bs : List Brk) (w : World) (gs cp : Nat → Nat) (j : Nat) : Prop := ∀ i,i < j → clen ks bs i ≤ cp i ∧ cp i ≤ maxLen ∧ RowX w (gs i) 27 ((bcells ks (brkAt bs i)).map Pt.cs)
section
variable {ks : List Knd} {bs : List Brk} {w w' : World} {gs cp : Nat → Nat} {j : Nat}
theorem CBl.ext (h : CBl ks bs w gs cp j) (E : Ext w w') : CBl ks bs w' gs cp j := fun i hi => ⟨(h i hi).1,(h i hi).2.1,(h i hi).2.2.ext E⟩
theorem CBl.mapTurned (h : CBl ks bs w gs cp j) {M : Nat} {m : List (Pt × Int)} (hm : MapOf encPt evI w M m) (hg : w.grownBy w' (some M)) : CBl ks bs w' gs cp j := fun i hi => ⟨(h i hi).1,(h i hi).2.1,(h i hi).2.2.grown hg ((h i hi).2.2.map_ne hm)⟩
theorem RowX.own {w w' : World} {g : Nat} {t : TypeId} {rows : List (List Value)} {b : Nat} {e : TypeId} {sz : Nat} {u : Value} {m : Nat} {xs : List Value} (h : RowX w g t rows) (own : w.ownsRow b e sz u m xs) (hg : w.grownBy w' u.ownBlock) (hne : t ≠ e) : RowX w' g t rows := by
 obtain ⟨ex,hb⟩ := h
 exact ⟨ex,blkGrown hb own hg hne⟩
theorem CBl.own (h : CBl ks bs w gs cp j) {b : Nat} {e : TypeId} {sz : Nat} {u : Value} {m : Nat} {xs : List Value} (own : w.ownsRow b e sz u m xs) (hg : w.grownBy w' u.ownBlock) (hne : 27 ≠ e) : CBl ks bs w' gs cp j := fun i hi => ⟨(h i hi).1,(h i hi).2.1,(h i hi).2.2.own own hg hne⟩
theorem RowX.ne_blk {w : World} {g X : Nat} {t t' : TypeId} {rows : List (List Value)} {cs : Array Value} (h : RowX w g t rows) (hb : Blk w X t' cs) (hne : t ≠ t') : g ≠ X := by
 obtain ⟨ex,h⟩ := h
 rintro rfl
 exact hne (h.types hb)
theorem CBl.far (h : CBl ks bs w gs cp j) {X : Nat} {t' : TypeId} {cs : Array Value} (hb : Blk w X t' cs) (hne : 27 ≠ t') (k : Nat) (u : Value) : CBl ks bs (w.setCell ⟨X,k,none⟩ u) gs cp j := fun i hi => ⟨(h i hi).1,(h i hi).2.1,by
 have hx := (h i hi).2.2.ne_blk hb hne
 obtain ⟨ex,hr⟩ := (h i hi).2.2
 exact ⟨ex,hr.far (p := ⟨X,k,none⟩) hx u⟩⟩
theorem CBl.next {gs' cp' : Nat → Nat} (h : CBl ks bs w gs cp j) (e : ∀ i,i < j → gs' i = gs i) (e2 : ∀ i,i < j → cp' i = cp i) (h1 : clen ks bs j ≤ cp' j) (h2 : cp' j ≤ maxLen) (hb : RowX w (gs' j) 27 ((bcells ks (brkAt bs j)).map Pt.cs)) : CBl ks bs w gs' cp' (j + 1) := fun i hi => by
 rcases Nat.lt_or_ge i j with h' | h'
 ·rw [e i h',e2 i h']
  exact h i h'
 ·obtain rfl : i = j := by omega
  exact ⟨h1,h2,hb⟩
end
structure BuiltAt (w : World) (X : Nat) (qs : List (Knd × KAt)) (QA : Option Addr) (qc : Nat) (bs : List Brk) (B : Option Addr) (cb : Nat) (CA : Option Addr) (cc M : Nat) (JA : Option Addr) (jc : Nat) (gs cp : Nat → Nat) (mm : List (Pt × Int)) : Prop where
 x : Blk w X 173 #[.slice QA qs.length qc,.slice B bs.length cb,.slice CA bs.length cc,.map (some M),.slice JA (jointL (qs.map (·.1)) bs).length jc]
 c : SliceIs w CA bs.length cc 1 ((clC gs (clen (qs.map (·.1)) bs) cp bs.length).map fun v => [v])
 r : CBl (qs.map (·.1)) bs w gs cp bs.length
 m : MapOf encPt evI w M mm
 k : BrkMap (qs.map (·.1)) bs mm
 j : Jnts w JA jc (jointL (qs.map (·.1)) bs)
theorem BuiltAt.ext {w w' : World} {X : Nat} {qs : List (Knd × KAt)} {QA : Option Addr} {qc : Nat} {bs : List Brk} {B : Option Addr} {cb : Nat} {CA : Option Addr} {cc M : Nat} {JA : Option Addr} {jc : Nat} {gs cp : Nat → Nat} {mm : List (Pt × Int)} (h : BuiltAt w X qs QA qc bs B cb CA cc M JA jc gs cp mm) (E : Ext w w') : BuiltAt w' X qs QA qc bs B cb CA cc M JA jc gs cp mm :=
 ⟨h.x.ext E,h.c.ext E,h.r.ext E,h.m.ext E,h.k,h.j.ext E⟩
def BuildPost (qs : List (Knd × KAt)) (QA : Option Addr) (qc : Nat) (bs : List Brk) (B : Option Addr) (cb : Nat) (w : World) (e : Ending) (w' : World) : Prop :=
 ∃ X CA cc M JA jc gs cp mm,e = .returned (.tuple #[.pointer (some ⟨X,0,none⟩),.int .i64 0]) ∧ w.heap.size ≤ X ∧ BuiltAt w' X qs QA qc bs B cb CA cc M JA jc gs cp mm ∧ Ext w w'
end Go.Proofs.YtjacbhomhjoolaaGreat
