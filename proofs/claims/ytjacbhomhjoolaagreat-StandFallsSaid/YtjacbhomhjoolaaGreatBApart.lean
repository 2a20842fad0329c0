
/- LatticeApart's plain law: tallies of a list, the cells of bricks that overlap nowhere, the ends of links. The maps of LatticeApart: ends as keys, counts as values; a range that yields its values. LatticeApart: what the walk needs beside the maps. -/
import Derived.Test.YtjacbhomhjoolaaGreatBLib
import Derived.Test.YtjacbhomhjoolaaGreatBLinkS
import Derived.Test.YtjacbhomhjoolaaGreatBPairs
import Derived.Test.YtjacbhomhjoolaaGreatBOvN
import Derived.Test.YtjacbhomhjoolaaGreatBApi
namespace Go.Proofs.YtjacbhomhjoolaaGreat
open Go.RowKit

section
variable {K : Type} [DecidableEq K]
def Tally (m : List (K × Int)) (l : List K) : Prop := (∀ x,(getK m x).getD 0 = (l.count x : Int)) ∧ ∀ p ∈ m,p.2 ≤ (l.count p.1 : Int)
theorem Tally.nil : Tally ([] : List (K × Int)) [] := ⟨fun _ => rfl,fun _ h => nomatch h⟩
theorem mem_putK {m : List (K × Int)} {x : K} {v : Int} {p : K × Int} (h : p ∈ putK m x v) : p = (x,v) ∨ p ∈ m := by
 induction m with
 | nil => exact Or.inl (by simpa [putK] using h)
 | cons q m ih =>
  unfold putK at h
  split at h
  ·rcases List.mem_cons.1 h with h | h
   ·exact Or.inl h
   ·exact Or.inr (List.mem_cons_of_mem _ h)
  ·rcases List.mem_cons.1 h with h | h
   ·exact Or.inr (by rw [h]; exact List.mem_cons_self)
   ·rcases ih h with h | h
    ·exact Or.inl h
    ·exact Or.inr (List.mem_cons_of_mem _ h)
theorem Tally.put {m : List (K × Int)} {l : List K} (h : Tally m l) (x : K) : Tally (putK m x ((getK m x).getD 0 + 1)) (l ++ [x]) := by
 constructor
 ·intro y
  rw [getK_putK]
  by_cases hy : y = x
  ·subst hy
   rw [if_pos rfl,h.1]
   simp
  ·rw [if_neg hy,h.1,List.count_append,List.count_singleton]
   rw [if_neg (by simpa using fun e => hy e.symm)]
   simp
 ·intro p hp
  rcases mem_putK hp with rfl | hp
  ·simp [h.1]
  ·have := h.2 p hp
   rw [List.count_append]
   omega
theorem Tally.one {m : List (K × Int)} {l : List K} (h : Tally m l) (hn : l.Nodup) : ∀ p ∈ m, ¬ 1 < p.2 := fun p hp => by
 have := h.2 p hp
 have := List.nodup_iff_count.1 hn p.1
 omega
theorem Tally.le {m : List (K × Int)} {l : List K} (h : Tally m l) (x : K) : 0 ≤ (getK m x).getD 0 ∧ (getK m x).getD 0 ≤ l.length := by
 rw [h.1]
 have := List.count_le_length (a := x) (l := l)
 omega
def twiceB (l : List K) : Bool := !decide l.Nodup
end

/-! ### cells -/
def flatC (ks : List Knd) (bs : List Brk) (j : Nat) : List Pt := (List.range j).flatMap fun i => bcells ks (brkAt bs i)
/-! ### ends -/
theorem meet_back {p q : Pt} {d e : Int} (h0 : 0 ≤ d) (h1 : d < 6) (h : addP p (stepS d.toNat) = q) (he : e = oppD d) : addP q (stepS e.toNat) = p ∧ oppD e = d := by
 subst he h
 obtain ⟨x,y,z⟩ := p
 have hd : d = 0 ∨ d = 1 ∨ d = 2 ∨ d = 3 ∨ d = 4 ∨ d = 5 := by omega
 rcases hd with rfl | rfl | rfl | rfl | rfl | rfl <;> simp [addP,stepS,oppD] <;> omega
section
variable {ks : List Knd} {bs : List Brk}
theorem IsLnk.back (hf : Fit ks bs) {x : Lnk} (h : IsLnk ks bs x) : addP (knbAt (bknobs ks (brkAt bs x.b)) x.other).at_ (stepS (knbAt (bknobs ks (brkAt bs x.b)) x.other).dir.toNat) = (knbAt (bknobs ks (brkAt bs x.a)) x.knob).at_ ∧
  oppD (knbAt (bknobs ks (brkAt bs x.b)) x.other).dir = (knbAt (bknobs ks (brkAt bs x.a)) x.knob).dir := by
 have hm := meetB_iff.1 h.m
 have hd := hf.dir (Nat.lt_trans h.ab h.b) h.k
 exact meet_back hd.1 hd.2.1 hm.1 hm.2.1
def endsL (l : List Lnk) : List (Nat × Nat) := l.flatMap fun x => [(x.a,x.knob),(x.b,x.other)]
end

def encE (x : Nat × Nat) : Value := .agg #[.int .i64 x.1,.int .i64 x.2]
def evI (x : Int) : Value := .int .i64 x
section
variable {P : Program} {K V : Type} {enc : K → Value} {ev : V → Value}
end
def bornOf : Value → Nat
 | .tuple #[_,.int _ n] => n.toNat
 | _ => 0

theorem asked_one {ks : List Knd} {bs : List Brk} {b : Brk} (h : askedErr ks bs = 0) (hm : b ∈ bs) : askedErr ks [b] = 0 := by
 have h0 : kindsErr ks = 0 := by
  by_cases h0 : kindsErr ks = 0
  ·exact h0
  ·rwa [askedErr_kinds h0] at h
 obtain ⟨j,hj⟩ := List.getElem?_of_mem hm
 cases hb : b.ok ks.length
 ·rw [askedErr_bad h0 (List.getElem?_eq_some_iff.1 hj).1 (by rw [brkAt_eq hj]; exact hb)] at h
  cases h
 ·refine askedErr_good h0 fun i hi => ?_
  obtain rfl : i = 0 := by simpa using hi
  exact hb
theorem RowX.grown {w w' : World} {g : Nat} {t : TypeId} {rows : List (List Value)} {row : Option Nat} (h : RowX w g t rows) (e : w.grownBy w' row) (hr : some g ≠ row) : RowX w' g t rows := by
 obtain ⟨ex,hb⟩ := h
 exact ⟨ex,hb.grown e hr⟩
theorem RowX.map_ne {K V : Type} {enc : K → Value} {ev : V → Value} {w : World} {M : Nat} {m : List (K × V)} {g : Nat} {t : TypeId} {rows : List (List Value)} (h : RowX w g t rows) (hm : MapOf enc ev w M m) : some g ≠ some M := by
 obtain ⟨ex,hb⟩ := h
 exact fun e => hm.blk_ne hb (by cases e; rfl)
end Go.Proofs.YtjacbhomhjoolaaGreat
