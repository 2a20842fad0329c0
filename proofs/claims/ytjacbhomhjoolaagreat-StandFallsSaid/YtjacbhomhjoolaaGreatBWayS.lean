
/- Rows of booleans and numbers in blocks, as functions; how many bricks were not looked at. -/
import Derived.Test.YtjacbhomhjoolaaGreatBLinkS
import Derived.Test.YtjacbhomhjoolaaGreatBFlow
import Derived.Test.YtjacbhomhjoolaaGreatBLib
namespace Go.Proofs.YtjacbhomhjoolaaGreat
open Go.RowKit

def BRow (w : World) (g n : Nat) (s : Nat → Bool) : Prop := Blk w g 4 (vsA n fun k => .bool (s k))
def NRow (w : World) (g n : Nat) (d : Nat → Int) : Prop := Blk w g 3 (vsA n fun k => .int .i64 (d k))
section
variable {w w' : World} {g n : Nat} {s : Nat → Bool} {d : Nat → Int}
theorem BRow.ext (h : BRow w g n s) (E : Ext w w') : BRow w' g n s := Blk.ext h E
theorem NRow.ext (h : NRow w g n d) (E : Ext w w') : NRow w' g n d := Blk.ext h E
theorem BRow.cell (h : BRow w g n s) {k : Nat} (hk : k < n) : w.cell? ⟨g,k,none⟩ = some (.bool (s k)) := by
 rw [Blk.cell h,vsA_get _ hk]
theorem NRow.cell (h : NRow w g n d) {k : Nat} (hk : k < n) : w.cell? ⟨g,k,none⟩ = some (.int .i64 (d k)) := by
 rw [Blk.cell h,vsA_get _ hk]
theorem BRow.set_ (h : BRow w g n s) (k : Nat) (v : Bool) : BRow (w.setCell ⟨g,k,none⟩ (.bool v)) g n (setB s k v) := by
 have := Blk.set_ h k (.bool v)
 rw [vsA_set] at this
 have e : (setF (fun k => Value.bool (s k)) k (.bool v)) = fun a => Value.bool (setB s k v a) := by
  funext a
  unfold setF setB
  split <;> rfl
 rwa [e] at this
theorem NRow.set_ (h : NRow w g n d) (k : Nat) (v : Int) : NRow (w.setCell ⟨g,k,none⟩ (.int .i64 v)) g n (setN d k v) := by
 have := Blk.set_ h k (.int .i64 v)
 rw [vsA_set] at this
 have e : (setF (fun k => Value.int .i64 (d k)) k (.int .i64 v)) = fun a => Value.int .i64 (setN d k v a) := by
  funext a
  unfold setF setN
  split <;> rfl
 rwa [e] at this
theorem BRow.congr (h : BRow w g n s) {s' : Nat → Bool} (e : ∀ k,k < n → s' k = s k) : BRow w g n s' := by
 have : (vsA n fun k => Value.bool (s' k)) = vsA n fun k => Value.bool (s k) := by
  unfold vsA
  congr 1
  exact List.map_congr_left fun k hk => by rw [e k (List.mem_range.1 hk)]
 unfold BRow
 rw [this]
 exact h
theorem BRow.slice (h : BRow w g n s) (hn : n ≤ 1000) : SliceIs w (some ⟨g,0,none⟩) n n 1 ((List.range n).map fun k => [.bool (s k)]) :=
 ⟨by simp,Nat.le_refl _,by unfold maxLen; omega,fun r hr => by obtain ⟨y, -,rfl⟩ := List.mem_map.1 hr; rfl,fun _ => ⟨g,0,rfl,Blk.lt h,fun i r hr j u hu => by
  rw [List.getElem?_map] at hr
  obtain ⟨v,hv,rfl⟩ := Option.map_eq_some_iff.1 hr
  obtain ⟨hi,rfl⟩ := List.getElem?_eq_some_iff.1 hv
  rw [List.length_range] at hi
  have hj : j = 0 := by
   have := (List.getElem?_eq_some_iff.1 hu).1
   simpa using this
  subst hj
  simp only [List.getElem?_cons_zero,Option.some.injEq] at hu
  subst hu
  rw [Nat.zero_add,Nat.mul_one,Nat.add_zero,List.getElem_range]
  exact BRow.cell h hi⟩⟩
end
def grF (gl : List Bool) (k : Nat) : Bool := gl.getD k false
def unseen : Nat → (Nat → Bool) → Nat
 | 0,_ => 0
 | n + 1,s => unseen n s + if s n = true then 0 else 1
theorem unseen_le (n : Nat) (s : Nat → Bool) : unseen n s ≤ n := by
 induction n with
 | zero => exact Nat.le_refl _
 | succ n ih =>
  unfold unseen
  split <;> omega
theorem unseen_mono {s s' : Nat → Bool} : ∀ {n : Nat},(∀ v,v < n → s v = true → s' v = true) → unseen n s' ≤ unseen n s
 | 0,_ => Nat.le_refl _
 | n + 1,h => by
  unfold unseen
  have h1 := unseen_mono (n := n) fun v hv => h v (by omega)
  by_cases hs : s n = true
  ·rw [if_pos hs,if_pos (h n (by omega) hs)]
   exact h1
  ·rw [if_neg hs]
   split <;> omega
theorem unseen_lt {s s' : Nat → Bool} {i : Nat} : ∀ {n : Nat},(∀ v,v < n → s v = true → s' v = true) → i < n → s i = false → s' i = true → unseen n s' < unseen n s
 | 0,_,hi,_,_ => by omega
 | n + 1,h,hi,h1,h2 => by
  unfold unseen
  rcases Nat.lt_or_ge i n with hin | hin
  ·have h3 := unseen_lt (n := n) (fun v hv => h v (by omega)) hin h1 h2
   by_cases hs : s n = true
   ·rw [if_pos hs,if_pos (h n (by omega) hs)]
    omega
   ·rw [if_neg hs]
    split <;> omega
  ·obtain rfl : i = n := by omega
   rw [if_pos h2,if_neg (by rw [h1]; decide)]
   have := unseen_mono (n := i) fun v hv => h v (by omega)
   omega
end Go.Proofs.YtjacbhomhjoolaaGreat
