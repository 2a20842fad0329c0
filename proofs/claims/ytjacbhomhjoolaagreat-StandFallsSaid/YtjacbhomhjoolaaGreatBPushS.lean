
/- Pushing, plain: bounds; the list of what falls; clear of a row in memory. -/
import Derived.Test.YtjacbhomhjoolaaGreatBWayS
import Derived.Test.YtjacbhomhjoolaaGreatBCapS
import Derived.Lib.SliceRun
namespace Go.Proofs.YtjacbhomhjoolaaGreat
open Go.RowKit

theorem sumN_single {f : Nat → Int} : ∀ {n : Nat},(∀ i,i < n → 0 ≤ f i) → ∀ v,v < n → f v ≤ sumN n f
 | 0,_,v,hv => by omega
 | n + 1,h,v,hv => by
  unfold sumN
  have h1 := sumN_nonneg (n := n) fun i hi => h i (by omega)
  rcases Nat.lt_or_ge v n with hvn | hvn
  ·have := sumN_single (n := n) (fun i hi => h i (by omega)) v hvn
   have := h n (by omega)
   omega
  ·obtain rfl : v = n := by omega
   omega
theorem sumN_const (c : Int) : ∀ n : Nat,sumN n (fun _ => c) = c * n
 | 0 => by simp [sumN]
 | n + 1 => by
  unfold sumN
  rw [sumN_const c n]
  grind
theorem out_zero (n : Nat) (put : Nat → Nat → Int) : sumN n (outN n put) = 0 := by
 have := inner_zero n (fun _ => true) put
 simp only [Bool.and_self,if_true] at this
 exact this
theorem Flow.down_le {n : Nat} {cap : Nat → Nat → Int} {ground : Nat → Bool} {wt : Nat → Int} {put : Nat → Nat → Int} {down left : Nat → Int} (h : Flow n cap ground wt put down left) {B : Int} (hw : ∀ i,i < n → wt i ≤ B) {v : Nat} (hv : v < n) : down v ≤ B * n := by
 have h1 := sumN_single h.dn v hv
 have h2 : sumN n down = sumN n (fun i => wt i - left i) - sumN n (outN n put) := by
  rw [← sumN_sub]
  refine sumN_congr fun i hi => ?_
  have := h.bal i hi
  show down i = wt i - left i - outN n put i
  omega
 have h3 : sumN n (fun i => wt i - left i) ≤ sumN n fun _ => B := sumN_le fun i hi => by
  have := hw i hi
  have := h.l0 i hi
  omega
 rw [sumN_const] at h3
 rw [out_zero] at h2
 omega
theorem uptoW_le {wt : Nat → Int} {j : Nat} {B : Int} (hB : 0 ≤ B) {i : Nat} (h : wt i ≤ B) : uptoW wt j i ≤ B := by
 unfold uptoW
 split
 ·exact h
 ·exact hB
theorem Flow.congr_cap {n : Nat} {cap cap' : Nat → Nat → Int} {ground : Nat → Bool} {wt : Nat → Int} {put : Nat → Nat → Int} {down left : Nat → Int} (h : Flow n cap ground wt put down left) (e : ∀ i,i < n → ∀ k,k < n → cap i k = cap' i k) : Flow n cap' ground wt put down left :=
 ⟨h.lo,fun i hi k hk => by rw [← e i hi k hk]; exact h.hi i hi k hk,h.g0,h.dn,h.bal,h.l0⟩
theorem ClosedR.congr_cap {n : Nat} {cap cap' put : Nat → Nat → Int} {C : Nat → Bool} (h : ClosedR n cap put C) (e : ∀ i,i < n → ∀ k,k < n → cap i k = cap' i k) : ClosedR n cap' put C := fun v hv hc k hk hr => h v hv hc k hk (by
 unfold resid at hr ⊢
 rw [e v hv k hk]
 exact hr)
theorem IsFall.congr_cap {n : Nat} {cap cap' : Nat → Nat → Int} {ground : Nat → Bool} {put : Nat → Nat → Int} {left : Nat → Int} {S : Nat → Bool} (h : IsFall n cap ground put left S) (e : ∀ i,i < n → ∀ k,k < n → cap i k = cap' i k) : IsFall n cap' ground put left S :=
 ⟨h.ng,h.has,h.cl.congr_cap e,fun C h1 h2 => h.least C h1 (h2.congr_cap fun i hi k hk => (e i hi k hk).symm)⟩
def fallL (t : Nat) (S : Nat → Bool) : List Int := ((List.range t).filter S).map fun k : Nat => (k : Int)
theorem fallL_succ (t : Nat) (S : Nat → Bool) : fallL (t + 1) S = fallL t S ++ if S t = true then [(t : Int)] else [] := by
 unfold fallL
 rw [List.range_succ,List.filter_append,List.map_append]
 congr 1
 by_cases h : S t = true
 ·rw [if_pos h]
  simp [h]
 ·rw [if_neg h]
  simp [h]
theorem fallL_len (t : Nat) (S : Nat → Bool) : (fallL t S).length ≤ t := by
 unfold fallL
 rw [List.length_map]
 have := List.length_filter_le S (List.range t)
 rwa [List.length_range] at this
theorem fallL_congr {t : Nat} {S T : Nat → Bool} (h : ∀ v,v < t → S v = T v) : fallL t S = fallL t T := by
 unfold fallL
 congr 1
 exact List.filter_congr fun v hv => h v (List.mem_range.1 hv)
theorem setCells_row {g n : Nat} : ∀ (m o : Nat) (s : Nat → Bool) (w : World),BRow w g n s → BRow (w.setCells g o (List.replicate m (.bool false))) g n fun k => if o ≤ k ∧ k < o + m then false else s k
 | 0,o,s,w,h => h.congr fun k _ => if_neg (by omega)
 | m + 1,o,s,w,h => by
  rw [List.replicate_succ]
  refine (setCells_row m (o + 1) (setB s o false) (w.setCell ⟨g,o,none⟩ (.bool false)) (h.set_ o false)).congr fun k _ => ?_
  unfold setB
  by_cases h1 : o + 1 ≤ k ∧ k < o + 1 + m
  ·rw [if_pos h1,if_pos (by omega)]
  ·rw [if_neg h1]
   by_cases h2 : k = o
   ·rw [if_pos h2,if_pos (by omega)]
   ·rw [if_neg h2,if_neg (by omega)]
theorem setCells_only {g : Nat} : ∀ (vs : List Value) (o : Nat) (a b : World),Only (fun k => k = g) a b → Only (fun k => k = g) a (b.setCells g o vs)
 | [],_,_,_,h => h
 | v :: vs,o,a,b,h => setCells_only vs (o + 1) a (b.setCell ⟨g,o,none⟩ v) (h.setCell (p := ⟨g,o,none⟩) (fun _ => rfl) v)
theorem clear_row {w : World} {g n : Nat} {s : Nat → Bool} (h : BRow w g n s) : ∃ W,(∀ ty,(Builtin.clear_ #[123] ty #[.slice (some ⟨g,0,none⟩) n n]).run Tryz.prog w = .ok (.tuple #[]) W) ∧ BRow W g n (fun _ => false) ∧ Only (fun k => k = g) w W := by
 by_cases h0 : n = 0
 ·subst h0
  refine ⟨w,fun ty => ?_,h.congr fun k hk => absurd hk (Nat.not_lt_zero _),Only.refl _ _⟩
  simp [Builtin.clear_,run_underlying Tryz.underlying123,Result.andThen]
 ·refine ⟨w.setCells g 0 (List.replicate n (.bool false)),fun ty => ?_,(setCells_row n 0 s w h).congr fun k hk => (if_pos ⟨Nat.zero_le _,by omega⟩).symm,setCells_only _ _ _ _ (Only.refl _ _)⟩
  exact Lib.run_clear_slice w _ _ ty _ Tryz.underlying123 (fun w => by kernel_rfl) rfl rfl g 0 n n (by omega) (fun j hj => by rw [Nat.zero_add,h.cell hj]; rfl) (fun j _ => Blk.frozen h _)
def cellN (w : World) (p : Addr) : Nat := match w.cell? p with
 | some v => (intOf v).toNat
 | none => 0
theorem cellN_row {w : World} {g n : Nat} {d : Nat → Int} (h : NRow w g n d) {k : Nat} (hk : k < n) : cellN w ⟨g,k,none⟩ = (d k).toNat := by
 unfold cellN
 rw [h.cell hk]
 rfl
end Go.Proofs.YtjacbhomhjoolaaGreat
