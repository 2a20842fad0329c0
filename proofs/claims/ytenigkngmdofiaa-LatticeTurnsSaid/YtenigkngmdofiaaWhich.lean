/- which: the iterator over the 24 turns and what each makes of (1, 2, 3). -/
import Derived.RangeFuncNested
import Derived.RangeFuncBound
import Derived.RangeFuncCalls
import Derived.RangeFuncLeaves
import Derived.Shelf.Abstract
import Derived.Shelf.RegionOpen
import Derived.OwnWalkIn
import Derived.TacticsInMore
import Derived.LoopNIn
import Derived.LoopIn
import Derived.Test.YtenigkngmdofiaaTurn
namespace Go.Proofs.Ytenigkngmdofiaa
open Go.RowKit Go.Shelf
attribute [local go_sem] Oper.semAt_some

theorem ext_grownBy {A B : World} (h : Ext A B) (row : Option Nat) : A.grownBy B row := ⟨h.1, h.2, h.3, h.size, fun k hk _ => h.block k hk⟩
theorem ext_keeps {A B : World} (h : Ext A B) : KeepsOthers A B := ⟨h.size, fun k o hk _ => (h.block k (Array.getElem?_eq_some_iff.1 hk).1).trans hk⟩

/-- What a turn makes of (1, 2, 3). -/
def p123 : Pt := ⟨1, 2, 3⟩
theorem p123_ok : p123.ok := by
  unfold p123 Pt.ok CB
  simp
def at123 (n : Nat) : Value := .agg #[.int .i64 (turnS p123 n).x, .int .i64 (turnS p123 n).y, .int .i64 (turnS p123 n).z]
abbrev encW (x : Fin 24) : Array Value := #[.int .i64 (x.val : Int), at123 x.val]
/-- The first k of the turns. -/
def upto (k : Nat) : List (Fin 24) := (List.finRange 24).take k
theorem upto_succ {k : Nat} (h : k < 24) : upto (k + 1) = upto k ++ [⟨k, h⟩] := by
  unfold upto
  rw [List.take_add_one]
  simp [h]
theorem upto_len {k : Nat} (h : k ≤ 24) : (upto k).length = k := by
  simp [upto]
  omega

set_option maxRecDepth 100000 in
set_option maxHeartbeats 2000000 in
theorem which1_in (n : Nat) (hn : 1 ≤ n) (l : Nat) (J Jx : List (Fin 24) → World → Prop)
    (hJ : ∀ s A B, J s A → Ext A B → J s B) (Kp : World → World → Prop)
    (hY : ∀ pre x W, J pre W → pre.length < 24 → YieldAt Fence.wide (n - 1) Try.prog l (encW x) W fun e W' =>
      (e = .returned (.bool true) ∧ J (pre ++ [x]) W' ∧ Kp W W') ∨ (e = .returned (.bool false) ∧ Jx (pre ++ [x]) W'))
    (W : World) (h0 : J [] W) :
    CallsIn Fence.wide n Try.prog 82 #[.func (.yield l) #[] #[]] W fun e W' => (∃ v, e = .returned v) ∧
      ((∃ ys, ys = upto 24 ∧ J ys W') ∨ (∃ pre, pre <+: upto 24 ∧ Jx pre W')) := by
  refine callsIn_of_wp Try.func82 rfl trivial ?_ rfl
  simp only [Try.ntmps82, List.size_toArray, List.length_cons, List.length_nil, Nat.reduceAdd, Nat.reduceSub, Array.replicate_succ, Array.replicate_zero, List.push_toArray, List.append_toArray, List.nil_append, List.cons_append]
  gi_wp2
  gi_loopw [3] (fun i wr => ∃ k : Nat, k ≤ 24 ∧ i = .int .i64 k ∧ J (upto k) wr) (fun i _ => 24 - (intOf i).toNat)
  case atStart => exact ⟨0, by omega, rfl, h0⟩
  case round =>
    obtain ⟨k, hk, rfl, hJs⟩ := hrel
    by_cases h : k < 24
    · have hl : (upto k).length < 24 := by rw [upto_len (by omega)]; exact h
      have hi : (k : Int) < 24 := by omega
      have hY' := fun w1 (E : Ext wr w1) => hY (upto k) ⟨k, h⟩ w1 (hJ _ _ _ hJs E) hl
      clear hY
      gi_wp2_with (refine ⟨trivial, ?_⟩; gi_at_call 43; refine (callsIn_wide.2 (turn_c 1 2 3 k _ h p123_ok)).mono ?_; rintro e w1 ⟨rfl, E1⟩; obtain ⟨fn, tmps, assign, body, hy, hR⟩ := hY' w1 E1; dsimp only [encW, at123, p123] at hy)
      refine hR.mono ?_
      rintro e W3 (⟨rfl, hJ3, -⟩ | ⟨rfl, hJx3⟩)
      · gi_wp2
        go_roundw
        case rel => exact ⟨k + 1, by omega, rfl, by rw [upto_succ h]; exact hJ3⟩
        case measure => rw [intOf, intOf]; omega
      · gi_wp2
        refine bodyPost_ret (results_none rfl _ _ _) rfl ?_
        refine ⟨⟨_, rfl⟩, .inr ⟨_, ?_, hJx3⟩⟩
        rw [← upto_succ h]
        exact List.take_prefix_take_left (by omega)
    · obtain rfl : k = 24 := by omega
      gi_wp2
      go_end0
      exact ⟨⟨_, rfl⟩, .inl ⟨_, rfl, hJs⟩⟩

theorem which_stops (n : Nat) (hn : 1 ≤ n) (Kp : World → World → Prop) (w : World) :
    SeqStopsK Fence.wide n Try.prog 82 #[] encW Kp (fun ys => ys = upto 24) (fun pre => pre <+: upto 24) 24 w := fun l J Jx W _ hJ _ hY h0 =>
  which1_in n hn l J Jx (fun s A B hs hE => hJ s A B none hs (ext_grownBy hE none) (fun r e => by cases e)) Kp hY W h0

theorem which_c (w : World) : Calls Try.prog 53 #[] w fun e w' => e = .returned (.func (.func 82) #[] #[]) ∧ w' = w := by
  go_enter Try.func53, Try.ntmps53
  go_wp2
  go_ret
  exact ⟨rfl, rfl⟩
end Go.Proofs.Ytenigkngmdofiaa
