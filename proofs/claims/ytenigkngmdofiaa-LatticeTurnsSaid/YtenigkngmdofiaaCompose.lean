/- compose, Compose, Invert of the program. -/
import Derived.Test.YtenigkngmdofiaaWhich
import Derived.Test.YtenigkngmdofiaaInverse
namespace Go.Proofs.Ytenigkngmdofiaa
open Go.RowKit Go.Shelf
attribute [local go_sem] Oper.semAt_some

deriving instance DecidableEq for Pt
theorem turn123_inj : ∀ a, a < 24 → ∀ b, b < 24 → turnS p123 a = turnS p123 b → a = b := by decide +kernel
theorem compT_spec : ∀ a, a < 24 → ∀ b, b < 24 → turnS p123 (compT a b) = turnS (turnS p123 a) b ∧ compT a b < 24 := by decide +kernel
theorem invT_spec : ∀ a, a < 24 → turnS (turnS p123 (invT a)) a = p123 ∧ invT a < 24 := by decide +kernel
theorem inv123_inj : ∀ a, a < 24 → ∀ b, b < 24 → turnS (turnS p123 b) a = p123 → b = invT a := by decide +kernel

theorem blk_own {β : Type} (g : Nat) (t : TypeId) (cs : Array Value) : Own (fun (_ : β) W => Blk W g t cs) := fun s X Y row h hg hr => h.grown hg (fun e => by
  obtain ⟨o, ho, hc⟩ := hr g e.symm
  rw [show X.heap[g]? = _ from h] at ho
  cases ho
  cases hc)
theorem mem_upto (x : Fin 24) : x ∈ upto 24 := by
  unfold upto
  rw [List.take_of_length_le (by simp)]
  exact List.mem_finRange x
theorem ok_at123 {n : Nat} : (turnS p123 n).ok := turnS_ok p123_ok n

set_option maxRecDepth 100000 in
set_option maxHeartbeats 2000000 in
theorem compose_c (a b : Nat) (ha : a < 24) (hb : b < 24) (w : World) :
    Calls Try.prog 51 #[.int .i64 a, .int .i64 b] w fun e w' => e = .returned (.int .i64 (compT a b)) ∧ Ext w w' := by
  refine (callsIn_wide (n := 5)).1 ?_
  refine callsIn_of_wp_marks Try.func51 rfl trivial ?_ rfl
  simp only [Try.ntmps51, List.size_toArray, List.length_cons, List.length_nil, Nat.reduceAdd, Nat.reduceSub, Array.replicate_succ, Array.replicate_zero, List.push_toArray, List.append_toArray, List.nil_append, List.cons_append]
  have hok := @ok_at123 a
  have Hs := Lib.hid (compT_spec a ha b hb)
  gi_wp2_with fail
  refine ⟨trivial, ?_⟩
  gi_at_call 43
  refine (callsIn_wide.2 (turn_c 1 2 3 a _ ha p123_ok)).mono ?_
  rintro e w1 ⟨rfl, E1⟩
  obtain ⟨q, hq⟩ : ∃ q, turnS ⟨1, 2, 3⟩ a = q := ⟨_, rfl⟩
  rw [show turnS p123 a = q from hq] at hok
  have Hq := Lib.hid hq
  rw [hq]
  clear hq
  gi_wp2_with fail
  refine ⟨trivial, ?_⟩
  gi_at_call 43
  refine (callsIn_wide.2 (turn_c q.x q.y q.z b _ hb hok)).mono ?_
  rintro e w2 ⟨rfl, E2⟩
  obtain ⟨r, hr⟩ : ∃ r, turnS ⟨q.x, q.y, q.z⟩ b = r := ⟨_, rfl⟩
  have Hr := Lib.hid hr
  rw [hr]
  clear hr
  gi_wp2_with (refine ⟨trivial, ?_⟩; gi_at_call 53; refine (callsIn_wide.2 (which_c _)).mono ?_; rintro e w3 ⟨rfl, rfl⟩)
  have hsz2 := E2.size
  have hsz1 := E1.size
  rw [World.size_alloc] at hsz1
  have B4 := ((((Blk.new w #[.int .i64 0] 3).ext E1).ext E2).alloc (.cells #[.int .i64 r.x, .int .i64 r.y, .int .i64 r.z] 23))
  have B5 := Blk.new w2 #[.int .i64 r.x, .int .i64 r.y, .int .i64 r.z] 23
  have hE0 : Ext w (w2.alloc (.cells #[.int .i64 r.x, .int .i64 r.y, .int .i64 r.z] 23)) := (((((Ext.refl w).alloc _).trans E1).trans E2).alloc _)
  have hsz : (w2.alloc (.cells #[.int .i64 r.x, .int .i64 r.y, .int .i64 r.z] 23)).heap.size = w2.heap.size + 1 := by simp
  obtain ⟨W0, hW0⟩ : ∃ W0, w2.alloc (.cells #[.int .i64 r.x, .int .i64 r.y, .int .i64 r.z] 23) = W0 := ⟨_, rfl⟩
  rw [hW0] at B4 B5 hE0 hsz ⊢
  clear hW0
  refine wpIn_rangeFunc_ownH rfl (by omega) (gf := 82) (lb := #[]) rfl trivial (enters_of Try.func82 (by kernel_rfl) rfl)
    (which_stops _ (by omega) (fun _ _ => True) W0) (fun _ _ => trivial) (fun _ _ _ _ _ _ _ _ => trivial) (Below.refl _ _) (fun _ => rfl)
    (fun pre W => ((Blk W w.heap.size 3 #[.int .i64 0] ∧ Blk W w2.heap.size 23 #[.int .i64 r.x, .int .i64 r.y, .int .i64 r.z]) ∧ Ext w W) ∧ ∀ y ∈ pre, turnS p123 y.val ≠ r)
    (fun c _ W => (∃ x : Fin 24, Blk W w.heap.size 3 #[.int .i64 (x.val : Int)] ∧ turnS p123 x.val = r ∧ c = .ret) ∧ Ext w W)
    (OwnFrom.and (OwnFrom.and (OwnFrom.and (Own.from (blk_own _ _ _) _) (Own.from (blk_own _ _ _) _)) (ownFrom_below (Nat.le_refl _) (by omega))) (ownFrom_pure _ _))
    (fun c => OwnFrom.and (fun s X Y row hs hg hr => by
      obtain ⟨x, h, h'⟩ := hs
      exact ⟨x, blk_own _ _ _ () X Y row h hg (fun r e => (hr r e).2), h'⟩) (ownFrom_below (Nat.le_refl _) (by omega)))
    ⟨⟨⟨B4, B5⟩, hE0⟩, fun _ h => by cases h⟩
    (fun x a' W => ∃ g, W0.heap.size ≤ g ∧ Blk W g 23 #[.int .i64 (turnS p123 x.val).x, .int .i64 (turnS p123 x.val).y, .int .i64 (turnS p123 x.val).z] ∧
      a' = { tmps := #[.int .i64 a, .int .i64 b, undef, undef, .pointer (some ⟨w.heap.size, 0, none⟩), .pointer (some ⟨w2.heap.size, 0, none⟩), .int .i64 (x.val : Int), .pointer (some ⟨g, 0, none⟩), .agg #[.int .i64 1, .int .i64 2, .int .i64 3], .int .i64 a, .agg #[.int .i64 q.x, .int .i64 q.y, .int .i64 q.z], .int .i64 b, .agg #[.int .i64 r.x, .int .i64 r.y, .int .i64 r.z], .func (.func 82) #[] #[], .int .i64 (x.val : Int), at123 x.val, undef, undef, undef, undef], defers := [] })
    (fun x a' _ X Y row hs hg hr => by
      obtain ⟨g, h1, h2, h3⟩ := hs
      exact ⟨g, h1, blk_own _ _ _ () X Y row h2 hg (fun r e => (hr r e).2), h3⟩)
    ?assign ?body ?done ?stop
  case assign =>
    rintro l pre x W K ⟨⟨⟨C4, C5⟩, hE⟩, hne⟩ hK
    have h5 := hE.size
    have h4 := C5.lt
    dsimp only [encW, at123]
    gi_wp2
    exact hK _ _ ((KeepsOthers.alloc _ _).from _) trivial ⟨⟨⟨C4.alloc _, C5.alloc _⟩, hE.alloc _⟩, hne⟩ ⟨W.heap.size, by omega, Blk.new _ _ _, rfl⟩
  case body =>
    rintro l pre x a' W hl - ⟨⟨⟨C4, C5⟩, hE⟩, hne⟩ ⟨g, hg, C7, rfl⟩ -
    have Hne := Lib.hid hne
    clear hne
    obtain ⟨p, hp⟩ : ∃ p, turnS p123 x.val = p := ⟨_, rfl⟩
    have Hp := Lib.hid hp
    rw [hp] at C7
    have hat : at123 x.val = .agg #[.int .i64 p.x, .int .i64 p.y, .int .i64 p.z] := by rw [← hp]; rfl
    rw [hat]
    clear hat hp
    have c4 := C4.cell
    have f4 := C4.frozen
    have c5 := C5.cell
    have c7 := C7.cell
    have hq : ∀ w, (binOp .eql 23 (.agg #[.int .i64 p.x, .int .i64 p.y, .int .i64 p.z]) (.agg #[.int .i64 r.x, .int .i64 r.y, .int .i64 r.z])).run Try.prog w = .ok (.bool (Pt.eqB p r)) w := fun w => pt_eql _ _ _ _ _ _ _
    by_cases h : Pt.eqB p r = true
    · rw [h] at hq
      gi_wp2
      exact ⟨(KeepsOthers.setCell _ _ _).from _, ⟨x, C4.set_ 0 _, Hp.out.trans (Pt.eqB_iff.1 h), rfl⟩, hE.setCell (Nat.le_refl _) _⟩
    · have h' : Pt.eqB p r = false := by simpa using h
      rw [h'] at hq
      gi_wp2
      refine ⟨KeepsFrom.refl _ _, trivial, ⟨⟨C4, C5⟩, hE⟩, fun y hy => ?_⟩
      rcases List.mem_append.1 hy with hy | hy
      · exact Hne.out y hy
      · obtain rfl : y = x := by simpa using hy
        rw [Hp.out]
        exact fun e => h (Pt.eqB_iff.2 e)
  case done =>
    rintro D ys W hD rfl ⟨-, hne⟩ hK
    obtain ⟨h1, h2⟩ := Hs.out
    refine absurd ?_ (hne ⟨compT a b, h2⟩ (mem_upto _))
    rw [h1, show turnS p123 a = q from Hq.out]
    exact Hr.out
  case stop =>
    rintro D c pre W hD hpre ⟨⟨x, C4, hx, rfl⟩, hE⟩ hK
    gi_wp2
    refine ⟨by simp, .inl ⟨_, _, rfl, run_takeDeferred hK, ?_⟩⟩
    have C4' : Blk (W.putObj D (.deferred none)) w.heap.size 3 #[.int .i64 (x.val : Int)] := C4.grown (grownBy_putObj' W D _) (fun e => by cases e; rw [show W.heap[w.heap.size]? = _ from C4] at hK; cases hK)
    have c4 := C4'.cell
    refine ⟨.int .i64 (x.val : Int), by simp [results, Try.results51, go_sem, c4], ?_, Below.trans hE (belowK_b (w := w) (Nat.le_refl _) W D _ _ (by omega) hK rfl rfl)⟩
    obtain ⟨h1, h2⟩ := Hs.out
    rw [turn123_inj x.val x.isLt _ h2 (by rw [hx, h1, show turnS p123 a = q from Hq.out]; exact Hr.out.symm)]
end Go.Proofs.Ytenigkngmdofiaa
