/- Compose, Invert of the program. -/
import Derived.Test.YtenigkngmdofiaaCompose
namespace Go.Proofs.Ytenigkngmdofiaa
open Go.RowKit Go.Shelf
attribute [local go_sem] Oper.semAt_some

theorem ints2 (w : World) (m n : Int) (t : TypeId) : SliceIs (w.alloc (.cells #[.int .i64 m, .int .i64 n] t)) (some ⟨w.heap.size, 0, none⟩) 2 2 1 ([m, n].map fun n => [.int .i64 n]) := by
  refine ⟨rfl, Nat.le_refl _, by unfold maxLen; omega, by simp, fun _ => ⟨_, 0, rfl, by simp, fun i r hr j u hu => ?_⟩⟩
  have hi : i = 0 ∨ i = 1 := by
    rcases Nat.lt_or_ge i 2 with h | h
    · omega
    · rw [List.getElem?_eq_none (by simp; omega)] at hr; cases hr
  rcases hi with rfl | rfl <;>
  · simp at hr
    subst hr
    have hj : j = 0 := by
      rcases Nat.eq_zero_or_pos j with h | h
      · exact h
      · rw [List.getElem?_eq_none (by simp; omega)] at hu; cases hu
    subst hj
    simp at hu
    subst hu
    rw [cell_new]
    rfl
theorem isTurn2_c (w : World) (m n : Int) (t : TypeId) :
    Calls Try.prog 42 #[.slice (some ⟨w.heap.size, 0, none⟩) 2 2] (w.alloc (.cells #[.int .i64 m, .int .i64 n] t)) fun e w' => e = .returned (.bool (inB 0 23 m && inB 0 23 n)) ∧ w.alloc (.cells #[.int .i64 m, .int .i64 n] t) = w' :=
  (isTurn_c _ 2 [m, n] _ (ints2 w m n t)).mono fun e w' ⟨he, hw⟩ => ⟨by rw [he]; simp [allTurn], hw⟩

set_option maxHeartbeats 400000 in
theorem Compose_ok (a b : Nat) (ha : a < 24) (hb : b < 24) (w : World) :
    Calls Try.prog 10 #[.int .i64 a, .int .i64 b] w fun e w' => e = .returned (.tuple #[.int .i64 (compT a b), .int .i64 0]) ∧ Ext w w' := by
  have hi : (inB 0 23 (a : Int) && inB 0 23 (b : Int)) = true := by rw [inB_iff.2 (by omega), inB_iff.2 (by omega)]; rfl
  go_enter Try.func10, Try.ntmps10
  go_wp2_with fail
  refine (isTurn2_c w a b _).mono ?_
  rintro e w2 ⟨rfl, rfl⟩
  go_wp2_with fail
  refine (compose_c a b ha hb _).mono ?_
  rintro e w1 ⟨rfl, E1⟩
  go_wp2_with fail
  go_ret2
  exact ⟨rfl, ((Ext.refl w).alloc _).trans E1⟩
set_option maxHeartbeats 400000 in
theorem Compose_bad (a b : Int) (hb : ¬ ((0 ≤ a ∧ a < 24) ∧ 0 ≤ b ∧ b < 24)) (w : World) :
    Calls Try.prog 10 #[.int .i64 a, .int .i64 b] w fun e w' => e = .returned (.tuple #[.int .i64 0, .int .i64 2]) ∧ Ext w w' := by
  have hi : (inB 0 23 (a : Int) && inB 0 23 (b : Int)) = false := by
    cases ha : inB 0 23 a
    · rfl
    · exact inB_not.2 (fun h => hb ⟨by have := inB_iff.1 ha; omega, by omega⟩)
  clear hb
  go_enter Try.func10, Try.ntmps10
  go_wp2_with fail
  refine (isTurn2_c w a b _).mono ?_
  rintro e w2 ⟨rfl, rfl⟩
  go_wp2_with fail
  go_ret2
  exact ⟨rfl, (Ext.refl w).alloc _⟩
theorem blocks3 (w : World) (a b c : Array Value) (t u v : TypeId) : ∃ W, ((w.alloc (.cells a t)).alloc (.cells b u)).alloc (.cells c v) = W ∧ W.heap.size = w.heap.size + 1 + 1 + 1 ∧
    Blk W w.heap.size t a ∧ Blk W (w.heap.size + 1) u b ∧ Blk W (w.heap.size + 1 + 1) v c ∧ Ext w W := by
  refine ⟨_, rfl, by simp, ((Blk.new _ _ _).alloc _).alloc _, ?_, ?_, (((Ext.refl w).alloc _).alloc _).alloc _⟩
  · have := (Blk.new (w.alloc (.cells a t)) b u).alloc (.cells c v)
    rwa [World.size_alloc] at this
  · have := Blk.new ((w.alloc (.cells a t)).alloc (.cells b u)) c v
    rwa [World.size_alloc, World.size_alloc] at this
theorem kept2 {V w : World} {g h : Nat} {t u : TypeId} {a b c d : Value} (hg : Blk V g t #[a]) (hh : Blk V h u #[b]) (hne : g ≠ h) (hE : Ext w V) (h1 : w.heap.size ≤ g) (h2 : w.heap.size ≤ h) :
    ∃ V', (V.setCell ⟨g, 0, none⟩ c).setCell ⟨h, 0, none⟩ d = V' ∧ Blk V' g t #[c] ∧ Blk V' h u #[d] ∧ Ext w V' ∧ KeepsOthers V V' :=
  ⟨_, rfl, (hg.set_ 0 c).far hne _, (hh.far (fun e => hne e.symm) _).set_ 0 d, (hE.setCell h1 _).setCell h2 _, (KeepsOthers.setCell _ _ _).trans (KeepsOthers.setCell _ _ _)⟩

set_option maxHeartbeats 400000 in
theorem Invert_bad (a : Int) (ha : ¬ (0 ≤ a ∧ a < 24)) (w : World) :
    Calls Try.prog 12 #[.int .i64 a] w fun e w' => e = .returned (.tuple #[.int .i64 0, .int .i64 2]) ∧ Ext w w' := by
  have hi : inB 0 23 a = false := inB_not.2 (by omega)
  refine (callsIn_wide (n := 5)).1 ?_
  refine callsIn_of_wp_marks Try.func12 rfl trivial ?_ rfl
  simp only [Try.ntmps12, List.size_toArray, List.length_cons, List.length_nil, Nat.reduceAdd, Nat.reduceSub, Array.replicate_succ, Array.replicate_zero, List.push_toArray, List.append_toArray, List.nil_append, List.cons_append]
  gi_wp2_with fail
  refine ⟨trivial, ?_⟩
  obtain ⟨W, hW, hz, -, B2, B3, E⟩ := blocks3 w #[.int .i64 a] #[.int .i64 0] #[.int .i64 0] 3 3 24
  rw [hW, ← hz]
  clear hW
  refine (callsIn_wide.2 (isTurn1_c W a _)).mono ?_
  rintro e w2 ⟨rfl, rfl⟩
  obtain ⟨V, hV⟩ : ∃ V, W.alloc (.cells #[.int .i64 a] 3) = V := ⟨_, rfl⟩
  have C2 := B2.alloc (.cells #[.int .i64 a] 3)
  have C3 := B3.alloc (.cells #[.int .i64 a] 3)
  have E' := E.alloc (.cells #[.int .i64 a] 3)
  rw [hV] at C2 C3 E' ⊢
  clear hV
  have c2 := C2.cell
  have f2 := C2.frozen
  have c3 := C3.cell
  have f3 := C3.frozen
  gi_wp2_with fail
  obtain ⟨V', hV', D2, D3, F, -⟩ := kept2 (c := .int .i64 0) (d := .int .i64 2) C2 C3 (by omega) E' (by omega) (by omega)
  rw [hV']
  clear hV'
  have d2 := D2.cell
  have d3 := D3.cell
  exact ⟨.tuple #[.int .i64 0, .int .i64 2], by simp [results, Try.results12, go_sem, d2, d3], rfl, F⟩

set_option maxRecDepth 100000 in
set_option maxHeartbeats 1000000 in
theorem Invert_ok (a : Nat) (ha : a < 24) (w : World) :
    Calls Try.prog 12 #[.int .i64 a] w fun e w' => e = .returned (.tuple #[.int .i64 (invT a), .int .i64 0]) ∧ Ext w w' := by
  have hi : inB 0 23 (a : Int) = true := inB_iff.2 (by omega)
  have Hs := Lib.hid (invT_spec a ha)
  refine (callsIn_wide (n := 5)).1 ?_
  refine callsIn_of_wp_marks Try.func12 rfl trivial ?_ rfl
  simp only [Try.ntmps12, List.size_toArray, List.length_cons, List.length_nil, Nat.reduceAdd, Nat.reduceSub, Array.replicate_succ, Array.replicate_zero, List.push_toArray, List.append_toArray, List.nil_append, List.cons_append]
  gi_wp2_with fail
  refine ⟨trivial, ?_⟩
  obtain ⟨W, hW, hz, B1, B2, B3, E⟩ := blocks3 w #[.int .i64 a] #[.int .i64 0] #[.int .i64 0] 3 3 24
  rw [hW, ← hz]
  clear hW
  refine (callsIn_wide.2 (isTurn1_c W a _)).mono ?_
  rintro e w2 ⟨rfl, rfl⟩
  obtain ⟨V, hV⟩ : ∃ V, W.alloc (.cells #[.int .i64 a] 3) = V := ⟨_, rfl⟩
  have hzV : V.heap.size = W.heap.size + 1 := by rw [← hV]; simp
  have C1 := B1.alloc (.cells #[.int .i64 a] 3)
  have C2 := B2.alloc (.cells #[.int .i64 a] 3)
  have C3 := B3.alloc (.cells #[.int .i64 a] 3)
  have E' := E.alloc (.cells #[.int .i64 a] 3)
  rw [hV] at C1 C2 C3 E' ⊢
  clear hV B1 B2 B3
  gi_wp2_with (refine ⟨trivial, ?_⟩; gi_at_call 53; refine (callsIn_wide.2 (which_c _)).mono ?_; rintro e w3 ⟨rfl, hw3⟩; subst w3)
  refine wpIn_rangeFunc_ownH rfl (by omega) (gf := 82) (lb := #[]) rfl trivial (enters_of Try.func82 (by kernel_rfl) rfl)
    (which_stops _ (by omega) (fun _ _ => True) V) (fun _ _ => trivial) (fun _ _ _ _ _ _ _ _ => trivial) (Below.refl _ _) (fun _ => rfl)
    (fun pre X => (((Blk X w.heap.size 3 #[.int .i64 a] ∧ Blk X (w.heap.size + 1) 3 #[.int .i64 0]) ∧ Blk X (w.heap.size + 1 + 1) 24 #[.int .i64 0]) ∧ Ext w X) ∧ ∀ y ∈ pre, turnS (turnS p123 y.val) a ≠ p123)
    (fun c _ X => (∃ x : Fin 24, (Blk X (w.heap.size + 1) 3 #[.int .i64 (x.val : Int)] ∧ Blk X (w.heap.size + 1 + 1) 24 #[.int .i64 0]) ∧ turnS (turnS p123 x.val) a = p123 ∧ c = .ret) ∧ Ext w X)
    (OwnFrom.and (OwnFrom.and (OwnFrom.and (OwnFrom.and (Own.from (blk_own _ _ _) _) (Own.from (blk_own _ _ _) _)) (Own.from (blk_own _ _ _) _)) (ownFrom_below (Nat.le_refl _) (by omega))) (ownFrom_pure _ _))
    (fun c => OwnFrom.and (fun s X Y row hs hg hr => by
      obtain ⟨x, ⟨h, k⟩, h'⟩ := hs
      exact ⟨x, ⟨blk_own _ _ _ () X Y row h hg (fun r e => (hr r e).2), blk_own _ _ _ () X Y row k hg (fun r e => (hr r e).2)⟩, h'⟩) (ownFrom_below (Nat.le_refl _) (by omega)))
    ⟨⟨⟨⟨C1, C2⟩, C3⟩, E'⟩, fun _ h => by cases h⟩
    (fun x a' X => ∃ g, Blk X g 23 #[.int .i64 (turnS p123 x.val).x, .int .i64 (turnS p123 x.val).y, .int .i64 (turnS p123 x.val).z] ∧
      a' = { tmps := #[.int .i64 a, .pointer (some ⟨w.heap.size, 0, none⟩), .pointer (some ⟨w.heap.size + 1, 0, none⟩), .pointer (some ⟨w.heap.size + 1 + 1, 0, none⟩), .int .i64 (x.val : Int), .pointer (some ⟨g, 0, none⟩), .int .i64 a,
        .slice (some ⟨w.heap.size + 1 + 1 + 1, 0, none⟩) 1 1, .bool true, .bool false, .func (.func 82) #[] #[], .int .i64 (x.val : Int), at123 x.val, undef, undef, undef, undef, undef, undef], defers := [] })
    (fun x a' _ X Y row hs hg hr => by
      obtain ⟨g, h2, h3⟩ := hs
      exact ⟨g, blk_own _ _ _ () X Y row h2 hg (fun r e => (hr r e).2), h3⟩)
    ?assign ?body ?done ?stop
  case assign =>
    rintro l pre x X K ⟨⟨⟨⟨C1, C2⟩, C3⟩, hE⟩, hne⟩ hK
    have h4 := hE.size
    dsimp only [encW, at123]
    gi_wp2
    have h3 := C3.lt
    exact hK _ _ ((KeepsOthers.alloc _ _).from _) trivial ⟨⟨⟨⟨C1.alloc _, C2.alloc _⟩, C3.alloc _⟩, hE.alloc _⟩, hne⟩ ⟨X.heap.size, Blk.new _ _ _, rfl⟩
  case body =>
    rintro l pre x a' X hl - ⟨⟨⟨⟨C1, C2⟩, C3⟩, hE⟩, hne⟩ ⟨g, C5, rfl⟩ -
    have Hne := Lib.hid hne
    clear hne
    obtain ⟨p, hp⟩ : ∃ p, turnS p123 x.val = p := ⟨_, rfl⟩
    have hpo : p.ok := by rw [← hp]; exact ok_at123
    have Hp := Lib.hid hp
    rw [hp] at C5
    have hat : at123 x.val = .agg #[.int .i64 p.x, .int .i64 p.y, .int .i64 p.z] := by rw [← hp]; rfl
    rw [hat]
    clear hat hp
    have c1 := C1.cell
    have c5 := C5.cell
    gi_wp2_with fail
    refine ⟨trivial, ?_⟩
    gi_at_call 43
    refine (CallsIn.inRound l (callsIn_wide.2 (turn_c p.x p.y p.z a _ ha hpo))).mono ?_
    rintro e X2 ⟨rfl, E2⟩
    obtain ⟨r, hr⟩ : ∃ r, turnS ⟨p.x, p.y, p.z⟩ a = r := ⟨_, rfl⟩
    have Hr := Lib.hid hr
    rw [hr]
    clear hr
    have D1 := C1.ext E2
    have D2 := C2.ext E2
    have D3 := C3.ext E2
    have c2 := D2.cell
    have f2 := D2.frozen
    have c3 := D3.cell
    have f3 := D3.frozen
    have hq : ∀ w, (binOp .eql 23 (.agg #[.int .i64 r.x, .int .i64 r.y, .int .i64 r.z]) (.agg #[.int .i64 1, .int .i64 2, .int .i64 3])).run Try.prog w = .ok (.bool (Pt.eqB r p123)) w := fun w => pt_eql _ _ _ _ _ _ _
    by_cases h : Pt.eqB r p123 = true
    · rw [h] at hq
      gi_wp2
      obtain ⟨X', hX', F2, F3, F, hk⟩ := kept2 (c := .int .i64 (x.val : Int)) (d := .int .i64 0) D2 D3 (by omega) (hE.trans E2) (by omega) (by omega)
      rw [hX']
      exact ⟨((ext_keeps E2).trans hk).from _, ⟨x, ⟨F2, F3⟩, by rw [Hp.out]; exact Hr.out.trans (Pt.eqB_iff.1 h), rfl⟩, F⟩
    · have h' : Pt.eqB r p123 = false := by simpa using h
      rw [h'] at hq
      gi_wp2
      refine ⟨(ext_keeps E2).from _, trivial, ⟨⟨⟨D1, D2⟩, D3⟩, hE.trans E2⟩, fun y hy => ?_⟩
      rcases List.mem_append.1 hy with hy | hy
      · exact Hne.out y hy
      · obtain rfl : y = x := by simpa using hy
        rw [Hp.out]
        exact fun e => h (Pt.eqB_iff.2 (Hr.out.symm.trans e))
  case done =>
    rintro D ys X hD rfl ⟨-, hne⟩ hK
    obtain ⟨h1, h2⟩ := Hs.out
    exact absurd h1 (hne ⟨invT a, h2⟩ (mem_upto _))
  case stop =>
    rintro D c pre X hD hpre ⟨⟨x, ⟨C2, C3⟩, hx, rfl⟩, hE⟩ hK
    gi_wp2
    refine ⟨by simp, .inl ⟨_, _, rfl, run_takeDeferred hK, ?_⟩⟩
    have C2' : Blk (X.putObj D (.deferred none)) (w.heap.size + 1) 3 #[.int .i64 (x.val : Int)] := C2.grown (grownBy_putObj' X D _) (fun e => by cases e; rw [show X.heap[w.heap.size + 1]? = _ from C2] at hK; cases hK)
    have C3' : Blk (X.putObj D (.deferred none)) (w.heap.size + 1 + 1) 24 #[.int .i64 0] := C3.grown (grownBy_putObj' X D _) (fun e => by cases e; rw [show X.heap[w.heap.size + 1 + 1]? = _ from C3] at hK; cases hK)
    have c2 := C2'.cell
    have c3 := C3'.cell
    refine ⟨.tuple #[.int .i64 (x.val : Int), .int .i64 0], by simp [results, Try.results12, go_sem, c2, c3], ?_, Below.trans hE (belowK_b (w := w) (Nat.le_refl _) X D _ _ (by omega) hK rfl rfl)⟩
    rw [inv123_inj a ha x.val x.isLt hx]
end Go.Proofs.Ytenigkngmdofiaa
