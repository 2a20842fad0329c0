/- Normal of the program. Conditions: a brick's turn and colour are bytes. like of the reference. Conditions: the brick is valid, the turn is one. SameInts of the reference. No conditions. Symmetries, Cells, Knobs, Normal: what both sides return is one, whatever the input is. -/
import Derived.Test.YtenigkngmdofiaaLk9
import Derived.Stop.RegionWithIn

namespace Go.Proofs.Ytenigkngmdofiaa
open Go.RowKit Go.Shelf
attribute [local go_sem] Oper.semAt_some

/-- Six stores into a box, and what they keep. -/
theorem set6k {W w : World} {g : Nat} {t : TypeId} {a b c d e f : Value} (v1 v2 v3 v4 v5 v6 : Value) (hb : Blk W g t #[a, b, c, d, e, f]) (E : Ext w W) (hg : w.heap.size ≤ g) :
    ∃ V, (((((W.setCell ⟨g, 0, none⟩ v1).setCell ⟨g, 1, none⟩ v2).setCell ⟨g, 2, none⟩ v3).setCell ⟨g, 3, none⟩ v4).setCell ⟨g, 4, none⟩ v5).setCell ⟨g, 5, none⟩ v6 = V ∧ Blk V g t #[v1, v2, v3, v4, v5, v6] ∧ Ext w V ∧ KeepsOthers W V ∧
      ∀ (h : Nat) (u : TypeId) (cs : Array Value), h ≠ g → Blk W h u cs → Blk V h u cs := by
  obtain ⟨V, hV, h1, h2⟩ := set6 v1 v2 v3 v4 v5 v6 hb E hg
  refine ⟨V, hV, h1, h2, ?_, fun h u cs hn hh => ?_⟩
  · rw [← hV]
    refine KeepsOthers.trans ?_ (KeepsOthers.setCell _ _ _)
    refine KeepsOthers.trans ?_ (KeepsOthers.setCell _ _ _)
    refine KeepsOthers.trans ?_ (KeepsOthers.setCell _ _ _)
    refine KeepsOthers.trans ?_ (KeepsOthers.setCell _ _ _)
    refine KeepsOthers.trans ?_ (KeepsOthers.setCell _ _ _)
    exact KeepsOthers.setCell _ _ _
  · rw [← hV]
    refine Blk.far (p := ⟨g, 5, none⟩) ?_ hn _
    refine Blk.far (p := ⟨g, 4, none⟩) ?_ hn _
    refine Blk.far (p := ⟨g, 3, none⟩) ?_ hn _
    refine Blk.far (p := ⟨g, 2, none⟩) ?_ hn _
    refine Blk.far (p := ⟨g, 1, none⟩) ?_ hn _
    refine Blk.far (p := ⟨g, 0, none⟩) ?_ hn _
    exact hh
/-- Seven stores: a brick into its box, a number into its own. -/
theorem set7 {W w : World} {g h : Nat} {t u : TypeId} {a b c d e f i : Value} (v1 v2 v3 v4 v5 v6 v7 : Value) (hb : Blk W g t #[a, b, c, d, e, f]) (hi : Blk W h u #[i]) (hne : g ≠ h) (E : Ext w W) (hg : w.heap.size ≤ g) (hh : w.heap.size ≤ h) :
    ∃ V, ((((((W.setCell ⟨g, 0, none⟩ v1).setCell ⟨g, 1, none⟩ v2).setCell ⟨g, 2, none⟩ v3).setCell ⟨g, 3, none⟩ v4).setCell ⟨g, 4, none⟩ v5).setCell ⟨g, 5, none⟩ v6).setCell ⟨h, 0, none⟩ v7 = V ∧ Blk V g t #[v1, v2, v3, v4, v5, v6] ∧ Blk V h u #[v7] ∧ Ext w V ∧ KeepsOthers W V := by
  obtain ⟨V, hV, h1, h2, h3, h4⟩ := set6k v1 v2 v3 v4 v5 v6 hb E hg
  rw [hV]
  exact ⟨_, rfl, h1.far hne _, (h4 h u _ (fun e => hne e.symm) hi).set_ 0 v7, h2.setCell hh v7, h3.trans (KeepsOthers.setCell _ _ _)⟩
set_option maxRecDepth 100000 in
set_option maxHeartbeats 8000000 in
theorem Normal_bad (qs : List (Knd × KAt)) (QA : Option Addr) (qc : Nat) (w : World) (hk : Kinds w QA qc qs) (kd x y z t c er : Int) (hb : Brk.byte ⟨kd, ⟨x, y, z⟩, t, c⟩) (he : askedErr (qs.map (·.1)) [⟨kd, ⟨x, y, z⟩, t, c⟩] = er) (h0 : er ≠ 0) :
    Calls Try.prog 28 #[.slice QA qs.length qc, .agg #[.int .i64 kd, .int .i64 x, .int .i64 y, .int .i64 z, .int .u8 t, .int .u8 c]] w fun e w' => e = .returned (.tuple #[.agg #[.int .i64 0, .int .i64 0, .int .i64 0, .int .i64 0, .int .u8 0, .int .u8 0], .int .i64 er]) ∧ Ext w w' := by
  obtain ⟨W1, hW1, E1, B1, hz1⟩ := mk_ w #[.slice QA qs.length qc] 40
  obtain ⟨W2, hW2, E2, B2, hz2⟩ := mk_ W1 #[.int .i64 kd, .int .i64 x, .int .i64 y, .int .i64 z, .int .u8 t, .int .u8 c] 42
  obtain ⟨W3, hW3, E3, B3, hz3⟩ := mk_ W2 #[.int .i64 0, .int .i64 0, .int .i64 0, .int .i64 0, .int .u8 0, .int .u8 0] 42
  obtain ⟨W4, hW4, E4, B4, hz4⟩ := mk_ W3 #[.int .i64 0] 24
  have E := ((E1.trans E2).trans E3).trans E4
  have c1 := (((B1.ext E2).ext E3).ext E4).cell
  have c2 := ((B2.ext E3).ext E4).cell
  have CH := check1_c qs QA qc kd x y z t c W4 (hk.ext E) hb 42
  rw [he] at CH
  have h1 : (er != 0) = true := by simpa using h0
  have hne : W2.heap.size ≠ W3.heap.size := by omega
  have l4 : w.heap.size ≤ W3.heap.size := ((E1.trans E2).trans E3).size
  clear he h0 hz1 hz2 hz4 hk hz3
  go_enter Try.func28, Try.ntmps28
  go_wp2_with fail
  refine CH.mono ?_
  rintro e W5 ⟨rfl, E5⟩
  have B35 := (B3.ext E4).ext E5
  have B45 := B4.ext E5
  have b3 := B35.cell
  have f3 := B35.frozen
  have b4 := B45.cell
  have f4 := B45.frozen
  go_wp2_with fail
  obtain ⟨V, hV, BV, CV, EV, -⟩ := set7 (.int .i64 0) (.int .i64 0) (.int .i64 0) (.int .i64 0) (.int .u8 0) (.int .u8 0) (.int .i64 er) B35 B45 hne (E.trans E5) (E1.trans E2).size l4
  have bV := BV.cell
  have cV := CV.cell
  rw [hV]
  clear hV
  refine bodyPost_ret (v := .tuple #[.agg #[.int .i64 0, .int .i64 0, .int .i64 0, .int .i64 0, .int .u8 0, .int .u8 0], .int .i64 er]) (by simp [results, Try.results28, go_sem, bV, cV]) rfl ⟨rfl, EV⟩
theorem ok_near {n : Nat} {b : Brk} (h : b.ok n = true) (a : Pt) (m : Nat) (hm : m < 24) : Brk.ok n ⟨b.kind, a, m, b.color⟩ = nearB a (-1000) 1000 := by
  rw [Brk.ok_iff] at h
  rw [Bool.eq_iff_iff, Brk.ok_iff]
  simp only
  constructor
  · exact fun h => h.2.2.1
  · exact fun h' => ⟨h.1, h.2.1, h', by omega, h.2.2.2.2⟩
theorem pre_upto {pre : List (Fin 24)} {x : Fin 24} (h : pre ++ [x] <+: upto 24) : ∀ m, (hm : m < x.val) → (⟨m, by omega⟩ : Fin 24) ∈ pre := by
  obtain ⟨s, hs⟩ := h
  have hu : upto 24 = List.finRange 24 := by
    unfold upto
    exact List.take_of_length_le (by simp)
  rw [hu, List.append_assoc] at hs
  have hl := congrArg List.length hs
  simp only [List.length_append, List.length_cons, List.length_nil, List.length_finRange] at hl
  have hx : pre.length = x.val := by
    have h1 := congrArg (fun l => l[pre.length]?) hs
    simp only [List.getElem?_append_right (Nat.le_refl _), Nat.sub_self, List.cons_append, List.getElem?_cons_zero] at h1
    have hp24 : pre.length < (List.finRange 24).length := by
      rw [List.length_finRange]
      omega
    rw [List.getElem?_eq_getElem hp24] at h1
    simp at h1
    rw [h1]
  intro m hm
  have h1 : (pre ++ ([x] ++ s))[m]? = (List.finRange 24)[m]? := by rw [hs]
  have hm24 : m < (List.finRange 24).length := by
    rw [List.length_finRange]
    omega
  rw [List.getElem?_append_left (by omega), List.getElem?_eq_getElem hm24] at h1
  refine List.mem_of_getElem? (i := m) ?_
  rw [h1]
  simp
/-- What is known in the region that asks like. -/
structure Nm6 (X : World) (vS vI vK vB vN vT vA : Value) (aA : Array Value) (T kg ko : Nat) (b : Bool) (L : Nat → Bool) (us : Nat → Value) (w : World) : Prop where
  o : Owns [11] X L us w
  f0 : L 0 = true → us 0 = vS
  f1 : L 1 = true → us 1 = .pointer (some ⟨T + 1, 0, none⟩)
  f2 : L 2 = true → us 2 = vI
  f3 : L 3 = true → us 3 = .pointer (some ⟨kg, ko, none⟩)
  f4 : L 4 = true → us 4 = vK
  f5 : L 5 = true → us 5 = vB
  f6 : L 6 = true → us 6 = vN
  f7 : L 7 = true → us 7 = vT
  f8 : L 8 = true → us 8 = vT
  f9 : L 9 = true → us 9 = vA
  f10 : L 10 = true → us 10 = .bool b
  f11 : L 11 = true → us 11 = .pointer (some ⟨bk (us 11), 0, none⟩)
  g11 : L 11 = true → L 12 = false → Blk w (bk (us 11)) 23 #[.int .i64 0, .int .i64 0, .int .i64 0]
  f12 : L 12 = true → Blk w (bk (us 11)) 23 aA
  f13 : L 13 = true → us 13 = .bool b
set_option maxRecDepth 100000 in
set_option maxHeartbeats 8000000 in
theorem Normal_ok (qs : List (Knd × KAt)) (QA : Option Addr) (qc : Nat) (w : World) (hk : Kinds w QA qc qs) (i : Nat) (k : Knd) (p : KAt) (hi : qs[i]? = some (k, p)) (hf : k.Fine) (x y z c : Int) (t : Nat) (hb : Brk.byte ⟨i, ⟨x, y, z⟩, t, c⟩) (he : askedErr (qs.map (·.1)) [⟨i, ⟨x, y, z⟩, t, c⟩] = 0) (ht : t < 24) (hp : Pt.in_ 1000 ⟨x, y, z⟩) :
    Calls Try.prog 28 #[.slice QA qs.length qc, .agg #[.int .i64 i, .int .i64 x, .int .i64 y, .int .i64 z, .int .u8 t, .int .u8 c]] w fun e w' =>
      e = .returned (.tuple #[.agg #[.int .i64 i, .int .i64 (normQ k t ⟨x, y, z⟩).1.x, .int .i64 (normQ k t ⟨x, y, z⟩).1.y, .int .i64 (normQ k t ⟨x, y, z⟩).1.z, .int .u8 (normQ k t ⟨x, y, z⟩).2, .int .u8 c], .int .i64 0]) ∧ Ext w w' := by
  obtain ⟨q, hq⟩ : ∃ q, normQ k t ⟨x, y, z⟩ = q := ⟨_, rfl⟩
  rw [hq]
  obtain ⟨W1, hW1, E1, B1, hz1⟩ := mk_ w #[.slice QA qs.length qc] 40
  obtain ⟨W2, hW2, E2, B2, hz2⟩ := mk_ W1 #[.int .i64 i, .int .i64 x, .int .i64 y, .int .i64 z, .int .u8 t, .int .u8 c] 42
  obtain ⟨W3, hW3, E3, B3, hz3⟩ := mk_ W2 #[.int .i64 0, .int .i64 0, .int .i64 0, .int .i64 0, .int .u8 0, .int .u8 0] 42
  obtain ⟨W4, hW4, E4, B4, hz4⟩ := mk_ W3 #[.int .i64 0] 24
  have E := ((E1.trans E2).trans E3).trans E4
  rw [hz1] at B2
  rw [hz2, hz1] at B3
  rw [hz3, hz2, hz1] at B4
  have D1 := ((B1.ext E2).ext E3).ext E4
  have D2 := (B2.ext E3).ext E4
  have D3 := B3.ext E4
  have c1 := D1.cell
  have c2 := D2.cell
  have CH := check1_c qs QA qc i x y z t c W4 (hk.ext E) hb 42
  rw [he, hz4, hz3, hz2, hz1] at CH
  refine (callsIn_wide (n := 5)).1 ?_
  refine callsIn_of_wp_marks Try.func28 rfl trivial ?_ rfl
  simp only [Try.ntmps28, List.size_toArray, List.length_cons, List.length_nil, Nat.reduceAdd, Nat.reduceSub, Array.replicate_succ, Array.replicate_zero, List.push_toArray, List.append_toArray, List.nil_append, List.cons_append]
  gi_wp2_with fail
  refine ⟨trivial, ?_⟩
  gi_at_call 63
  refine (callsIn_wide.2 CH).mono ?_
  rintro e W5 ⟨rfl, E5⟩
  clear CH
  gi_wp2_with (refine ⟨trivial, ?_⟩; gi_at_call 53; refine (callsIn_wide.2 (which_c _)).mono ?_; rintro e w3 ⟨rfl, rfl⟩)
  have Z1 := D1.ext E5
  have Z2 := D2.ext E5
  have Z3 := D3.ext E5
  have Z4 := B4.ext E5
  have hE0 := E.trans E5
  have hsz : w.heap.size + 1 + 1 + 1 < w3.heap.size := Z4.lt
  have HVv := Lib.hid (ok_near (show Brk.ok qs.length ⟨i, ⟨x, y, z⟩, t, c⟩ = true by have := (asked_zero he).2; rwa [List.length_map] at this))
  have HKi := Lib.hid hk
  have hil : i < qs.length := (List.getElem?_eq_some_iff.1 hi).1
  have hql : qs.length ≤ 9223372036854775807 := by have := hk.len; unfold maxLen at this; omega
  obtain ⟨cells, knobs, wt⟩ := k
  obtain ⟨A, ca, B, cb⟩ := p
  have hka := hk.k _ (List.mem_of_getElem? hi)
  have LK := Lib.hid (fun (W : World) (n : Nat) (EW : Ext w W) (hn : n < 24) => like_c ⟨cells, knobs, wt⟩ ⟨A, ca, B, cb⟩ W (hka.ext EW) hf i x y z c t n ht hn hp)
  have HM := Lib.hid (fun n => normQ_hit (k := ⟨cells, knobs, wt⟩) (bt := t) (p := ⟨x, y, z⟩) (n := n))
  have HN := Lib.hid (normQ_none (k := ⟨cells, knobs, wt⟩) (bt := t) (p := ⟨x, y, z⟩))
  have Hi := Lib.hid hi
  clear he hb hf hp hi hk hka c1 c2 D1 D2 D3 B1 B2 B3 B4 E1 E2 E3 E4 E5 E hz1 hz2 hz3 hz4 hW1 hW2 hW3 hW4
  rw [hq] at HM HN
  clear hq
  obtain ⟨T, hT⟩ : ∃ T, w.heap.size = T := ⟨_, rfl⟩
  rw [hT] at Z1 Z2 Z3 Z4 hsz ⊢
  refine wpIn_rangeFunc_ownH rfl (by omega) (gf := 82) (lb := #[]) rfl trivial (enters_of Try.func82 (by kernel_rfl) rfl)
    (which_stops _ (by omega) (fun _ _ => True) w3) (fun _ _ => trivial) (fun _ _ _ _ _ _ _ _ => trivial) (Below.refl _ _) (fun _ => rfl)
    (fun pre X => ((((Blk X T 40 #[.slice QA qs.length qc] ∧ Blk X (T + 1) 42 #[.int .i64 i, .int .i64 x, .int .i64 y, .int .i64 z, .int .u8 t, .int .u8 c]) ∧ Blk X (T + 1 + 1) 42 #[.int .i64 0, .int .i64 0, .int .i64 0, .int .i64 0, .int .u8 0, .int .u8 0]) ∧ Blk X (T + 1 + 1 + 1) 24 #[.int .i64 0]) ∧ Ext w X) ∧ ∀ y' ∈ pre, likeB ⟨cells, knobs, wt⟩ t ⟨x, y, z⟩ y'.val = false)
    (fun cd pre X => (∃ q3, (Blk X (T + 1) 42 #[.int .i64 i, .int .i64 x, .int .i64 y, .int .i64 z, .int .u8 t, .int .u8 c] ∧ Blk X (T + 1 + 1) 42 q3 ∧ Blk X (T + 1 + 1 + 1) 24 #[.int .i64 0]) ∧
      ∃ (pre0 : List (Fin 24)) (x0 : Fin 24), pre = pre0 ++ [x0] ∧ (∀ y' ∈ pre0, likeB ⟨cells, knobs, wt⟩ t ⟨x, y, z⟩ y'.val = false) ∧ likeB ⟨cells, knobs, wt⟩ t ⟨x, y, z⟩ x0.val = true ∧
      ((cd = .ret ∧ nearB (likeAt ⟨cells, knobs, wt⟩ t ⟨x, y, z⟩ x0.val) (-1000) 1000 = true ∧ q3 = #[.int .i64 i, .int .i64 (likeAt ⟨cells, knobs, wt⟩ t ⟨x, y, z⟩ x0.val).x, .int .i64 (likeAt ⟨cells, knobs, wt⟩ t ⟨x, y, z⟩ x0.val).y, .int .i64 (likeAt ⟨cells, knobs, wt⟩ t ⟨x, y, z⟩ x0.val).z, .int .u8 x0.val, .int .u8 c]) ∨ (cd = .exit 0 ∧ nearB (likeAt ⟨cells, knobs, wt⟩ t ⟨x, y, z⟩ x0.val) (-1000) 1000 = false ∧ q3 = #[.int .i64 0, .int .i64 0, .int .i64 0, .int .i64 0, .int .u8 0, .int .u8 0]))) ∧ Ext w X)
    (OwnFrom.and (OwnFrom.and (OwnFrom.and (OwnFrom.and (OwnFrom.and (Own.from (blk_own _ _ _) _) (Own.from (blk_own _ _ _) _)) (Own.from (blk_own _ _ _) _)) (Own.from (blk_own _ _ _) _)) (ownFrom_below (Nat.le_refl _) (by omega))) (ownFrom_pure _ _))
    (fun cd => OwnFrom.and (fun s X Y row hs hg hr => by
      obtain ⟨q3, ⟨h1, h2, h3⟩, h'⟩ := hs
      exact ⟨q3, ⟨blk_own _ _ _ () X Y row h1 hg (fun r e => (hr r e).2), blk_own _ _ _ () X Y row h2 hg (fun r e => (hr r e).2), blk_own _ _ _ () X Y row h3 hg (fun r e => (hr r e).2)⟩, h'⟩) (ownFrom_below (Nat.le_refl _) (by omega)))
    ⟨⟨⟨⟨⟨Z1, Z2⟩, Z3⟩, Z4⟩, hE0⟩, fun _ h => by cases h⟩
    (fun x' a' X => a' = { tmps := #[.slice QA qs.length qc, .agg #[.int .i64 i, .int .i64 x, .int .i64 y, .int .i64 z, .int .u8 t, .int .u8 c], .pointer (some ⟨T, 0, none⟩), .pointer (some ⟨T + 1, 0, none⟩), .pointer (some ⟨T + 1 + 1, 0, none⟩), .pointer (some ⟨T + 1 + 1 + 1, 0, none⟩), .int .i64 0, .int .i64 (x'.val : Int), undef, undef, undef,
      .slice QA qs.length qc, .agg #[.int .i64 i, .int .i64 x, .int .i64 y, .int .i64 z, .int .u8 t, .int .u8 c], .slice (some ⟨T + 1 + 1 + 1 + 1, 0, none⟩) 1 1, .int .i64 0, .int .i64 0, .bool false, undef, undef, .func (.func 82) #[] #[], .int .i64 (x'.val : Int), at123 x'.val,
      undef, undef, undef, undef, undef, undef, undef, undef, undef, undef, undef, undef, undef, undef, undef, undef, undef, undef, undef, undef, undef, undef, undef, undef, undef], defers := [] })
    (fun x' a' _ X Y row hs hg hr => hs)
    ?assign ?body ?done ?stop
  case assign =>
    rintro l pre x' W K ⟨⟨⟨⟨⟨C1, C2⟩, C3⟩, C4⟩, hE⟩, hpl⟩ hK
    dsimp only [encW, at123]
    gi_wp2
    exact hK _ _ (KeepsFrom.refl _ _) trivial ⟨⟨⟨⟨⟨C1, C2⟩, C3⟩, C4⟩, hE⟩, hpl⟩ rfl
  case body =>
    rintro l pre x' a' X hl - ⟨⟨⟨⟨⟨C1, C2⟩, C3⟩, C4⟩, hE⟩, hne⟩ rfl -
    have Hne := Lib.hid hne
    clear hne
    obtain ⟨kg, koff, k', p', rfl, hq, hka, hkg, d0, d1, d2⟩ := (HKi.out.ext hE).at_ hil
    rw [Hi.out] at hq
    cases hq
    simp only at d0 d1 d2
    clear hka
    have i1 : (0 : Int) ≤ i := by omega
    have i2 : (i : Int) < qs.length := by omega
    have hLX := Lib.hid hE
    have c1 := C1.cell
    have c2 := C2.cell
    obtain ⟨q, hq⟩ : ∃ q, likeAt ⟨cells, knobs, wt⟩ t ⟨x, y, z⟩ x'.val = q := ⟨_, rfl⟩
    obtain ⟨lb, hlb⟩ : ∃ b, likeB ⟨cells, knobs, wt⟩ t ⟨x, y, z⟩ x'.val = b := ⟨_, rfl⟩
    have LX := LK.out X x'.val hE x'.isLt
    have HC1 := Lib.hid C1
    have HC2 := Lib.hid C2
    have HD0 := Lib.hid d0
    have HD1 := Lib.hid d1
    have HD2 := Lib.hid d2
    clear d0 d1 d2
    have LX : Hid (∀ W, Ext X W → Calls Try.prog 61 #[.agg #[.slice A cells.length ca, .slice B knobs.length cb, .int .i64 wt], .agg #[.int .i64 i, .int .i64 x, .int .i64 y, .int .i64 z, .int .u8 t, .int .u8 c], .int .i64 x'.val] W fun e w' => e = .returned (.tuple #[.agg #[.int .i64 q.x, .int .i64 q.y, .int .i64 q.z], .bool lb]) ∧ Ext W w') := Lib.hid (fun W EW => by
      rw [← hq, ← hlb]
      exact LK.out W x'.val (hE.trans EW) x'.isLt)
    have hHq := Lib.hid hq
    have hHlb := Lib.hid hlb
    clear hq hlb
    gi_wp2_with fail
    refine wpIn_region_by (Nm6 X (.slice (some ⟨kg, koff, none⟩) qs.length qc) (.int .i64 i) (.agg #[.slice A cells.length ca, .slice B knobs.length cb, .int .i64 wt]) (.agg #[.int .i64 i, .int .i64 x, .int .i64 y, .int .i64 z, .int .u8 t, .int .u8 c]) (.int .i64 x'.val) (.tuple #[.agg #[.int .i64 q.x, .int .i64 q.y, .int .i64 q.z], .bool lb]) (.agg #[.int .i64 q.x, .int .i64 q.y, .int .i64 q.z]) #[.int .i64 q.x, .int .i64 q.y, .int .i64 q.z] T kg (koff + i * 3) lb) (by kernel_rfl) (by kernel_rfl) (by kernel_rfl) (fun us => ?_) ⟨?_, ?_, ?_, ?_, ?_, ?_, ?_, ?_, ?_, ?_, ?_, ?_, ?_, ?_, trivial⟩ ?_
    · exact ⟨Owns.start (Ext.refl X).drew, (nofun), (nofun), (nofun), (nofun), (nofun), (nofun), (nofun), (nofun), (nofun), (nofun), (nofun), (nofun), (nofun), (nofun), (nofun)⟩
    · intro L us wx K a ha hp hd hun hI hK
      have HX := hI.o.e
      have bb := (HC1.out.ext HX).cell
      clear hp HX
      replace hd := Lib.hid hd
      simp only [putAll, Act.put, List.setIfInBounds_toArray, List.set_cons_succ, List.set_cons_zero, Nat.reduceAdd] at ha
      subst ha
      simp only [Act.put, List.setIfInBounds_toArray, List.set_cons_succ, List.set_cons_zero] at hK
      go_simp
      refine hK _ _ ?_
      refine ⟨?_, ?_, ?_, ?_, ?_, ?_, ?_, ?_, ?_, ?_, ?_, ?_, ?_, ?_, ?_, ?_⟩
      all_goals (first | exact hI.o.pure rfl _ | exact hI.f0 | exact hI.f1 | exact hI.f2 | exact hI.f3 | exact hI.f4 | exact hI.f5 | exact hI.f6 | exact hI.f7 | exact hI.f8 | exact hI.f9 | exact hI.f10 | exact hI.f11 | exact hI.f12 | exact hI.f13 | exact hI.g11 | exact fun _ => rfl | skip)
    · intro L us wx K a ha hp hd hun hI hK
      have HX := hI.o.e
      skip
      clear hp HX
      replace hd := Lib.hid hd
      simp only [putAll, Act.put, List.setIfInBounds_toArray, List.set_cons_succ, List.set_cons_zero, Nat.reduceAdd] at ha
      subst ha
      simp only [Act.put, List.setIfInBounds_toArray, List.set_cons_succ, List.set_cons_zero] at hK
      go_simp
      refine hK _ _ ?_
      refine ⟨?_, ?_, ?_, ?_, ?_, ?_, ?_, ?_, ?_, ?_, ?_, ?_, ?_, ?_, ?_, ?_⟩
      all_goals (first | exact hI.o.pure rfl _ | exact hI.f0 | exact hI.f1 | exact hI.f2 | exact hI.f3 | exact hI.f4 | exact hI.f5 | exact hI.f6 | exact hI.f7 | exact hI.f8 | exact hI.f9 | exact hI.f10 | exact hI.f11 | exact hI.f12 | exact hI.f13 | exact hI.g11 | exact fun _ => rfl | skip)
    · intro L us wx K a ha hp hd hun hI hK
      have HX := hI.o.e
      (have u1 := hI.f1 (hp 1 (by kernel_rfl)); have bb := (HC2.out.ext HX).cell)
      clear hp HX
      replace hd := Lib.hid hd
      simp only [putAll, Act.put, List.setIfInBounds_toArray, List.set_cons_succ, List.set_cons_zero, Nat.reduceAdd, u1] at ha
      subst ha
      simp only [Act.put, List.setIfInBounds_toArray, List.set_cons_succ, List.set_cons_zero] at hK
      go_simp
      refine hK _ _ ?_
      refine ⟨?_, ?_, ?_, ?_, ?_, ?_, ?_, ?_, ?_, ?_, ?_, ?_, ?_, ?_, ?_, ?_⟩
      all_goals (first | exact hI.o.pure rfl _ | exact hI.f0 | exact hI.f1 | exact hI.f2 | exact hI.f3 | exact hI.f4 | exact hI.f5 | exact hI.f6 | exact hI.f7 | exact hI.f8 | exact hI.f9 | exact hI.f10 | exact hI.f11 | exact hI.f12 | exact hI.f13 | exact hI.g11 | exact fun _ => rfl | skip)
    · intro L us wx K a ha hp hd hun hI hK
      have HX := hI.o.e
      (have u1 := hI.f0 (hp 0 (by kernel_rfl)); have u2 := hI.f2 (hp 2 (by kernel_rfl)))
      clear hp HX
      replace hd := Lib.hid hd
      simp only [putAll, Act.put, List.setIfInBounds_toArray, List.set_cons_succ, List.set_cons_zero, Nat.reduceAdd, u1, u2] at ha
      subst ha
      simp only [Act.put, List.setIfInBounds_toArray, List.set_cons_succ, List.set_cons_zero] at hK
      go_simp
      refine hK _ _ ?_
      refine ⟨?_, ?_, ?_, ?_, ?_, ?_, ?_, ?_, ?_, ?_, ?_, ?_, ?_, ?_, ?_, ?_⟩
      all_goals (first | exact hI.o.pure rfl _ | exact hI.f0 | exact hI.f1 | exact hI.f2 | exact hI.f3 | exact hI.f4 | exact hI.f5 | exact hI.f6 | exact hI.f7 | exact hI.f8 | exact hI.f9 | exact hI.f10 | exact hI.f11 | exact hI.f12 | exact hI.f13 | exact hI.g11 | exact fun _ => rfl | skip)
    · intro L us wx K a ha hp hd hun hI hK
      have HX := hI.o.e
      (have u1 := hI.f3 (hp 3 (by kernel_rfl)); have b0 := HX.cell HD0.out; have b1 := HX.cell HD1.out; have b2 := HX.cell HD2.out)
      clear hp HX
      replace hd := Lib.hid hd
      simp only [putAll, Act.put, List.setIfInBounds_toArray, List.set_cons_succ, List.set_cons_zero, Nat.reduceAdd, u1] at ha
      subst ha
      simp only [Act.put, List.setIfInBounds_toArray, List.set_cons_succ, List.set_cons_zero] at hK
      go_simp
      refine hK _ _ ?_
      refine ⟨?_, ?_, ?_, ?_, ?_, ?_, ?_, ?_, ?_, ?_, ?_, ?_, ?_, ?_, ?_, ?_⟩
      all_goals (first | exact hI.o.pure rfl _ | exact hI.f0 | exact hI.f1 | exact hI.f2 | exact hI.f3 | exact hI.f4 | exact hI.f5 | exact hI.f6 | exact hI.f7 | exact hI.f8 | exact hI.f9 | exact hI.f10 | exact hI.f11 | exact hI.f12 | exact hI.f13 | exact hI.g11 | exact fun _ => rfl | skip)
    · intro L us wx K a ha hp hd hun hI hK
      have HX := hI.o.e
      have bb := (HC2.out.ext HX).cell
      clear hp HX
      replace hd := Lib.hid hd
      simp only [putAll, Act.put, List.setIfInBounds_toArray, List.set_cons_succ, List.set_cons_zero, Nat.reduceAdd] at ha
      subst ha
      simp only [Act.put, List.setIfInBounds_toArray, List.set_cons_succ, List.set_cons_zero] at hK
      go_simp
      refine hK _ _ ?_
      refine ⟨?_, ?_, ?_, ?_, ?_, ?_, ?_, ?_, ?_, ?_, ?_, ?_, ?_, ?_, ?_, ?_⟩
      all_goals (first | exact hI.o.pure rfl _ | exact hI.f0 | exact hI.f1 | exact hI.f2 | exact hI.f3 | exact hI.f4 | exact hI.f5 | exact hI.f6 | exact hI.f7 | exact hI.f8 | exact hI.f9 | exact hI.f10 | exact hI.f11 | exact hI.f12 | exact hI.f13 | exact hI.g11 | exact fun _ => rfl | skip)
    · intro L us wx K a ha hp hd hun hI hK
      have HX := hI.o.e
      skip
      clear hp HX
      replace hd := Lib.hid hd
      simp only [putAll, Act.put, List.setIfInBounds_toArray, List.set_cons_succ, List.set_cons_zero, Nat.reduceAdd] at ha
      subst ha
      simp only [Act.put, List.setIfInBounds_toArray, List.set_cons_succ, List.set_cons_zero] at hK
      go_simp
      refine hK _ _ ?_
      refine ⟨?_, ?_, ?_, ?_, ?_, ?_, ?_, ?_, ?_, ?_, ?_, ?_, ?_, ?_, ?_, ?_⟩
      all_goals (first | exact hI.o.pure rfl _ | exact hI.f0 | exact hI.f1 | exact hI.f2 | exact hI.f3 | exact hI.f4 | exact hI.f5 | exact hI.f6 | exact hI.f7 | exact hI.f8 | exact hI.f9 | exact hI.f10 | exact hI.f11 | exact hI.f12 | exact hI.f13 | exact hI.g11 | exact fun _ => rfl | skip)
    · intro L us wx K a ha hp hd hun hI hK
      have ua := hI.f4 (hp 4 (by kernel_rfl))
      have ub := hI.f5 (hp 5 (by kernel_rfl))
      have uc := hI.f6 (hp 6 (by kernel_rfl))
      clear hp
      replace hd := Lib.hid hd
      simp only [putAll, Act.put, List.setIfInBounds_toArray, List.set_cons_succ, List.set_cons_zero, Nat.reduceAdd, ua, ub, uc] at ha
      subst ha
      simp only [Act.put, List.setIfInBounds_toArray, List.set_cons_succ, List.set_cons_zero] at hK
      go_simp
      refine ⟨trivial, ?_⟩
      gi_at_call 61
      refine (CallsIn.inRound l (callsIn_wide.2 (LX.out _ hI.o.e))).mono ?_
      rintro e wn ⟨rfl, En⟩
      go_simp
      refine hK _ _ ?_
      refine ⟨hI.o.ext rfl _ En, ?_, ?_, ?_, ?_, ?_, ?_, ?_, ?_, ?_, ?_, ?_, ?_, ?_, ?_, ?_⟩
      all_goals (first | exact hI.f0 | exact hI.f1 | exact hI.f2 | exact hI.f3 | exact hI.f4 | exact hI.f5 | exact hI.f6 | exact hI.f7 | exact hI.f8 | exact hI.f9 | exact hI.f10 | exact hI.f11 | exact fun h h' => (hI.g11 h h').ext En | exact fun h => (hI.f12 h).ext En | exact hI.f13 | exact fun h => absurd (hd.out 12 11 h (by kernel_rfl)) (by rw [hun]; decide) | exact fun _ => rfl | skip)
    · intro L us wx K a ha hp hd hun hI hK
      have HX := hI.o.e
      have u1 := hI.f7 (hp 7 (by kernel_rfl))
      clear hp HX
      replace hd := Lib.hid hd
      simp only [putAll, Act.put, List.setIfInBounds_toArray, List.set_cons_succ, List.set_cons_zero, Nat.reduceAdd, u1] at ha
      subst ha
      simp only [Act.put, List.setIfInBounds_toArray, List.set_cons_succ, List.set_cons_zero] at hK
      go_simp
      refine hK _ _ ?_
      refine ⟨?_, ?_, ?_, ?_, ?_, ?_, ?_, ?_, ?_, ?_, ?_, ?_, ?_, ?_, ?_, ?_⟩
      all_goals (first | exact hI.o.pure rfl _ | exact hI.f0 | exact hI.f1 | exact hI.f2 | exact hI.f3 | exact hI.f4 | exact hI.f5 | exact hI.f6 | exact hI.f7 | exact hI.f8 | exact hI.f9 | exact hI.f10 | exact hI.f11 | exact hI.f12 | exact hI.f13 | exact hI.g11 | exact fun _ => rfl | skip)
    · intro L us wx K a ha hp hd hun hI hK
      have HX := hI.o.e
      have u1 := hI.f8 (hp 8 (by kernel_rfl))
      clear hp HX
      replace hd := Lib.hid hd
      simp only [putAll, Act.put, List.setIfInBounds_toArray, List.set_cons_succ, List.set_cons_zero, Nat.reduceAdd, u1] at ha
      subst ha
      simp only [Act.put, List.setIfInBounds_toArray, List.set_cons_succ, List.set_cons_zero] at hK
      go_simp
      refine hK _ _ ?_
      refine ⟨?_, ?_, ?_, ?_, ?_, ?_, ?_, ?_, ?_, ?_, ?_, ?_, ?_, ?_, ?_, ?_⟩
      all_goals (first | exact hI.o.pure rfl _ | exact hI.f0 | exact hI.f1 | exact hI.f2 | exact hI.f3 | exact hI.f4 | exact hI.f5 | exact hI.f6 | exact hI.f7 | exact hI.f8 | exact hI.f9 | exact hI.f10 | exact hI.f11 | exact hI.f12 | exact hI.f13 | exact hI.g11 | exact fun _ => rfl | skip)
    · intro L us wx K a ha hp hd hun hI hK
      have HX := hI.o.e
      have u1 := hI.f8 (hp 8 (by kernel_rfl))
      clear hp HX
      replace hd := Lib.hid hd
      simp only [putAll, Act.put, List.setIfInBounds_toArray, List.set_cons_succ, List.set_cons_zero, Nat.reduceAdd, u1] at ha
      subst ha
      simp only [Act.put, List.setIfInBounds_toArray, List.set_cons_succ, List.set_cons_zero] at hK
      go_simp
      refine hK _ _ ?_
      refine ⟨?_, ?_, ?_, ?_, ?_, ?_, ?_, ?_, ?_, ?_, ?_, ?_, ?_, ?_, ?_, ?_⟩
      all_goals (first | exact hI.o.pure rfl _ | exact hI.f0 | exact hI.f1 | exact hI.f2 | exact hI.f3 | exact hI.f4 | exact hI.f5 | exact hI.f6 | exact hI.f7 | exact hI.f8 | exact hI.f9 | exact hI.f10 | exact hI.f11 | exact hI.f12 | exact hI.f13 | exact hI.g11 | exact fun _ => rfl | skip)
    · intro L us wx K a ha hp hd hun hI hK
      clear hp
      have En := (Ext.refl wx).alloc (.cells #[.int .i64 0, .int .i64 0, .int .i64 0] 23)
      replace hd := Lib.hid hd
      simp only [putAll, Act.put, List.setIfInBounds_toArray, List.set_cons_succ, List.set_cons_zero, Nat.reduceAdd] at ha
      subst ha
      simp only [Act.put, List.setIfInBounds_toArray, List.set_cons_succ, List.set_cons_zero] at hK
      go_simp
      refine hK _ _ ?_
      refine ⟨hI.o.new hun _ En (Nat.le_refl _) (by simp [bk]), ?_, ?_, ?_, ?_, ?_, ?_, ?_, ?_, ?_, ?_, ?_, ?_, ?_, ?_, ?_⟩
      all_goals (first | exact hI.f0 | exact hI.f1 | exact hI.f2 | exact hI.f3 | exact hI.f4 | exact hI.f5 | exact hI.f6 | exact hI.f7 | exact hI.f8 | exact hI.f9 | exact hI.f10 | exact hI.f11 | exact fun h h' => (hI.g11 h h').ext En | exact fun h => (hI.f12 h).ext En | exact hI.f13 | exact fun h => absurd (hd.out 12 11 h (by kernel_rfl)) (by rw [hun]; decide) | exact fun _ => rfl | skip)
      all_goals exact fun _ _ => Blk.new _ _ _
    · intro L us wx K a ha hp hd hun hI hK
      have hL := hp 11 (by kernel_rfl)
      have ua := hI.f11 hL
      have ub := hI.f9 (hp 9 (by kernel_rfl))
      have B := hI.g11 hL hun
      obtain ⟨g, hg⟩ : ∃ g, bk (us 11) = g := ⟨_, rfl⟩
      rw [hg] at ua B
      obtain ⟨WZ, hWZ, BZ, farZ, extZ, hzZ⟩ := Blk.store3 B (.int .i64 q.x) (.int .i64 q.y) (.int .i64 q.z)
      have HextZ := Lib.hid extZ
      have bB := B.cell
      have fB := B.frozen
      clear hp farZ extZ
      replace hd := Lib.hid hd
      simp only [putAll, Act.put, List.setIfInBounds_toArray, List.set_cons_succ, List.set_cons_zero, Nat.reduceAdd, ua, ub] at ha
      subst ha
      simp only [Act.put] at hK
      go_simp
      refine hK undef _ ?_
      refine ⟨hI.o.set_ (p := 11) rfl _ rfl hL (fun W h1 h2 => HextZ.out W h1 (by rw [← hg]; exact h2)) hzZ, ?_, ?_, ?_, ?_, ?_, ?_, ?_, ?_, ?_, ?_, ?_, ?_, ?_, ?_, ?_⟩
      all_goals (first | exact hI.f0 | exact hI.f1 | exact hI.f2 | exact hI.f3 | exact hI.f4 | exact hI.f5 | exact hI.f6 | exact hI.f7 | exact hI.f8 | exact hI.f9 | exact hI.f10 | exact hI.f11 | exact hI.f13 | exact fun _ => by rw [show bk (updF us 12 _ 11) = g from hg]; exact BZ | exact fun _ h => by cases h | skip)
    · intro L us wx K a ha hp hd hun hI hK
      have HX := hI.o.e
      have u1 := hI.f10 (hp 10 (by kernel_rfl))
      clear hp HX
      replace hd := Lib.hid hd
      simp only [putAll, Act.put, List.setIfInBounds_toArray, List.set_cons_succ, List.set_cons_zero, Nat.reduceAdd, u1] at ha
      subst ha
      simp only [Act.put, List.setIfInBounds_toArray, List.set_cons_succ, List.set_cons_zero] at hK
      go_simp
      refine hK _ _ ?_
      refine ⟨?_, ?_, ?_, ?_, ?_, ?_, ?_, ?_, ?_, ?_, ?_, ?_, ?_, ?_, ?_, ?_⟩
      all_goals (first | exact hI.o.pure rfl _ | exact hI.f0 | exact hI.f1 | exact hI.f2 | exact hI.f3 | exact hI.f4 | exact hI.f5 | exact hI.f6 | exact hI.f7 | exact hI.f8 | exact hI.f9 | exact hI.f10 | exact hI.f11 | exact hI.f12 | exact hI.f13 | exact hI.g11 | exact fun _ => rfl | skip)
    intro L us wx hall hI
    have e11 := hI.f11 (hall 11 (by simp))
    have e13 := hI.f13 (hall 13 (by simp))
    have C9 := hI.f12 (hall 12 (by simp))
    have EX := hI.o.e
    have h9 := hI.o.lt 11 (by simp) (hall 11 (by simp))
    obtain ⟨g9, hg9⟩ : ∃ g, bk (us 11) = g := ⟨_, rfl⟩
    rw [hg9] at e11 C9 h9
    simp only [putAll, Act.put, List.setIfInBounds_toArray, List.set_cons_succ, List.set_cons_zero, Nat.reduceAdd, e11, e13]
    clear hall hI e11 e13 hg9
    have D1 := C1.ext EX
    have D2 := C2.ext EX
    have D3 := C3.ext EX
    have D4 := C4.ext EX
    have hE' := hE.trans EX
    have lX := C4.lt
    clear c1 c2 C1 C2 C3 C4
    have d1 := D1.cell
    have d2 := D2.cell
    have c9 := C9.cell
    cases lb
    · gi_wp2_with fail
      exact ⟨(ext_keeps EX).from _, trivial, ⟨⟨⟨⟨⟨D1, D2⟩, D3⟩, D4⟩, hE'⟩, fun y' hy' => by
        rcases List.mem_append.1 hy' with h | h
        · exact Hne.out y' h
        · rw [List.mem_singleton.1 h]
          exact hHlb.out⟩⟩
    · have f1 : IntKind.u8.wrap (x'.val : Int) = x'.val := IntWalk.u8_in _ (by have := x'.isLt; omega)
      obtain ⟨r, hr⟩ : ∃ r, nearB q (-1000) 1000 = r := ⟨_, rfl⟩
      have hVr : Brk.ok qs.length ⟨i, ⟨q.x, q.y, q.z⟩, x'.val, c⟩ = r := by rw [HVv.out q x'.val x'.isLt]; exact hr
      have HVr := Lib.hid (fun W => valid_is (A := some ⟨kg, koff, none⟩) (cap := qc) hVr W (by unfold maxLen; omega))
      have Hr := Lib.hid hr
      clear hr hVr
      obtain ⟨W8, hW8, En, BN, hz8⟩ := mk_ wx #[.int .i64 i, .int .i64 q.x, .int .i64 q.y, .int .i64 q.z, .int .u8 x'.val, .int .u8 c] 42
      have hsz : X.heap.size ≤ wx.heap.size := EX.size
      have e1 := (D1.ext En).cell
      have e2 := (D2.ext En).cell
      have en := BN.cell
      clear hz8
      gi_wp2_with fail
      refine ⟨trivial, ?_⟩
      gi_at_call 69
      refine (CallsIn.inRound l (callsIn_wide.2 (HVr.out _))).mono ?_
      rintro e W9 ⟨rfl, E9⟩
      replace BN := BN.ext E9
      replace En := En.trans E9
      have G1 := D1.ext En
      have G2 := D2.ext En
      have G3 := D3.ext En
      have G4 := D4.ext En
      have hE9 := hE'.trans En
      have hKp := ext_keeps (EX.trans En)
      clear d1 d2 c9 D1 D2 D3 D4 C9 e1 e2 en hW8 E9 h9
      obtain ⟨g8, hg8⟩ : ∃ g, wx.heap.size = g := ⟨_, rfl⟩
      rw [hg8] at BN hsz ⊢
      clear hg8 EX En
      have bn := BN.cell
      have g3 := G3.cell
      have k3 := G3.frozen
      have g4 := G4.cell
      have k4 := G4.frozen
      cases r
      · gi_wp2_with fail
        exact ⟨hKp.from _, ⟨_, ⟨G2, G3, G4⟩, pre, x', rfl, Hne.out, hHlb.out, Or.inr ⟨rfl, by rw [hHq.out]; exact Hr.out, rfl⟩⟩, hE9⟩
      · gi_wp2_with fail
        obtain ⟨V, hV, BV, CV, EV, hkV⟩ := set7 (.int .i64 i) (.int .i64 q.x) (.int .i64 q.y) (.int .i64 q.z) (.int .u8 x'.val) (.int .u8 c) (.int .i64 0) G3 G4 (by omega) hE9 (by omega) (by omega)
        have G2' : Blk V (T + 1) 42 #[.int .i64 i, .int .i64 x, .int .i64 y, .int .i64 z, .int .u8 t, .int .u8 c] := by
          rw [← hV]
          exact ((((((G2.far (by simp) _).far (by simp) _).far (by simp) _).far (by simp) _).far (by simp) _).far (by simp) _).far (by simp only [ne_eq]; omega) _
        rw [hV]
        clear hV
        exact ⟨(hKp.trans hkV).from _, ⟨_, ⟨G2', BV, CV⟩, pre, x', rfl, Hne.out, hHlb.out, Or.inl ⟨rfl, by rw [hHq.out]; exact Hr.out, by rw [hHq.out]⟩⟩, EV⟩
  case done =>
    rintro D ys X hD rfl ⟨⟨⟨⟨⟨C1, C2⟩, C3⟩, C4⟩, hE⟩, hne⟩ hKd
    obtain rfl : q = (⟨x, y, z⟩, t) := HN.out (fun m hm => hne ⟨m, hm⟩ (mem_upto _))
    rename_i K0 hK0
    refine hK0 _ _ ?_
    have c2 := C2.cell
    have c3 := C3.cell
    have f3 := C3.frozen
    have c4 := C4.cell
    have f4 := C4.frozen
    gi_wp2_with fail
    obtain ⟨V, hV, BV, CV, EV, hkV⟩ := set7 (.int .i64 i) (.int .i64 x) (.int .i64 y) (.int .i64 z) (.int .u8 t) (.int .u8 c) (.int .i64 0) C3 C4 (by omega) hE (by omega) (by omega)
    rw [hV]
    clear hV
    have hKd' := hkV.same _ _ hKd rfl
    refine ⟨by simp, .inl ⟨_, _, rfl, run_takeDeferred hKd', ?_⟩⟩
    have bV := (blk_own _ _ _ () V (V.putObj D (.deferred none)) (some D) BV (grownBy_putObj' V D _) (fun r e => by cases e; exact ⟨_, hKd', rfl⟩)).cell
    have cV := (blk_own _ _ _ () V (V.putObj D (.deferred none)) (some D) CV (grownBy_putObj' V D _) (fun r e => by cases e; exact ⟨_, hKd', rfl⟩)).cell
    refine ⟨.tuple #[.agg #[.int .i64 i, .int .i64 x, .int .i64 y, .int .i64 z, .int .u8 t, .int .u8 c], .int .i64 0], by simp [results, Try.results28, go_sem, bV, cV], rfl, Below.trans EV (belowK_b (w := w) (Nat.le_refl _) V D _ _ (by omega) hKd' rfl rfl)⟩
  case stop =>
    rintro D cd pre X hD hpre ⟨⟨q3, ⟨C2, C3, C4⟩, hc⟩, hE⟩ hKd
    obtain ⟨pre0, x0, rfl, h0, h1, hc⟩ := hc
    have hq := HM.out x0.val x0.isLt (fun m hm => h0 _ (pre_upto hpre m hm)) h1
    rcases hc with ⟨rfl, hn, rfl⟩ | ⟨rfl, hn, rfl⟩
    · rw [hn, if_pos rfl] at hq
      subst hq
      gi_wp2
      refine ⟨by simp, .inl ⟨_, _, rfl, run_takeDeferred hKd, ?_⟩⟩
      have bV := (blk_own _ _ _ () X (X.putObj D (.deferred none)) (some D) C3 (grownBy_putObj' X D _) (fun r e => by cases e; exact ⟨_, hKd, rfl⟩)).cell
      have cV := (blk_own _ _ _ () X (X.putObj D (.deferred none)) (some D) C4 (grownBy_putObj' X D _) (fun r e => by cases e; exact ⟨_, hKd, rfl⟩)).cell
      refine ⟨.tuple #[.agg #[.int .i64 i, .int .i64 (likeAt ⟨cells, knobs, wt⟩ t ⟨x, y, z⟩ x0.val).x, .int .i64 (likeAt ⟨cells, knobs, wt⟩ t ⟨x, y, z⟩ x0.val).y, .int .i64 (likeAt ⟨cells, knobs, wt⟩ t ⟨x, y, z⟩ x0.val).z, .int .u8 x0.val, .int .u8 c], .int .i64 0], by simp [results, Try.results28, go_sem, bV, cV], rfl, Below.trans hE (belowK_b (w := w) (Nat.le_refl _) X D _ _ (by omega) hKd rfl rfl)⟩
    · rw [hn, if_neg (by decide)] at hq
      subst hq
      have c2 := C2.cell
      have c3 := C3.cell
      have f3 := C3.frozen
      have c4 := C4.cell
      have f4 := C4.frozen
      gi_wp2_with fail
      obtain ⟨V, hV, BV, CV, EV, hkV⟩ := set7 (.int .i64 i) (.int .i64 x) (.int .i64 y) (.int .i64 z) (.int .u8 t) (.int .u8 c) (.int .i64 0) C3 C4 (by omega) hE (by omega) (by omega)
      rw [hV]
      clear hV
      have hKd' := hkV.same _ _ hKd rfl
      refine ⟨by simp, .inl ⟨_, _, rfl, run_takeDeferred hKd', ?_⟩⟩
      have bV := (blk_own _ _ _ () V (V.putObj D (.deferred none)) (some D) BV (grownBy_putObj' V D _) (fun r e => by cases e; exact ⟨_, hKd', rfl⟩)).cell
      have cV := (blk_own _ _ _ () V (V.putObj D (.deferred none)) (some D) CV (grownBy_putObj' V D _) (fun r e => by cases e; exact ⟨_, hKd', rfl⟩)).cell
      refine ⟨.tuple #[.agg #[.int .i64 i, .int .i64 x, .int .i64 y, .int .i64 z, .int .u8 t, .int .u8 c], .int .i64 0], by simp [results, Try.results28, go_sem, bV, cV], rfl, Below.trans EV (belowK_b (w := w) (Nat.le_refl _) V D _ _ (by omega) hKd' rfl rfl)⟩
end Go.Proofs.Ytenigkngmdofiaa

namespace Go.Proofs.Ytenigkngmdofiaa
open Go.RowKit

theorem sameK_sub {a b : List Knb} (h : a.length = b.length) : sameK a b = subK a b := by
  rw [sameK, decide_eq_true h, Bool.true_and]
theorem rLike_c : RLikeOk := by
  intro qs QA qc i k p hi w hk hf x y z bc bt n hbt hn hp
  obtain ⟨A, ca, B, cb⟩ := p
  have hpok : Pt.ok ⟨x, y, z⟩ := hp.ok (by omega)
  have hat := likeAt_in hf bt n hp
  have hok0 : Pt.ok ⟨0, 0, 0⟩ := by
    unfold Pt.ok CB
    simp
  have hw0 := (head_in hf bt hp).ok (by omega)
  have hf0 : (ptAt (sortP (placeP k.cells n ⟨0, 0, 0⟩)) 0).ok := (head_in hf n (B := 0) (p := ⟨0, 0, 0⟩) (by unfold Pt.in_; simp)).ok (by omega)
  have haok : (likeAt k bt ⟨x, y, z⟩ n).ok := hat.ok (by omega)
  obtain ⟨cells, knobs, wt⟩ := k
  have hcp : 0 < cells.length := hf.pos
  have hcl : cells.length ≤ 24 := hf.len
  have hkl : knobs.length ≤ 48 := hf.klen
  have hcok : ∀ q ∈ cells, q.ok := hf.cok
  have hkok : ∀ q ∈ knobs, q.fine := hf.kok
  have e : likeB ⟨cells, knobs, wt⟩ bt ⟨x, y, z⟩ n = (eqC (sortP (placeP cells n (likeAt ⟨cells, knobs, wt⟩ bt ⟨x, y, z⟩ n))) (sortP (placeP cells bt ⟨x, y, z⟩)) && sameK (placeK knobs n (likeAt ⟨cells, knobs, wt⟩ bt ⟨x, y, z⟩ n)) (placeK knobs bt ⟨x, y, z⟩)) := by
    rw [sameK_sub (by rw [placeK_len, placeK_len])]
    rfl
  unfold RLikePost
  rw [e]
  exact rLike_w QA qs.length qc i x y z bc bt n cells.length knobs.length (likeAt ⟨cells, knobs, wt⟩ bt ⟨x, y, z⟩ n) (sortP (placeP cells bt ⟨x, y, z⟩)) (sortP (placeP cells n ⟨0, 0, 0⟩)) (sortP (placeP cells n (likeAt ⟨cells, knobs, wt⟩ bt ⟨x, y, z⟩ n))) (placeK knobs bt ⟨x, y, z⟩) (placeK knobs n (likeAt ⟨cells, knobs, wt⟩ bt ⟨x, y, z⟩ n)) _ _ w hn
    hcp (by rw [sortP_len, placeP_len]) (by rw [sortP_len, placeP_len]) (by rw [sortP_len, placeP_len]) (placeK_len ..) (placeK_len ..) rfl hw0 hf0 rfl rfl
    (fun W EW => rPlaced_c qs QA qc i cells knobs wt A ca B cb hi bt x y z bc W (hk.ext EW) hcp (by omega) hcok hbt hpok)
    (fun W EW => rPlaced_c qs QA qc i cells knobs wt A ca B cb hi n 0 0 0 bc W (hk.ext EW) hcp (by omega) hcok hn hok0)
    (fun W EW => rPlaced_c qs QA qc i cells knobs wt A ca B cb hi n _ _ _ bc W (hk.ext EW) hcp (by omega) hcok hn haok)
    (fun W EW => rKnobbed_c qs QA qc i cells knobs wt A ca B cb hi bt x y z bc W (hk.ext EW) (by omega) hkok hbt hpok)
    (fun W EW => rKnobbed_c qs QA qc i cells knobs wt A ca B cb hi n _ _ _ bc W (hk.ext EW) (by omega) hkok hn haok)
end Go.Proofs.Ytenigkngmdofiaa

namespace Go.Proofs.Ytenigkngmdofiaa
open Go.RowKit

def IntsZ (w : World) (A : Option Addr) (cap : Nat) (l : List Int) : Prop := SliceIs w A l.length cap 1 (l.map fun n => [.int .i64 n])
theorem IntsZ.ext {w w' : World} {A : Option Addr} {cap : Nat} {l : List Int} (h : IntsZ w A cap l) (e : Ext w w') : IntsZ w' A cap l := SliceIs.ext h e
theorem IntsZ.len {w : World} {A : Option Addr} {cap : Nat} {l : List Int} (h : IntsZ w A cap l) : l.length ≤ maxLen := Nat.le_trans h.le h.small
theorem IntsZ.at_ {w : World} {A : Option Addr} {cap : Nat} {l : List Int} (h : IntsZ w A cap l) {k : Nat} (hk : k < l.length) :
    ∃ b off p, A = some ⟨b, off, none⟩ ∧ l[k]? = some p ∧ b < w.heap.size ∧ w.cell? ⟨b, off + k, none⟩ = some (.int .i64 p) := by
  obtain ⟨b, off, hA, hb, hc⟩ := SliceIs.cells h (by omega)
  have hget : l[k]? = some l[k] := List.getElem?_eq_getElem hk
  have hr : (l.map fun n => [Value.int .i64 n])[k]? = some [.int .i64 l[k]] := by rw [List.getElem?_map, hget]; rfl
  have := hc k _ hr 0 _ rfl
  rw [Nat.mul_one, Nat.add_zero] at this
  exact ⟨b, off, l[k], hA, hget, hb, this⟩
def intAt (l : List Int) (k : Nat) : Int := l.getD k 0
theorem intAt_eq {l : List Int} {k : Nat} {p : Int} (h : l[k]? = some p) : intAt l k = p := by simp [intAt, h]
def eqI (a b : List Int) : Bool := decide (a.length = b.length) && allR a.length fun i => intAt a i == intAt b i
theorem eqI_iff {a b : List Int} : eqI a b = true ↔ a = b := by
  unfold eqI
  rw [Bool.and_eq_true, decide_eq_true_eq]
  constructor
  · rintro ⟨h1, h2⟩
    refine List.ext_getElem h1 fun i hi hj => ?_
    have := allR_at h2 hi
    unfold intAt at this
    simpa [hi, hj] using this
  · rintro rfl
    exact ⟨rfl, allR_good fun j _ => by simp⟩
theorem eqI_len {a b : List Int} (h : ¬ a.length = b.length) : eqI a b = false := by rw [eqI, decide_eq_false h]; rfl
theorem eqI_bad {a b : List Int} {k : Nat} (hk : k < a.length) (h : (intAt a k == intAt b k) = false) : eqI a b = false := by rw [eqI, allR_bad hk h, Bool.and_false]
theorem eqI_good {a b : List Int} (hl : a.length = b.length) (h : ∀ j, j < a.length → (intAt a j == intAt b j) = true) : eqI a b = true := by rw [eqI, decide_eq_true hl, allR_good h]; rfl
set_option maxHeartbeats 1600000 in
theorem rSameInts_c (A B : Option Addr) (ca cb : Nat) (a b : List Int) (w : World) (ha : IntsZ w A ca a) (hb : IntsZ w B cb b) :
    Calls Try.prog 22 #[.slice A a.length ca, .slice B b.length cb] w fun e w' => e = .returned (.bool (eqI a b)) ∧ Ext w w' := by
  have hl1 : a.length ≤ 9223372036854775807 := by have := ha.len; unfold maxLen at this; omega
  have hl2 : b.length ≤ 9223372036854775807 := by have := hb.len; unfold maxLen at this; omega
  by_cases hlen : a.length = b.length
  rotate_left
  · have Hv := Lib.hid (eqI_len hlen)
    have h1 : ((a.length : Int) != b.length) = true := by rw [bne_iff_ne]; omega
    have h2 : (a.length != b.length) = true := by rw [bne_iff_ne]; omega
    go_enter Try.func22, Try.ntmps22
    go_wp2_with fail
    go_ret
    exact ⟨by rw [Hv.out]; rfl, Ext.refl w⟩
  obtain ⟨n, hn⟩ : ∃ n, a.length = n := ⟨_, rfl⟩
  have hm : b.length = n := by omega
  rw [hn, hm]
  have Hn := Lib.hid hn
  have Hm := Lib.hid hm
  rw [hn] at hl1
  clear hlen hl2 hn hm
  go_enter Try.func22, Try.ntmps22
  go_wp2_with fail
  go_loopw [5] (fun i wr => ∃ k : Nat, k ≤ n ∧ i = .int .i64 k ∧ Ext w wr ∧ Hid (∀ j, j < k → (intAt a j == intAt b j) = true)) (fun i _ => n - (intOf i).toNat)
  case atStart => exact ⟨0, by omega, rfl, Ext.refl w, Lib.hid (fun j hj => by omega)⟩
  case round =>
    obtain ⟨k, hk, rfl, E, Hj⟩ := hrel
    by_cases hlt : k < n
    · obtain ⟨g, off, p, rfl, hp, hg, c0⟩ := (ha.ext E).at_ (k := k) (by rw [Hn.out]; exact hlt)
      obtain ⟨g', off', q, rfl, hq, hg', e0⟩ := (hb.ext E).at_ (k := k) (by rw [Hm.out]; exact hlt)
      have Hp := Lib.hid (intAt_eq hp)
      have Hq := Lib.hid (intAt_eq hq)
      clear hp hq
      have i1 : (0 : Int) ≤ k := by omega
      have i2 : (k : Int) < n := by omega
      go_upto_region 6 with (fail)
      refine wp_region_grow (by kernel_rfl) (by kernel_rfl) ?_
      repeat (go_big_quiet_step (fail))
      refine wpQuiet_nil ?_
      intro W3 hW3
      have E3 : Ext wr W3 := by
        obtain ⟨x, rfl⟩ := hW3
        exact (Ext.refl _).grow x
      clear hW3
      obtain ⟨hcW3, hfW3, hzW3⟩ := ext_facts E3
      replace E := E.trans E3
      clear hcW3 hfW3 hzW3 E3 c0 e0
      by_cases hpq : p = q
      rotate_left
      · have Hr := Lib.hid (show (p == q) = false by simpa using hpq)
        have hb1 : (p != q) = true := by simpa using hpq
        have Hv := Lib.hid (eqI_bad (a := a) (b := b) (k := k) (by rw [Hn.out]; exact hlt) (by rw [Hp.out, Hq.out]; exact Hr.out))
        go_wp2_with fail
        go_ret
        exact ⟨by rw [Hv.out]; rfl, E⟩
      · have Hr := Lib.hid (show (p == q) = true by simpa using hpq)
        have hb1 : (p != q) = false := by simpa using hpq
        clear hpq
        go_wp2_with fail
        go_roundw
        case rel => exact ⟨k + 1, by omega, by go_num, E, Lib.hid (fun j hj => by
          rcases Nat.lt_or_ge j k with h' | h'
          · exact Hj.out j h'
          · obtain rfl : j = k := by omega
            rw [Hp.out, Hq.out]
            exact Hr.out)⟩
        case measure => simp only [intOf]; omega
    · obtain rfl : n = k := by omega
      have Hv := Lib.hid (eqI_good (a := a) (b := b) (by rw [Hn.out, Hm.out]) (by rw [Hn.out]; exact Hj.out))
      go_wp2_with fail
      go_ret
      exact ⟨by rw [Hv.out]; rfl, E⟩
end Go.Proofs.Ytenigkngmdofiaa

namespace Go.Proofs.Ytenigkngmdofiaa
open Go.RowKit

def IntsPost (l : List Int) (e0 : Int) (w : World) (e : Ending) (w' : World) : Prop := ∃ A cap, e = .returned (.tuple #[.slice A l.length cap, .int .i64 e0]) ∧ IntsZ w' A cap l ∧ Ext w w'
theorem slice_nil (w : World) (sz : Nat) : SliceIs w none 0 0 sz [] := ⟨rfl, Nat.le_refl _, Nat.zero_le _, by simp, fun h => by omega⟩
def symsZ (k : Knd) : List Int := ((upto 24).filter fun x => likeB k 0 ⟨0, 0, 0⟩ x.val).map fun x => (x.val : Int)
theorem symsZ_v (k : Knd) : (symsOf k (upto 24)).map (fun v => [v]) = (symsZ k).map fun n => [.int .i64 n] := by
  unfold symsOf symsZ
  rw [List.map_map, List.map_map]
  rfl
theorem symsZ_len (k : Knd) : (symsZ k).length = symN k (upto 24) := by
  unfold symsZ symN
  rw [List.length_map]
theorem ints_of_sym {k : Knd} {w : World} {e : Ending} {w' : World} (h : SymPost k w e w') : IntsPost (symsZ k) 0 w e w' := by
  obtain ⟨A, cap, h1, h2, h3⟩ := h
  refine ⟨A, cap, by rw [symsZ_len]; exact h1, ?_, h3⟩
  unfold IntsZ
  rw [← symsZ_v, symsZ_len]
  exact h2
theorem sym_any (cells : List Pt) (knobs : List Knb) (wt : Int) (A : Option Addr) (ca : Nat) (B : Option Addr) (cb : Nat) (w : World) (hc : Cells w A ca cells) (hn : Knobs w B cb knobs) :
    ∃ (l : List Int) (e0 : Int), (∀ W, Ext w W → Calls Try.prog 20 #[.agg #[.slice A cells.length ca, .slice B knobs.length cb, .int .i64 wt]] W (IntsPost l e0 W)) ∧
      (∀ W, Ext w W → Calls Try.prog 21 #[.agg #[.slice A cells.length ca, .slice B knobs.length cb, .int .i64 wt]] W (IntsPost l e0 W)) := by
  cases hv : Knd.valid ⟨cells, knobs, wt⟩
  · have nil : ∀ (W : World) (e : Ending) (w' : World), (e = .returned (.tuple #[.slice none 0 0, .int .i64 10]) ∧ Ext W w') → IntsPost [] 10 W e w' := fun W e w' h => ⟨none, 0, h.1, slice_nil _ _, h.2⟩
    exact ⟨[], 10, fun W E => (Symmetries_bad cells knobs wt A ca B cb W (hc.ext E) (hn.ext E) 10 (kindErr_bad hv) (by decide)).mono (nil W), fun W E => (rSymmetries_bad cells knobs wt A ca B cb W (hc.ext E) (hn.ext E) hv).mono (nil W)⟩
  · have hf := Knd.fine_of hv hn.2
    exact ⟨symsZ ⟨cells, knobs, wt⟩, 0, fun W E => (Symmetries_ok cells knobs wt A ca B cb W (hc.ext E) (hn.ext E) (kindErr_good hv) hf).mono fun _ _ h => ints_of_sym h,
      fun W E => (rSymmetries_ok rLike_c cells knobs wt A ca B cb W (hc.ext E) (hn.ext E) hv hf).mono fun _ _ h => ints_of_sym h⟩
/-- A list in new memory that may be written. -/
def NewPts (l : List Pt) (e0 : Int) (w : World) (e : Ending) (w' : World) : Prop := ∃ A cap, e = .returned (.tuple #[.slice A l.length cap, .int .i64 e0]) ∧ l.length ≤ cap ∧ cap ≤ maxLen ∧ (0 < l.length → ∃ g, A = some ⟨g, 0, none⟩ ∧ w.heap.size ≤ g ∧ RowX w' g 23 (l.map Pt.cs)) ∧ Ext w w'
def NewKnbs (l : List Knb) (e0 : Int) (w : World) (e : Ending) (w' : World) : Prop := ∃ A cap, e = .returned (.tuple #[.slice A l.length cap, .int .i64 e0]) ∧ l.length ≤ cap ∧ cap ≤ maxLen ∧ (0 < l.length → ∃ g, A = some ⟨g, 0, none⟩ ∧ w.heap.size ≤ g ∧ RowX w' g 68 (l.map Knb.cs)) ∧ Ext w w'
/-- A list that is only read; its block is new. -/
def ReadKnbs (l : List Knb) (e0 : Int) (w : World) (e : Ending) (w' : World) : Prop := ∃ A cap, e = .returned (.tuple #[.slice A l.length cap, .int .i64 e0]) ∧ SliceIs w' A l.length cap 5 (l.map Knb.cs) ∧ (∀ q, A = some q → w.heap.size ≤ q.block) ∧ Ext w w'
theorem NewPts.slice {l : List Pt} {w : World} {A : Option Addr} {cap : Nat} {w' : World} (h1 : l.length ≤ cap) (h2 : cap ≤ maxLen) (h : 0 < l.length → ∃ g, A = some ⟨g, 0, none⟩ ∧ w.heap.size ≤ g ∧ RowX w' g 23 (l.map Pt.cs)) : SliceIs w' A l.length cap 3 (l.map Pt.cs) := by
  refine ⟨List.length_map _, h1, h2, pts_wide l, fun hn => ?_⟩
  obtain ⟨g, rfl, -, X⟩ := h hn
  exact (X.slice (pts_wide l) (List.length_map _) h1 h2).cells hn
section
variable (qs qs' : List (Knd × KAt)) (A : Option Addr) (ca : Nat) (B : Option Addr) (cb : Nat) (w : World) (ha : Kinds w A ca qs) (hb : Kinds w B cb qs') (he : qs.map (·.1) = qs'.map (·.1)) (kd x y z t c : Int) (hby : Brk.byte ⟨kd, ⟨x, y, z⟩, t, c⟩)
include ha hb he hby
omit hb in
theorem asked_both (h : askedErr (qs.map (·.1)) [⟨kd, ⟨x, y, z⟩, t, c⟩] = 0) : ∃ (i tn : Nat) (k : Knd) (p p' : KAt), kd = i ∧ t = tn ∧ tn < 24 ∧ qs[i]? = some (k, p) ∧ qs'[i]? = some (k, p') ∧ k.Fine ∧ Pt.in_ 1000 ⟨x, y, z⟩ := by
  obtain ⟨i, k, p, h1, h2, h3, h4, h5⟩ := asked_kind ha h
  have h6 := congrArg (fun l => l[i]?) he
  simp only [List.getElem?_map, h2, Option.map_some] at h6
  obtain ⟨q, hq, e⟩ := Option.map_eq_some_iff.1 h6.symm
  obtain ⟨k', p'⟩ := q
  simp only at e
  subst e
  have := hby.1.1
  simp only at this h1 h5
  exact ⟨i, t.toNat, k', p, p', h1, by omega, by omega, h2, hq, h3, near_in' h4⟩
theorem cells_any : ∃ (l : List Pt) (e0 : Int), l.length ≤ 1000 ∧ (∀ W, Ext w W → Calls Try.prog 23 #[.slice A qs.length ca, .agg #[.int .i64 kd, .int .i64 x, .int .i64 y, .int .i64 z, .int .u8 t, .int .u8 c]] W (NewPts l e0 W)) ∧
    (∀ W, Ext w W → Calls Try.prog 24 #[.slice B qs'.length cb, .agg #[.int .i64 kd, .int .i64 x, .int .i64 y, .int .i64 z, .int .u8 t, .int .u8 c]] W (NewPts l e0 W)) := by
  by_cases h : askedErr (qs.map (·.1)) [⟨kd, ⟨x, y, z⟩, t, c⟩] = 0
  · have h' : askedErr (qs'.map (·.1)) [⟨kd, ⟨x, y, z⟩, t, c⟩] = 0 := by rw [← he]; exact h
    obtain ⟨i, tn, k, p, p', rfl, rfl, ht, hi, hi', hf, hp⟩ := asked_both qs qs' A ca w ha he kd x y z t c hby h
    have hpo := hp.ok (by omega)
    have hl : (sortP (placeP k.cells tn ⟨x, y, z⟩)).length = k.cells.length := by rw [sortP_len, placeP_len]
    have key : ∀ (W : World) (e : Ending) (w' : World), CellsRes (sortP (placeP k.cells tn ⟨x, y, z⟩)) k.cells.length W e w' → NewPts (sortP (placeP k.cells tn ⟨x, y, z⟩)) 0 W e w' := fun W e w' ⟨g, cap, h1, h2, h3, h4, h5, h6⟩ =>
      ⟨some ⟨g, 0, none⟩, cap, by rw [hl]; exact h2, by rw [hl]; exact h3, h4, fun _ => ⟨g, rfl, h1, h5⟩, h6⟩
    exact ⟨_, 0, by rw [hl]; exact Nat.le_trans hf.len (by omega), fun W E => (Cells_ok qs A ca W (ha.ext E) i k p hi hf x y z c tn hby h ht hpo).mono (key W), fun W E => (rCells_ok qs' B cb W (hb.ext E) i k p' hi' hf x y z c tn h' ht hpo).mono (key W)⟩
  · have h' : askedErr (qs'.map (·.1)) [⟨kd, ⟨x, y, z⟩, t, c⟩] = askedErr (qs.map (·.1)) [⟨kd, ⟨x, y, z⟩, t, c⟩] := by rw [← he]
    have nil : ∀ (W : World) (e : Ending) (w' : World), (e = .returned (.tuple #[.slice none 0 0, .int .i64 (askedErr (qs.map (·.1)) [⟨kd, ⟨x, y, z⟩, t, c⟩])]) ∧ Ext W w') → NewPts [] (askedErr (qs.map (·.1)) [⟨kd, ⟨x, y, z⟩, t, c⟩]) W e w' := fun W e w' h => ⟨none, 0, h.1, Nat.le_refl _, Nat.zero_le _, (fun h0 => by cases h0), h.2⟩
    exact ⟨[], _, by simp, fun W E => (Cells_bad qs A ca W (ha.ext E) kd x y z t c _ hby rfl h).mono (nil W), fun W E => (rCells_bad qs' B cb W (hb.ext E) kd x y z t c _ h' h).mono (nil W)⟩
theorem knobs_any : ∃ (l : List Knb) (e0 : Int), l.length ≤ 1000 ∧ (∀ W, Ext w W → Calls Try.prog 26 #[.slice A qs.length ca, .agg #[.int .i64 kd, .int .i64 x, .int .i64 y, .int .i64 z, .int .u8 t, .int .u8 c]] W (NewKnbs l e0 W)) ∧
    (∀ W, Ext w W → Calls Try.prog 27 #[.slice B qs'.length cb, .agg #[.int .i64 kd, .int .i64 x, .int .i64 y, .int .i64 z, .int .u8 t, .int .u8 c]] W (ReadKnbs l e0 W)) := by
  by_cases h : askedErr (qs.map (·.1)) [⟨kd, ⟨x, y, z⟩, t, c⟩] = 0
  · have h' : askedErr (qs'.map (·.1)) [⟨kd, ⟨x, y, z⟩, t, c⟩] = 0 := by rw [← he]; exact h
    obtain ⟨i, tn, k, p, p', rfl, rfl, ht, hi, hi', hf, hp⟩ := asked_both qs qs' A ca w ha he kd x y z t c hby h
    have hpo := hp.ok (by omega)
    have hl : (placeK k.knobs tn ⟨x, y, z⟩).length = k.knobs.length := placeK_len ..
    refine ⟨_, 0, by rw [hl]; exact Nat.le_trans hf.klen (by omega), fun W E => (Knobs_ok qs A ca W (ha.ext E) i k p hi hf x y z c tn hby h ht hpo).mono fun e w' ⟨g, cap, h1, h2, h3, h4, h5, h6⟩ =>
      ⟨some ⟨g, 0, none⟩, cap, by rw [hl]; exact h2, by rw [hl]; exact h3, h4, fun _ => ⟨g, rfl, h1, h5⟩, h6⟩, fun W E => (rKnobs_ok qs' B cb W (hb.ext E) i k p' hi' hf x y z c tn h' ht hpo).mono fun e w' ⟨RA, cap, h2, h3, h4, h6⟩ => ⟨RA, cap, by rw [hl]; exact h2, by rw [hl]; exact h3, h4, h6⟩⟩
  · have h' : askedErr (qs'.map (·.1)) [⟨kd, ⟨x, y, z⟩, t, c⟩] = askedErr (qs.map (·.1)) [⟨kd, ⟨x, y, z⟩, t, c⟩] := by rw [← he]
    exact ⟨[], _, by simp, fun W E => (Knobs_bad qs A ca W (ha.ext E) kd x y z t c _ hby rfl h).mono fun e w' h => ⟨none, 0, h.1, Nat.le_refl _, Nat.zero_le _, (fun h0 => by cases h0), h.2⟩,
      fun W E => (rKnobs_bad qs' B cb W (hb.ext E) kd x y z t c _ h' h).mono fun e w' h => ⟨none, 0, h.1, slice_nil _ _, (fun q hq => by cases hq), h.2⟩⟩
theorem normal_any : ∃ (n1 n2 n3 n4 n5 n6 e0 : Int), (∀ W, Ext w W → Calls Try.prog 28 #[.slice A qs.length ca, .agg #[.int .i64 kd, .int .i64 x, .int .i64 y, .int .i64 z, .int .u8 t, .int .u8 c]] W fun e w' => e = .returned (.tuple #[.agg #[.int .i64 n1, .int .i64 n2, .int .i64 n3, .int .i64 n4, .int .u8 n5, .int .u8 n6], .int .i64 e0]) ∧ Ext W w') ∧
    (∀ W, Ext w W → Calls Try.prog 29 #[.slice B qs'.length cb, .agg #[.int .i64 kd, .int .i64 x, .int .i64 y, .int .i64 z, .int .u8 t, .int .u8 c]] W fun e w' => e = .returned (.tuple #[.agg #[.int .i64 n1, .int .i64 n2, .int .i64 n3, .int .i64 n4, .int .u8 n5, .int .u8 n6], .int .i64 e0]) ∧ Ext W w') := by
  by_cases h : askedErr (qs.map (·.1)) [⟨kd, ⟨x, y, z⟩, t, c⟩] = 0
  · have h' : askedErr (qs'.map (·.1)) [⟨kd, ⟨x, y, z⟩, t, c⟩] = 0 := by rw [← he]; exact h
    obtain ⟨i, tn, k, p, p', rfl, rfl, ht, hi, hi', hf, hp⟩ := asked_both qs qs' A ca w ha he kd x y z t c hby h
    exact ⟨_, _, _, _, _, _, _, fun W E => Normal_ok qs A ca W (ha.ext E) i k p hi hf x y z c tn hby h ht hp, fun W E => rNormal_ok rLike_c qs' B cb W (hb.ext E) i k p' hi' hf x y z c tn h' ht hp⟩
  · have h' : askedErr (qs'.map (·.1)) [⟨kd, ⟨x, y, z⟩, t, c⟩] = askedErr (qs.map (·.1)) [⟨kd, ⟨x, y, z⟩, t, c⟩] := by rw [← he]
    exact ⟨_, _, _, _, _, _, _, fun W E => Normal_bad qs A ca W (ha.ext E) kd x y z t c _ hby rfl h, fun W E => rNormal_bad qs' B cb W (hb.ext E) kd x y z t c _ h' h⟩
end
end Go.Proofs.Ytenigkngmdofiaa
