/- like of the reference, walked over contracts of Placed and Knobbed. Conditions: what these contracts ask. -/
import Derived.Test.YtenigkngmdofiaaLm5

namespace Go.Proofs.Ytenigkngmdofiaa
open Go.RowKit

/-- Rows in a block that a slice points to. -/
def RowV (w : World) (v : Value) (n : Nat) (l : List Pt) : Prop := ∃ cp, v = .slice (some ⟨bk v, 0, none⟩) n cp ∧ n ≤ cp ∧ cp ≤ maxLen ∧ RowX w (bk v) 23 (l.map Pt.cs)
theorem RowV.ext {w w' : World} {v : Value} {n : Nat} {l : List Pt} (h : RowV w v n l) (E : Ext w w') : RowV w' v n l := by
  obtain ⟨cp, h1, h2, h3, h4⟩ := h
  exact ⟨cp, h1, h2, h3, h4.ext E⟩
theorem RowV.farB {w w' : World} {v : Value} {n g : Nat} {l : List Pt} (h : RowV w v n l) (hf : ∀ k t cs, k ≠ g → Blk w k t cs → Blk w' k t cs) (hn : bk v ≠ g) : RowV w' v n l := by
  obtain ⟨cp, h1, h2, h3, ex, h4⟩ := h
  exact ⟨cp, h1, h2, h3, ex, hf _ _ _ hn h4⟩
theorem RowX.far {w : World} {g : Nat} {t : TypeId} {rows : List (List Value)} (h : RowX w g t rows) {p : Addr} (hp : g ≠ p.block) (u : Value) : RowX (w.setCell p u) g t rows := by
  obtain ⟨ex, hb⟩ := h
  exact ⟨ex, hb.far hp u⟩
/-- The first row of cells. -/
theorem rowX_cell {w : World} {g : Nat} {l : List Pt} (h : RowX w g 23 (l.map Pt.cs)) (hp : 0 < l.length) : w.cell? ⟨g, 0, none⟩ = some (.int .i64 (ptAt l 0).x) ∧ w.cell? ⟨g, 1, none⟩ = some (.int .i64 (ptAt l 0).y) ∧ w.cell? ⟨g, 2, none⟩ = some (.int .i64 (ptAt l 0).z) := by
  have h0 : l[0]? = some (ptAt l 0) := by
    rw [ptAt_eq (List.getElem?_eq_getElem hp)]
    exact List.getElem?_eq_getElem hp
  have hr : (l.map Pt.cs)[0]? = some (Pt.cs (ptAt l 0)) := by
    rw [List.getElem?_map, h0]
    rfl
  have hw : ∀ r ∈ l.map Pt.cs, r.length = 3 := fun r h => by
    obtain ⟨p, _, rfl⟩ := List.mem_map.1 h
    rfl
  have a0 := h.cell hw hr (j := 0) rfl
  have a1 := h.cell hw hr (j := 1) rfl
  have a2 := h.cell hw hr (j := 2) rfl
  simp only [Nat.zero_mul, Nat.zero_add] at a0 a1 a2
  exact ⟨a0, a1, a2⟩
theorem pts_wide' (l : List Pt) : ∀ r ∈ l.map Pt.cs, r.length = 3 := fun r h => by
  obtain ⟨p, _, rfl⟩ := List.mem_map.1 h
  rfl
theorem set6' {W w : World} {g : Nat} {t : TypeId} {a b c d e f : Value} (v1 v2 v3 v4 v5 v6 : Value) (h : Blk W g t #[a, b, c, d, e, f]) (E : Ext w W) (hg : w.heap.size ≤ g) :
    ∃ V, (((((W.setCell ⟨g, 0, none⟩ v1).setCell ⟨g, 1, none⟩ v2).setCell ⟨g, 2, none⟩ v3).setCell ⟨g, 3, none⟩ v4).setCell ⟨g, 4, none⟩ v5).setCell ⟨g, 5, none⟩ v6 = V ∧ Blk V g t #[v1, v2, v3, v4, v5, v6] ∧ Ext w V :=
  ⟨_, rfl, (((((h.set_ 0 v1).set_ 1 v2).set_ 2 v3).set_ 3 v4).set_ 4 v5).set_ 5 v6, (((((E.setCell hg v1).setCell hg v2).setCell hg v3).setCell hg v4).setCell hg v5).setCell hg v6⟩
def ptV (p : Pt) : Value := .agg #[.int .i64 p.x, .int .i64 p.y, .int .i64 p.z]
def ptC (p : Pt) : Array Value := #[.int .i64 p.x, .int .i64 p.y, .int .i64 p.z]
/-- What is known in the region that takes the first cells. -/
structure Lk2 (W0 : World) (vQ v1 v6 : Value) (n : Nat) (L1 L2 : List Pt) (L : Nat → Bool) (us : Nat → Value) (w : World) : Prop where
  o : Owns [2, 7, 10, 11] W0 L us w
  f0 : L 0 = true → us 0 = vQ
  f1 : L 1 = true → us 1 = v1
  f2 : L 2 = true → RowV w (us 2) n L2
  f3 : L 3 = true → us 3 = .pointer (some ⟨bk (us 2), 0, none⟩)
  f4 : L 4 = true → us 4 = ptV (ptAt L2 0)
  f5 : L 5 = true → us 5 = vQ
  f6 : L 6 = true → us 6 = v6
  f7 : L 7 = true → RowV w (us 7) n L1
  f8 : L 8 = true → us 8 = .pointer (some ⟨bk (us 7), 0, none⟩)
  f9 : L 9 = true → us 9 = ptV (ptAt L1 0)
  f10 : L 10 = true → us 10 = .pointer (some ⟨bk (us 10), 0, none⟩)
  g10 : L 10 = true → L 12 = false → Blk w (bk (us 10)) 23 (ptC ⟨0, 0, 0⟩)
  f11 : L 11 = true → us 11 = .pointer (some ⟨bk (us 11), 0, none⟩)
  g11 : L 11 = true → L 13 = false → Blk w (bk (us 11)) 23 (ptC ⟨0, 0, 0⟩)
  f12 : L 12 = true → Blk w (bk (us 10)) 23 (ptC (ptAt L2 0))
  f13 : L 13 = true → Blk w (bk (us 11)) 23 (ptC (ptAt L1 0))
/-- Knobs that a slice points to. -/
def KV (w : World) (v : Value) (n : Nat) (l : List Knb) : Prop := ∃ A cp, v = .slice A n cp ∧ SliceIs w A n cp 5 (l.map Knb.cs)
theorem KV.ext {w w' : World} {v : Value} {n : Nat} {l : List Knb} (h : KV w v n l) (E : Ext w w') : KV w' v n l := by
  obtain ⟨A, cp, h1, h2⟩ := h
  exact ⟨A, cp, h1, h2.ext E⟩
/-- What is known in the region that compares. -/
structure Lk4 (w0 W5 : World) (S : Nat) (vQ vC vB : Value) (aC : Array Value) (n1 n2 : Nat) (L1 L3 : List Pt) (K1 K2 : List Knb) (r s : Bool) (L : Nat → Bool) (us : Nat → Value) (w : World) : Prop where
  e : Ext w0 w
  x : L 17 = false → Ext W5 w
  f0 : L 0 = true → us 0 = vC
  f1 : L 1 = true → us 1 = vQ
  f2 : L 2 = true → us 2 = vC
  f3 : L 3 = true → L 17 = false → RowV w (us 3) n1 L3
  f4 : L 4 = true → us 4 = vQ
  f5 : L 5 = true → us 5 = vB
  f6 : L 6 = true → L 17 = false → RowV w (us 6) n1 L1
  f7 : L 7 = true → us 7 = .bool r
  f8 : L 8 = true → us 8 = .bool r
  f9 : L 9 = true → r = true → us 9 = vQ
  f10 : L 10 = true → r = true → us 10 = vC
  f11 : L 11 = true → r = true → L 17 = false → KV w (us 11) n2 K2
  f12 : L 12 = true → r = true → us 12 = vQ
  f13 : L 13 = true → r = true → us 13 = vB
  f14 : L 14 = true → r = true → L 17 = false → KV w (us 14) n2 K1
  f15 : L 15 = true → r = true → us 15 = .bool s
  f16 : L 16 = true → us 16 = .bool (r && s)
  f17 : L 17 = true → Blk w (S + 1) 42 aC
  f18 : L 18 = true → us 18 = .bool (r && s)
/-- The posts of Placed and Knobbed. -/
def RCP (l : List Pt) (n : Nat) (w : World) (e : Ending) (w' : World) : Prop := ∃ g cap, w.heap.size ≤ g ∧ e = .returned (.slice (some ⟨g, 0, none⟩) n cap) ∧ n ≤ cap ∧ cap ≤ maxLen ∧ RowX w' g 23 (l.map Pt.cs) ∧ Ext w w'
def RKP (l : List Knb) (n : Nat) (w : World) (e : Ending) (w' : World) : Prop := ∃ A cap, e = .returned (.slice A n cap) ∧ SliceIs w' A n cap 5 (l.map Knb.cs) ∧ (∀ q, A = some q → w.heap.size ≤ q.block) ∧ Ext w w'
set_option maxRecDepth 100000 in
set_option maxHeartbeats 40000000 in
theorem rLike_w (QA : Option Addr) (nq qc : Nat) (i : Nat) (x y z bc : Int) (bt n n1 n2 : Nat) (at_ : Pt) (L1 L2 L3 : List Pt) (K1 K2 : List Knb) (r s : Bool) (w : World) (hn : n < 24)
    (hcp : 0 < n1) (hl1 : L1.length = n1) (hl2 : L2.length = n1) (hl3 : L3.length = n1) (hk1 : K1.length = n2) (hk2 : K2.length = n2)
    (hsub : subP (ptAt L1 0) (ptAt L2 0) = at_) (hw0 : (ptAt L1 0).ok) (hf0 : (ptAt L2 0).ok) (hr : eqC L3 L1 = r) (hs : sameK K2 K1 = s)
    (P1 : ∀ W, Ext w W → Calls Try.prog 66 #[.slice QA nq qc, .agg #[.int .i64 i, .int .i64 x, .int .i64 y, .int .i64 z, .int .u8 bt, .int .u8 bc]] W (RCP L1 n1 W))
    (P2 : ∀ W, Ext w W → Calls Try.prog 66 #[.slice QA nq qc, .agg #[.int .i64 i, .int .i64 0, .int .i64 0, .int .i64 0, .int .u8 n, .int .u8 bc]] W (RCP L2 n1 W))
    (P3 : ∀ W, Ext w W → Calls Try.prog 66 #[.slice QA nq qc, .agg #[.int .i64 i, .int .i64 at_.x, .int .i64 at_.y, .int .i64 at_.z, .int .u8 n, .int .u8 bc]] W (RCP L3 n1 W))
    (Q1 : ∀ W, Ext w W → Calls Try.prog 68 #[.slice QA nq qc, .agg #[.int .i64 i, .int .i64 x, .int .i64 y, .int .i64 z, .int .u8 bt, .int .u8 bc]] W (RKP K1 n2 W))
    (Q2 : ∀ W, Ext w W → Calls Try.prog 68 #[.slice QA nq qc, .agg #[.int .i64 i, .int .i64 at_.x, .int .i64 at_.y, .int .i64 at_.z, .int .u8 n, .int .u8 bc]] W (RKP K2 n2 W)) :
    Calls Try.prog 62 #[.slice QA nq qc, .agg #[.int .i64 i, .int .i64 x, .int .i64 y, .int .i64 z, .int .u8 bt, .int .u8 bc], .int .i64 n] w fun e w' =>
      e = .returned (.tuple #[.agg #[.int .i64 i, .int .i64 at_.x, .int .i64 at_.y, .int .i64 at_.z, .int .u8 n, .int .u8 bc], .bool (r && s)]) ∧ Ext w w' := by
  have HP3 := Lib.hid P3
  have HQ1 := Lib.hid Q1
  have HQ2 := Lib.hid Q2
  have Hl3 := Lib.hid hl3
  have Hk1 := Lib.hid hk1
  have Hk2 := Lib.hid hk2
  have Hr := Lib.hid hr
  have Hs := Lib.hid hs
  have x1 : IntKind.i64.wrap ((ptAt L1 0).x - (ptAt L2 0).x) = at_.x := by
    rw [← hsub]
    unfold Pt.ok CB at hw0 hf0
    exact IntWalk.i64_in _ (by omega)
  have x2 : IntKind.i64.wrap ((ptAt L1 0).y - (ptAt L2 0).y) = at_.y := by
    rw [← hsub]
    unfold Pt.ok CB at hw0 hf0
    exact IntWalk.i64_in _ (by omega)
  have x3 : IntKind.i64.wrap ((ptAt L1 0).z - (ptAt L2 0).z) = at_.z := by
    rw [← hsub]
    unfold Pt.ok CB at hw0 hf0
    exact IntWalk.i64_in _ (by omega)
  clear P3 Q1 Q2 hl3 hk1 hk2 hr hs hw0 hf0
  have HP1 := Lib.hid P1
  have HP2 := Lib.hid P2
  have Hsub := Lib.hid hsub
  have Hl1 := Lib.hid hl1
  have Hl2 := Lib.hid hl2
  clear P1 P2 hsub hl1 hl2
  have f1 : IntKind.u8.wrap (n : Int) = n := IntWalk.u8_in _ (by omega)
  obtain ⟨W1, hW1, E1, B1, hz1⟩ := mk_ w #[.int .i64 i, .int .i64 x, .int .i64 y, .int .i64 z, .int .u8 bt, .int .u8 bc] 42
  obtain ⟨W2, hW2, E2, B2, hz2⟩ := mk_ W1 #[.int .i64 0, .int .i64 0, .int .i64 0, .int .i64 0, .int .u8 0, .int .u8 0] 42
  rw [hz1] at B2
  have BB := B1.ext E2
  have b1 := BB.cell
  obtain ⟨W3, hW3, E3, B3, hz3⟩ := mk_ W2 #[.int .i64 i, .int .i64 0, .int .i64 0, .int .i64 0, .int .u8 n, .int .u8 bc] 42
  rw [hz2, hz1] at B3
  have HW3 := Lib.hid hW3
  clear hW3
  go_enter Try.func62, Try.ntmps62
  go_upto_region 2 with (fail)
  rw [HW3.out]
  have E := (E1.trans E2).trans E3
  replace BB := BB.ext E3
  have BR := B2.ext E3
  clear hW1 hW2 hz1 hz2 hz3 HW3 B1 B2 b1 E1 E2 E3
  obtain ⟨S, hS⟩ : ∃ S, w.heap.size = S := ⟨_, rfl⟩
  rw [hS] at BB BR B3 ⊢
  have HS := Lib.hid hS
  clear hS
  have HE := Lib.hid E
  have HBB := Lib.hid BB
  have HB3 := Lib.hid B3
  have i1 : (0 : Int) < n1 := by omega
  clear E BB B3
  refine wp_region_by (Lk2 W3 (.slice QA nq qc) (.agg #[.int .i64 i, .int .i64 0, .int .i64 0, .int .i64 0, .int .u8 n, .int .u8 bc]) (.agg #[.int .i64 i, .int .i64 x, .int .i64 y, .int .i64 z, .int .u8 bt, .int .u8 bc]) n1 L1 L2) (by kernel_rfl) (by kernel_rfl) (by kernel_rfl) (fun us => ?_) ⟨?_, ?_, ?_, ?_, ?_, ?_, ?_, ?_, ?_, ?_, ?_, ?_, ?_, ?_, trivial⟩ ?_
  · exact ⟨Owns.start (Ext.refl W3).drew, (nofun), (nofun), (nofun), (nofun), (nofun), (nofun), (nofun), (nofun), (nofun), (nofun), (nofun), (nofun), (nofun), (nofun), (nofun), (nofun)⟩
  · intro L us wx K a ha hp hd hun hI hK
    clear hp
    replace hd := Lib.hid hd
    simp only [putAll, Act.put, List.setIfInBounds_toArray, List.set_cons_succ, List.set_cons_zero, Nat.reduceAdd] at ha
    subst ha
    simp only [Act.put, List.setIfInBounds_toArray, List.set_cons_succ, List.set_cons_zero] at hK
    go_simp
    refine hK _ _ ?_
    refine ⟨?_, ?_, ?_, ?_, ?_, ?_, ?_, ?_, ?_, ?_, ?_, ?_, ?_, ?_, ?_, ?_, ?_⟩
    all_goals (first | exact hI.o.pure rfl _ | exact hI.f0 | exact hI.f1 | exact hI.f2 | exact hI.f3 | exact hI.f4 | exact hI.f5 | exact hI.f6 | exact hI.f7 | exact hI.f8 | exact hI.f9 | exact hI.f10 | exact hI.g10 | exact hI.f11 | exact hI.g11 | exact hI.f12 | exact hI.f13 | exact fun _ => rfl | skip)
  · intro L us wx K a ha hp hd hun hI hK
    clear hp
    have bb := (HB3.out.ext hI.o.e).cell
    replace hd := Lib.hid hd
    simp only [putAll, Act.put, List.setIfInBounds_toArray, List.set_cons_succ, List.set_cons_zero, Nat.reduceAdd] at ha
    subst ha
    simp only [Act.put, List.setIfInBounds_toArray, List.set_cons_succ, List.set_cons_zero] at hK
    go_simp
    refine hK _ _ ?_
    refine ⟨?_, ?_, ?_, ?_, ?_, ?_, ?_, ?_, ?_, ?_, ?_, ?_, ?_, ?_, ?_, ?_, ?_⟩
    all_goals (first | exact hI.o.pure rfl _ | exact hI.f0 | exact hI.f1 | exact hI.f2 | exact hI.f3 | exact hI.f4 | exact hI.f5 | exact hI.f6 | exact hI.f7 | exact hI.f8 | exact hI.f9 | exact hI.f10 | exact hI.g10 | exact hI.f11 | exact hI.g11 | exact hI.f12 | exact hI.f13 | exact fun _ => rfl | skip)
  · intro L us wx K a ha hp hd hun hI hK
    have ua := hI.f0 (hp 0 (by kernel_rfl))
    have ub := hI.f1 (hp 1 (by kernel_rfl))
    clear hp
    replace hd := Lib.hid hd
    simp only [putAll, Act.put, List.setIfInBounds_toArray, List.set_cons_succ, List.set_cons_zero, Nat.reduceAdd, ua, ub] at ha
    subst ha
    simp only [Act.put, List.setIfInBounds_toArray, List.set_cons_succ, List.set_cons_zero] at hK
    go_simp
    go_at_call 66
    refine (HP2.out _ (HE.out.trans hI.o.e)).mono ?_
    rintro e wn ⟨g, cp, hg, rfl, q1, q2, X, En⟩
    go_simp
    refine hK _ _ ?_
    refine ⟨hI.o.new hun _ En hg X.lt, ?_, ?_, ?_, ?_, ?_, ?_, ?_, ?_, ?_, ?_, ?_, ?_, ?_, ?_, ?_, ?_⟩
    all_goals
      (first | exact hI.f0 | exact hI.f1 | exact fun h => (hI.f2 h).ext En | exact hI.f3 | exact hI.f4 | exact hI.f5 | exact hI.f6 | exact fun h => (hI.f7 h).ext En | exact hI.f8 | exact hI.f9 | exact hI.f10 | exact fun h h' => (hI.g10 h h').ext En | exact hI.f11 | exact fun h h' => (hI.g11 h h').ext En | exact fun h => (hI.f12 h).ext En | exact fun h => (hI.f13 h).ext En | exact fun h => absurd (hd.out 3 2 h (by kernel_rfl)) (by rw [hun]; decide) | exact fun h => absurd (hd.out 8 7 h (by kernel_rfl)) (by rw [hun]; decide) | exact fun h => absurd (hd.out 12 10 h (by kernel_rfl)) (by rw [hun]; decide) | exact fun h => absurd (hd.out 13 11 h (by kernel_rfl)) (by rw [hun]; decide) | exact fun _ => rfl | skip)
    all_goals exact fun _ => ⟨cp, rfl, q1, q2, X⟩
  · intro L us wx K a ha hp hd hun hI hK
    obtain ⟨cp, ua, q1, q2, X⟩ := hI.f2 (hp 2 (by kernel_rfl))
    obtain ⟨g, hg⟩ : ∃ g, bk (us 2) = g := ⟨_, rfl⟩
    rw [hg] at ua
    clear hp
    replace hd := Lib.hid hd
    simp only [putAll, Act.put, List.setIfInBounds_toArray, List.set_cons_succ, List.set_cons_zero, Nat.reduceAdd, ua] at ha
    subst ha
    simp only [Act.put, List.setIfInBounds_toArray, List.set_cons_succ, List.set_cons_zero] at hK
    go_simp
    refine hK _ _ ?_
    refine ⟨?_, ?_, ?_, ?_, ?_, ?_, ?_, ?_, ?_, ?_, ?_, ?_, ?_, ?_, ?_, ?_, ?_⟩
    all_goals (first | exact hI.o.pure rfl _ | exact hI.f0 | exact hI.f1 | exact hI.f2 | exact hI.f3 | exact hI.f4 | exact hI.f5 | exact hI.f6 | exact hI.f7 | exact hI.f8 | exact hI.f9 | exact hI.f10 | exact hI.g10 | exact hI.f11 | exact hI.g11 | exact hI.f12 | exact hI.f13 | exact fun _ => rfl | skip)
    exact fun _ => by rw [← hg]; rfl
  · intro L us wx K a ha hp hd hun hI hK
    have hk := hp 3 (by kernel_rfl)
    obtain ⟨cp, -, q1, q2, X⟩ := hI.f2 (hd 3 2 hk (by kernel_rfl))
    have ua := hI.f3 hk
    obtain ⟨g, hg⟩ : ∃ g, bk (us 2) = g := ⟨_, rfl⟩
    rw [hg] at ua X
    obtain ⟨r0, r1, r2⟩ := rowX_cell X (by rw [Hl2.out]; exact hcp)
    clear hp
    replace hd := Lib.hid hd
    simp only [putAll, Act.put, List.setIfInBounds_toArray, List.set_cons_succ, List.set_cons_zero, Nat.reduceAdd, ua] at ha
    subst ha
    simp only [Act.put, List.setIfInBounds_toArray, List.set_cons_succ, List.set_cons_zero] at hK
    go_simp
    refine hK _ _ ?_
    refine ⟨?_, ?_, ?_, ?_, ?_, ?_, ?_, ?_, ?_, ?_, ?_, ?_, ?_, ?_, ?_, ?_, ?_⟩
    all_goals (first | exact hI.o.pure rfl _ | exact hI.f0 | exact hI.f1 | exact hI.f2 | exact hI.f3 | exact hI.f4 | exact hI.f5 | exact hI.f6 | exact hI.f7 | exact hI.f8 | exact hI.f9 | exact hI.f10 | exact hI.g10 | exact hI.f11 | exact hI.g11 | exact hI.f12 | exact hI.f13 | exact fun _ => rfl | skip)
  · intro L us wx K a ha hp hd hun hI hK
    clear hp
    replace hd := Lib.hid hd
    simp only [putAll, Act.put, List.setIfInBounds_toArray, List.set_cons_succ, List.set_cons_zero, Nat.reduceAdd] at ha
    subst ha
    simp only [Act.put, List.setIfInBounds_toArray, List.set_cons_succ, List.set_cons_zero] at hK
    go_simp
    refine hK _ _ ?_
    refine ⟨?_, ?_, ?_, ?_, ?_, ?_, ?_, ?_, ?_, ?_, ?_, ?_, ?_, ?_, ?_, ?_, ?_⟩
    all_goals (first | exact hI.o.pure rfl _ | exact hI.f0 | exact hI.f1 | exact hI.f2 | exact hI.f3 | exact hI.f4 | exact hI.f5 | exact hI.f6 | exact hI.f7 | exact hI.f8 | exact hI.f9 | exact hI.f10 | exact hI.g10 | exact hI.f11 | exact hI.g11 | exact hI.f12 | exact hI.f13 | exact fun _ => rfl | skip)
  · intro L us wx K a ha hp hd hun hI hK
    clear hp
    have bb := (HBB.out.ext hI.o.e).cell
    replace hd := Lib.hid hd
    simp only [putAll, Act.put, List.setIfInBounds_toArray, List.set_cons_succ, List.set_cons_zero, Nat.reduceAdd] at ha
    subst ha
    simp only [Act.put, List.setIfInBounds_toArray, List.set_cons_succ, List.set_cons_zero] at hK
    go_simp
    refine hK _ _ ?_
    refine ⟨?_, ?_, ?_, ?_, ?_, ?_, ?_, ?_, ?_, ?_, ?_, ?_, ?_, ?_, ?_, ?_, ?_⟩
    all_goals (first | exact hI.o.pure rfl _ | exact hI.f0 | exact hI.f1 | exact hI.f2 | exact hI.f3 | exact hI.f4 | exact hI.f5 | exact hI.f6 | exact hI.f7 | exact hI.f8 | exact hI.f9 | exact hI.f10 | exact hI.g10 | exact hI.f11 | exact hI.g11 | exact hI.f12 | exact hI.f13 | exact fun _ => rfl | skip)
  · intro L us wx K a ha hp hd hun hI hK
    have ua := hI.f5 (hp 5 (by kernel_rfl))
    have ub := hI.f6 (hp 6 (by kernel_rfl))
    clear hp
    replace hd := Lib.hid hd
    simp only [putAll, Act.put, List.setIfInBounds_toArray, List.set_cons_succ, List.set_cons_zero, Nat.reduceAdd, ua, ub] at ha
    subst ha
    simp only [Act.put, List.setIfInBounds_toArray, List.set_cons_succ, List.set_cons_zero] at hK
    go_simp
    go_at_call 66
    refine (HP1.out _ (HE.out.trans hI.o.e)).mono ?_
    rintro e wn ⟨g, cp, hg, rfl, q1, q2, X, En⟩
    go_simp
    refine hK _ _ ?_
    refine ⟨hI.o.new hun _ En hg X.lt, ?_, ?_, ?_, ?_, ?_, ?_, ?_, ?_, ?_, ?_, ?_, ?_, ?_, ?_, ?_, ?_⟩
    all_goals
      (first | exact hI.f0 | exact hI.f1 | exact fun h => (hI.f2 h).ext En | exact hI.f3 | exact hI.f4 | exact hI.f5 | exact hI.f6 | exact fun h => (hI.f7 h).ext En | exact hI.f8 | exact hI.f9 | exact hI.f10 | exact fun h h' => (hI.g10 h h').ext En | exact hI.f11 | exact fun h h' => (hI.g11 h h').ext En | exact fun h => (hI.f12 h).ext En | exact fun h => (hI.f13 h).ext En | exact fun h => absurd (hd.out 3 2 h (by kernel_rfl)) (by rw [hun]; decide) | exact fun h => absurd (hd.out 8 7 h (by kernel_rfl)) (by rw [hun]; decide) | exact fun h => absurd (hd.out 12 10 h (by kernel_rfl)) (by rw [hun]; decide) | exact fun h => absurd (hd.out 13 11 h (by kernel_rfl)) (by rw [hun]; decide) | exact fun _ => rfl | skip)
    all_goals exact fun _ => ⟨cp, rfl, q1, q2, X⟩
  · intro L us wx K a ha hp hd hun hI hK
    obtain ⟨cp, ua, q1, q2, X⟩ := hI.f7 (hp 7 (by kernel_rfl))
    obtain ⟨g, hg⟩ : ∃ g, bk (us 7) = g := ⟨_, rfl⟩
    rw [hg] at ua
    clear hp
    replace hd := Lib.hid hd
    simp only [putAll, Act.put, List.setIfInBounds_toArray, List.set_cons_succ, List.set_cons_zero, Nat.reduceAdd, ua] at ha
    subst ha
    simp only [Act.put, List.setIfInBounds_toArray, List.set_cons_succ, List.set_cons_zero] at hK
    go_simp
    refine hK _ _ ?_
    refine ⟨?_, ?_, ?_, ?_, ?_, ?_, ?_, ?_, ?_, ?_, ?_, ?_, ?_, ?_, ?_, ?_, ?_⟩
    all_goals (first | exact hI.o.pure rfl _ | exact hI.f0 | exact hI.f1 | exact hI.f2 | exact hI.f3 | exact hI.f4 | exact hI.f5 | exact hI.f6 | exact hI.f7 | exact hI.f8 | exact hI.f9 | exact hI.f10 | exact hI.g10 | exact hI.f11 | exact hI.g11 | exact hI.f12 | exact hI.f13 | exact fun _ => rfl | skip)
    exact fun _ => by rw [← hg]; rfl
  · intro L us wx K a ha hp hd hun hI hK
    have hk := hp 8 (by kernel_rfl)
    obtain ⟨cp, -, q1, q2, X⟩ := hI.f7 (hd 8 7 hk (by kernel_rfl))
    have ua := hI.f8 hk
    obtain ⟨g, hg⟩ : ∃ g, bk (us 7) = g := ⟨_, rfl⟩
    rw [hg] at ua X
    obtain ⟨r0, r1, r2⟩ := rowX_cell X (by rw [Hl1.out]; exact hcp)
    clear hp
    replace hd := Lib.hid hd
    simp only [putAll, Act.put, List.setIfInBounds_toArray, List.set_cons_succ, List.set_cons_zero, Nat.reduceAdd, ua] at ha
    subst ha
    simp only [Act.put, List.setIfInBounds_toArray, List.set_cons_succ, List.set_cons_zero] at hK
    go_simp
    refine hK _ _ ?_
    refine ⟨?_, ?_, ?_, ?_, ?_, ?_, ?_, ?_, ?_, ?_, ?_, ?_, ?_, ?_, ?_, ?_, ?_⟩
    all_goals (first | exact hI.o.pure rfl _ | exact hI.f0 | exact hI.f1 | exact hI.f2 | exact hI.f3 | exact hI.f4 | exact hI.f5 | exact hI.f6 | exact hI.f7 | exact hI.f8 | exact hI.f9 | exact hI.f10 | exact hI.g10 | exact hI.f11 | exact hI.g11 | exact hI.f12 | exact hI.f13 | exact fun _ => rfl | skip)
  · intro L us wx K a ha hp hd hun hI hK
    clear hp
    have En := (Ext.refl wx).alloc (.cells #[.int .i64 0, .int .i64 0, .int .i64 0] 23)
    replace hd := Lib.hid hd
    simp only [putAll, Act.put, List.setIfInBounds_toArray, List.set_cons_succ, List.set_cons_zero, Nat.reduceAdd] at ha
    subst ha
    simp only [Act.put, List.setIfInBounds_toArray, List.set_cons_succ, List.set_cons_zero] at hK
    go_simp
    refine hK _ _ ?_
    refine ⟨hI.o.new hun _ En (Nat.le_refl _) (by simp [bk]), ?_, ?_, ?_, ?_, ?_, ?_, ?_, ?_, ?_, ?_, ?_, ?_, ?_, ?_, ?_, ?_⟩
    all_goals
      (first | exact hI.f0 | exact hI.f1 | exact fun h => (hI.f2 h).ext En | exact hI.f3 | exact hI.f4 | exact hI.f5 | exact hI.f6 | exact fun h => (hI.f7 h).ext En | exact hI.f8 | exact hI.f9 | exact hI.f10 | exact fun h h' => (hI.g10 h h').ext En | exact hI.f11 | exact fun h h' => (hI.g11 h h').ext En | exact fun h => (hI.f12 h).ext En | exact fun h => (hI.f13 h).ext En | exact fun h => absurd (hd.out 3 2 h (by kernel_rfl)) (by rw [hun]; decide) | exact fun h => absurd (hd.out 8 7 h (by kernel_rfl)) (by rw [hun]; decide) | exact fun h => absurd (hd.out 12 10 h (by kernel_rfl)) (by rw [hun]; decide) | exact fun h => absurd (hd.out 13 11 h (by kernel_rfl)) (by rw [hun]; decide) | exact fun _ => rfl | skip)
    all_goals exact fun _ _ => Blk.new _ _ _
  · intro L us wx K a ha hp hd hun hI hK
    clear hp
    have En := (Ext.refl wx).alloc (.cells #[.int .i64 0, .int .i64 0, .int .i64 0] 23)
    replace hd := Lib.hid hd
    simp only [putAll, Act.put, List.setIfInBounds_toArray, List.set_cons_succ, List.set_cons_zero, Nat.reduceAdd] at ha
    subst ha
    simp only [Act.put, List.setIfInBounds_toArray, List.set_cons_succ, List.set_cons_zero] at hK
    go_simp
    refine hK _ _ ?_
    refine ⟨hI.o.new hun _ En (Nat.le_refl _) (by simp [bk]), ?_, ?_, ?_, ?_, ?_, ?_, ?_, ?_, ?_, ?_, ?_, ?_, ?_, ?_, ?_, ?_⟩
    all_goals
      (first | exact hI.f0 | exact hI.f1 | exact fun h => (hI.f2 h).ext En | exact hI.f3 | exact hI.f4 | exact hI.f5 | exact hI.f6 | exact fun h => (hI.f7 h).ext En | exact hI.f8 | exact hI.f9 | exact hI.f10 | exact fun h h' => (hI.g10 h h').ext En | exact hI.f11 | exact fun h h' => (hI.g11 h h').ext En | exact fun h => (hI.f12 h).ext En | exact fun h => (hI.f13 h).ext En | exact fun h => absurd (hd.out 3 2 h (by kernel_rfl)) (by rw [hun]; decide) | exact fun h => absurd (hd.out 8 7 h (by kernel_rfl)) (by rw [hun]; decide) | exact fun h => absurd (hd.out 12 10 h (by kernel_rfl)) (by rw [hun]; decide) | exact fun h => absurd (hd.out 13 11 h (by kernel_rfl)) (by rw [hun]; decide) | exact fun _ => rfl | skip)
    all_goals exact fun _ _ => Blk.new _ _ _
  · intro L us wx K a ha hp hd hun hI hK
    have hL := hp 10 (by kernel_rfl)
    have ua := hI.f10 hL
    have ub : us 4 = .agg #[.int .i64 (ptAt L2 0).x, .int .i64 (ptAt L2 0).y, .int .i64 (ptAt L2 0).z] := hI.f4 (hp 4 (by kernel_rfl))
    have B : Blk wx (bk (us 10)) 23 #[.int .i64 0, .int .i64 0, .int .i64 0] := hI.g10 hL hun
    have hfar := fun (i : Nat) (hi : [2, 7, 10, 11].contains i = true) (hip : i ≠ 10) (h : L i = true) => hI.o.far hi (by rfl : [2, 7, 10, 11].contains 10 = true) hip h hL
    obtain ⟨g, hg⟩ : ∃ g, bk (us 10) = g := ⟨_, rfl⟩
    rw [hg] at ua B hfar
    obtain ⟨WZ, hWZ, BZ, farZ, extZ, hzZ⟩ := Blk.store3 B (.int .i64 (ptAt L2 0).x) (.int .i64 (ptAt L2 0).y) (.int .i64 (ptAt L2 0).z)
    have Hfar := Lib.hid hfar
    have HfarZ := Lib.hid farZ
    have HextZ := Lib.hid extZ
    have bB := B.cell
    have fB := B.frozen
    clear hp hfar farZ extZ
    replace hd := Lib.hid hd
    simp only [putAll, Act.put, List.setIfInBounds_toArray, List.set_cons_succ, List.set_cons_zero, Nat.reduceAdd, ua, ub] at ha
    subst ha
    simp only [Act.put] at hK
    go_simp
    refine hK undef _ ?_
    refine ⟨hI.o.set_ (p := 10) rfl _ rfl hL (fun W h1 h2 => HextZ.out W h1 (by rw [← hg]; exact h2)) hzZ, ?_, ?_, ?_, ?_, ?_, ?_, ?_, ?_, ?_, ?_, ?_, ?_, ?_, ?_, ?_, ?_⟩
    all_goals (first | exact hI.f0 | exact hI.f1 | exact fun h => (hI.f2 h).farB HfarZ.out (Hfar.out 2 rfl (by decide) h) | exact hI.f3 | exact hI.f4 | exact hI.f5 | exact hI.f6 | exact fun h => (hI.f7 h).farB HfarZ.out (Hfar.out 7 rfl (by decide) h) | exact hI.f8 | exact hI.f9 | exact hI.f10 | exact hI.f11 | exact fun h h' => HfarZ.out _ _ _ (Hfar.out 11 rfl (by decide) h) (hI.g11 h h') | exact fun h => HfarZ.out _ _ _ (Hfar.out 11 rfl (by decide) (hd.out 13 11 h (by kernel_rfl))) (hI.f13 h) | exact fun _ => by rw [show bk (updF us 12 _ 10) = g from hg]; exact BZ | exact fun _ h => by cases h | skip)
  · intro L us wx K a ha hp hd hun hI hK
    have hL := hp 11 (by kernel_rfl)
    have ua := hI.f11 hL
    have ub : us 9 = .agg #[.int .i64 (ptAt L1 0).x, .int .i64 (ptAt L1 0).y, .int .i64 (ptAt L1 0).z] := hI.f9 (hp 9 (by kernel_rfl))
    have B : Blk wx (bk (us 11)) 23 #[.int .i64 0, .int .i64 0, .int .i64 0] := hI.g11 hL hun
    have hfar := fun (i : Nat) (hi : [2, 7, 10, 11].contains i = true) (hip : i ≠ 11) (h : L i = true) => hI.o.far hi (by rfl : [2, 7, 10, 11].contains 11 = true) hip h hL
    obtain ⟨g, hg⟩ : ∃ g, bk (us 11) = g := ⟨_, rfl⟩
    rw [hg] at ua B hfar
    obtain ⟨WZ, hWZ, BZ, farZ, extZ, hzZ⟩ := Blk.store3 B (.int .i64 (ptAt L1 0).x) (.int .i64 (ptAt L1 0).y) (.int .i64 (ptAt L1 0).z)
    have Hfar := Lib.hid hfar
    have HfarZ := Lib.hid farZ
    have HextZ := Lib.hid extZ
    have bB := B.cell
    have fB := B.frozen
    clear hp hfar farZ extZ
    replace hd := Lib.hid hd
    simp only [putAll, Act.put, List.setIfInBounds_toArray, List.set_cons_succ, List.set_cons_zero, Nat.reduceAdd, ua, ub] at ha
    subst ha
    simp only [Act.put] at hK
    go_simp
    refine hK undef _ ?_
    refine ⟨hI.o.set_ (p := 11) rfl _ rfl hL (fun W h1 h2 => HextZ.out W h1 (by rw [← hg]; exact h2)) hzZ, ?_, ?_, ?_, ?_, ?_, ?_, ?_, ?_, ?_, ?_, ?_, ?_, ?_, ?_, ?_, ?_⟩
    all_goals (first | exact hI.f0 | exact hI.f1 | exact fun h => (hI.f2 h).farB HfarZ.out (Hfar.out 2 rfl (by decide) h) | exact hI.f3 | exact hI.f4 | exact hI.f5 | exact hI.f6 | exact fun h => (hI.f7 h).farB HfarZ.out (Hfar.out 7 rfl (by decide) h) | exact hI.f8 | exact hI.f9 | exact hI.f10 | exact hI.f11 | exact fun h h' => HfarZ.out _ _ _ (Hfar.out 10 rfl (by decide) h) (hI.g10 h h') | exact fun h => HfarZ.out _ _ _ (Hfar.out 10 rfl (by decide) (hd.out 12 10 h (by kernel_rfl))) (hI.f12 h) | exact fun _ => by rw [show bk (updF us 13 _ 11) = g from hg]; exact BZ | exact fun _ h => by cases h | skip)
  intro L us wx hall hI
  have e10 := hI.f10 (hall 10 (by simp))
  have e11 := hI.f11 (hall 11 (by simp))
  have C9 : Blk wx (bk (us 10)) 23 #[.int .i64 (ptAt L2 0).x, .int .i64 (ptAt L2 0).y, .int .i64 (ptAt L2 0).z] := hI.f12 (hall 12 (by simp))
  have C10 : Blk wx (bk (us 11)) 23 #[.int .i64 (ptAt L1 0).x, .int .i64 (ptAt L1 0).y, .int .i64 (ptAt L1 0).z] := hI.f13 (hall 13 (by simp))
  have EX := hI.o.e
  have h9 := hI.o.lt 10 (by simp) (hall 10 (by simp))
  have h10 := hI.o.lt 11 (by simp) (hall 11 (by simp))
  obtain ⟨g9, hg9⟩ : ∃ g, bk (us 10) = g := ⟨_, rfl⟩
  obtain ⟨g10, hg10⟩ : ∃ g, bk (us 11) = g := ⟨_, rfl⟩
  rw [hg9] at e10 C9 h9
  rw [hg10] at e11 C10 h10
  simp only [putAll, Act.put, List.setIfInBounds_toArray, List.set_cons_succ, List.set_cons_zero, Nat.reduceAdd, e10, e11]
  clear hall hI e10 e11 hg9 hg10
  have E := HE.out.trans EX
  have BB := HBB.out.ext EX
  have B3 := HB3.out.ext EX
  have B6 := BR.ext EX
  have c9 := C9.cell
  have c10 := C10.cell
  have b3 := B3.cell
  have f3 := B3.frozen
  clear EX h9 h10 C9 C10 BR
  go_upto_region 4 with (fail)
  obtain ⟨W5, hW5, BC, far5, ext5, hz5⟩ : ∃ W5, ((wx.setCell ⟨S + 1 + 1, 1, none⟩ (.int .i64 at_.x)).setCell ⟨S + 1 + 1, 2, none⟩ (.int .i64 at_.y)).setCell ⟨S + 1 + 1, 3, none⟩ (.int .i64 at_.z) = W5 ∧
      Blk W5 (S + 1 + 1) 42 #[.int .i64 i, .int .i64 at_.x, .int .i64 at_.y, .int .i64 at_.z, .int .u8 n, .int .u8 bc] ∧ (∀ k t cs, k ≠ S + 1 + 1 → Blk wx k t cs → Blk W5 k t cs) ∧ Ext w W5 ∧ W5.heap.size = wx.heap.size :=
    ⟨_, rfl, ((B3.set_ 1 _).set_ 2 _).set_ 3 _, fun k t cs hk h => ((h.far hk _).far hk _).far hk _, ((E.setCell (by have := HS.out; simp only; omega) _).setCell (by have := HS.out; simp only; omega) _).setCell (by have := HS.out; simp only; omega) _, by simp [World.setCell]⟩
  rw [hW5]
  have BB5 := far5 _ _ _ (by omega) BB
  have B65 := far5 _ _ _ (by omega) B6
  have HBB5 := Lib.hid BB5
  have HBC := Lib.hid BC
  have HB65 := Lib.hid B65
  have HE5 := Lib.hid ext5
  have hSw : w.heap.size ≤ S + 1 := by have := HS.out; omega
  clear hW5 far5 hz5 E BB B3 B6 c9 c10 b3 f3 BB5 BC B65 ext5 x1 x2 x3 i1
  refine wp_region_by (Lk4 w W5 S (.slice QA nq qc) (.agg #[.int .i64 i, .int .i64 at_.x, .int .i64 at_.y, .int .i64 at_.z, .int .u8 n, .int .u8 bc]) (.agg #[.int .i64 i, .int .i64 x, .int .i64 y, .int .i64 z, .int .u8 bt, .int .u8 bc]) #[.int .i64 i, .int .i64 at_.x, .int .i64 at_.y, .int .i64 at_.z, .int .u8 n, .int .u8 bc] n1 n2 L1 L3 K1 K2 r s) (by kernel_rfl) (by kernel_rfl) (by kernel_rfl) (fun us => ?_) ⟨?_, ?_, ?_, ?_, ?_, ?_, ?_, ?_, ?_, ?_, ?_, ?_, ?_, ?_, ?_, ?_, ?_, ?_, ?_, trivial⟩ ?_
  · exact ⟨HE5.out.drew, fun _ => (Ext.refl W5).drew, (nofun), (nofun), (nofun), (nofun), (nofun), (nofun), (nofun), (nofun), (nofun), (nofun), (nofun), (nofun), (nofun), (nofun), (nofun), (nofun), (nofun), (nofun), (nofun)⟩
  · intro L us wx K a ha hp hd hun hI hK
    have h17 : L 17 = false := by
      cases h : L 17
      · rfl
      · exfalso
        have h17 := h
        have h15 := hd 17 15 h17 (by kernel_rfl)
        have h14 := hd 15 14 h15 (by kernel_rfl)
        have h11 := hd 15 11 h15 (by kernel_rfl)
        have h8 := hd 11 8 h11 (by kernel_rfl)
        have h7 := hd 8 7 h8 (by kernel_rfl)
        have h6 := hd 7 6 h7 (by kernel_rfl)
        have h3 := hd 7 3 h7 (by kernel_rfl)
        have h5 := hd 6 5 h6 (by kernel_rfl)
        have h4 := hd 6 4 h6 (by kernel_rfl)
        have h2 := hd 3 2 h3 (by kernel_rfl)
        have h1 := hd 3 1 h3 (by kernel_rfl)
        have h0 := hd 17 0 h17 (by kernel_rfl)
        have h9 := hd 11 9 h11 (by kernel_rfl)
        have h10 := hd 11 10 h11 (by kernel_rfl)
        have h12 := hd 14 12 h14 (by kernel_rfl)
        have h13 := hd 14 13 h14 (by kernel_rfl)
        rw [hun] at h0
        cases h0
    have bb := (HBC.out.ext (hI.x h17)).cell
    clear hp
    replace hd := Lib.hid hd
    simp only [putAll, Act.put, List.setIfInBounds_toArray, List.set_cons_succ, List.set_cons_zero, Nat.reduceAdd] at ha
    subst ha
    simp only [Act.put, List.setIfInBounds_toArray, List.set_cons_succ, List.set_cons_zero] at hK
    go_simp
    refine hK _ _ ?_
    refine ⟨?_, ?_, ?_, ?_, ?_, ?_, ?_, ?_, ?_, ?_, ?_, ?_, ?_, ?_, ?_, ?_, ?_, ?_, ?_, ?_, ?_⟩
    all_goals (first | exact hI.e | exact hI.x | exact hI.f0 | exact hI.f1 | exact hI.f2 | exact hI.f4 | exact hI.f5 | exact hI.f7 | exact hI.f8 | exact hI.f9 | exact hI.f10 | exact hI.f12 | exact hI.f13 | exact hI.f15 | exact hI.f16 | exact hI.f17 | exact hI.f18 | exact hI.f3 | exact hI.f6 | exact hI.f11 | exact hI.f14 | exact fun _ => rfl | exact fun _ _ => rfl | skip)
  · intro L us wx K a ha hp hd hun hI hK
    clear hp
    replace hd := Lib.hid hd
    simp only [putAll, Act.put, List.setIfInBounds_toArray, List.set_cons_succ, List.set_cons_zero, Nat.reduceAdd] at ha
    subst ha
    simp only [Act.put, List.setIfInBounds_toArray, List.set_cons_succ, List.set_cons_zero] at hK
    go_simp
    refine hK _ _ ?_
    refine ⟨?_, ?_, ?_, ?_, ?_, ?_, ?_, ?_, ?_, ?_, ?_, ?_, ?_, ?_, ?_, ?_, ?_, ?_, ?_, ?_, ?_⟩
    all_goals (first | exact hI.e | exact hI.x | exact hI.f0 | exact hI.f1 | exact hI.f2 | exact hI.f4 | exact hI.f5 | exact hI.f7 | exact hI.f8 | exact hI.f9 | exact hI.f10 | exact hI.f12 | exact hI.f13 | exact hI.f15 | exact hI.f16 | exact hI.f17 | exact hI.f18 | exact hI.f3 | exact hI.f6 | exact hI.f11 | exact hI.f14 | exact fun _ => rfl | exact fun _ _ => rfl | skip)
  · intro L us wx K a ha hp hd hun hI hK
    have h17 : L 17 = false := by
      cases h : L 17
      · rfl
      · exfalso
        have h17 := h
        have h15 := hd 17 15 h17 (by kernel_rfl)
        have h14 := hd 15 14 h15 (by kernel_rfl)
        have h11 := hd 15 11 h15 (by kernel_rfl)
        have h8 := hd 11 8 h11 (by kernel_rfl)
        have h7 := hd 8 7 h8 (by kernel_rfl)
        have h6 := hd 7 6 h7 (by kernel_rfl)
        have h3 := hd 7 3 h7 (by kernel_rfl)
        have h5 := hd 6 5 h6 (by kernel_rfl)
        have h4 := hd 6 4 h6 (by kernel_rfl)
        have h2 := hd 3 2 h3 (by kernel_rfl)
        have h1 := hd 3 1 h3 (by kernel_rfl)
        have h0 := hd 17 0 h17 (by kernel_rfl)
        have h9 := hd 11 9 h11 (by kernel_rfl)
        have h10 := hd 11 10 h11 (by kernel_rfl)
        have h12 := hd 14 12 h14 (by kernel_rfl)
        have h13 := hd 14 13 h14 (by kernel_rfl)
        rw [hun] at h2
        cases h2
    have bb := (HBC.out.ext (hI.x h17)).cell
    clear hp
    replace hd := Lib.hid hd
    simp only [putAll, Act.put, List.setIfInBounds_toArray, List.set_cons_succ, List.set_cons_zero, Nat.reduceAdd] at ha
    subst ha
    simp only [Act.put, List.setIfInBounds_toArray, List.set_cons_succ, List.set_cons_zero] at hK
    go_simp
    refine hK _ _ ?_
    refine ⟨?_, ?_, ?_, ?_, ?_, ?_, ?_, ?_, ?_, ?_, ?_, ?_, ?_, ?_, ?_, ?_, ?_, ?_, ?_, ?_, ?_⟩
    all_goals (first | exact hI.e | exact hI.x | exact hI.f0 | exact hI.f1 | exact hI.f2 | exact hI.f4 | exact hI.f5 | exact hI.f7 | exact hI.f8 | exact hI.f9 | exact hI.f10 | exact hI.f12 | exact hI.f13 | exact hI.f15 | exact hI.f16 | exact hI.f17 | exact hI.f18 | exact hI.f3 | exact hI.f6 | exact hI.f11 | exact hI.f14 | exact fun _ => rfl | exact fun _ _ => rfl | skip)
  · intro L us wx K a ha hp hd hun hI hK
    have h17 : L 17 = false := by
      cases h : L 17
      · rfl
      · exfalso
        have h17 := h
        have h15 := hd 17 15 h17 (by kernel_rfl)
        have h14 := hd 15 14 h15 (by kernel_rfl)
        have h11 := hd 15 11 h15 (by kernel_rfl)
        have h8 := hd 11 8 h11 (by kernel_rfl)
        have h7 := hd 8 7 h8 (by kernel_rfl)
        have h6 := hd 7 6 h7 (by kernel_rfl)
        have h3 := hd 7 3 h7 (by kernel_rfl)
        have h5 := hd 6 5 h6 (by kernel_rfl)
        have h4 := hd 6 4 h6 (by kernel_rfl)
        have h2 := hd 3 2 h3 (by kernel_rfl)
        have h1 := hd 3 1 h3 (by kernel_rfl)
        have h0 := hd 17 0 h17 (by kernel_rfl)
        have h9 := hd 11 9 h11 (by kernel_rfl)
        have h10 := hd 11 10 h11 (by kernel_rfl)
        have h12 := hd 14 12 h14 (by kernel_rfl)
        have h13 := hd 14 13 h14 (by kernel_rfl)
        rw [hun] at h3
        cases h3
    have ua := hI.f1 (hp 1 (by kernel_rfl))
    have ub := hI.f2 (hp 2 (by kernel_rfl))
    clear hp
    replace hd := Lib.hid hd
    simp only [putAll, Act.put, List.setIfInBounds_toArray, List.set_cons_succ, List.set_cons_zero, Nat.reduceAdd, ua, ub] at ha
    subst ha
    simp only [Act.put, List.setIfInBounds_toArray, List.set_cons_succ, List.set_cons_zero] at hK
    go_simp
    go_at_call 66
    refine (HP3.out _ (HE5.out.trans (hI.x h17))).mono ?_
    rintro e wn ⟨g, cp, hg, rfl, q1, q2, X, En⟩
    go_simp
    refine hK _ _ ?_
    refine ⟨hI.e.trans En, fun h => (hI.x h).trans En, ?_, ?_, ?_, ?_, ?_, ?_, ?_, ?_, ?_, ?_, ?_, ?_, ?_, ?_, ?_, ?_, ?_, ?_, ?_⟩
    all_goals (first | exact hI.f0 | exact hI.f1 | exact hI.f2 | exact hI.f4 | exact hI.f5 | exact hI.f7 | exact hI.f8 | exact hI.f9 | exact hI.f10 | exact hI.f12 | exact hI.f13 | exact hI.f15 | exact hI.f16 | exact hI.f18 | exact fun h h' => (hI.f3 h h').ext En | exact fun h h' => (hI.f6 h h').ext En | exact fun h h' h'' => (hI.f11 h h' h'').ext En | exact fun h h' h'' => (hI.f14 h h' h'').ext En | exact fun h => (hI.f17 h).ext En | exact fun _ => rfl | exact fun _ _ => rfl | skip)
    all_goals exact fun _ _ => ⟨cp, rfl, q1, q2, X⟩
  · intro L us wx K a ha hp hd hun hI hK
    clear hp
    replace hd := Lib.hid hd
    simp only [putAll, Act.put, List.setIfInBounds_toArray, List.set_cons_succ, List.set_cons_zero, Nat.reduceAdd] at ha
    subst ha
    simp only [Act.put, List.setIfInBounds_toArray, List.set_cons_succ, List.set_cons_zero] at hK
    go_simp
    refine hK _ _ ?_
    refine ⟨?_, ?_, ?_, ?_, ?_, ?_, ?_, ?_, ?_, ?_, ?_, ?_, ?_, ?_, ?_, ?_, ?_, ?_, ?_, ?_, ?_⟩
    all_goals (first | exact hI.e | exact hI.x | exact hI.f0 | exact hI.f1 | exact hI.f2 | exact hI.f4 | exact hI.f5 | exact hI.f7 | exact hI.f8 | exact hI.f9 | exact hI.f10 | exact hI.f12 | exact hI.f13 | exact hI.f15 | exact hI.f16 | exact hI.f17 | exact hI.f18 | exact hI.f3 | exact hI.f6 | exact hI.f11 | exact hI.f14 | exact fun _ => rfl | exact fun _ _ => rfl | skip)
  · intro L us wx K a ha hp hd hun hI hK
    have h17 : L 17 = false := by
      cases h : L 17
      · rfl
      · exfalso
        have h17 := h
        have h15 := hd 17 15 h17 (by kernel_rfl)
        have h14 := hd 15 14 h15 (by kernel_rfl)
        have h11 := hd 15 11 h15 (by kernel_rfl)
        have h8 := hd 11 8 h11 (by kernel_rfl)
        have h7 := hd 8 7 h8 (by kernel_rfl)
        have h6 := hd 7 6 h7 (by kernel_rfl)
        have h3 := hd 7 3 h7 (by kernel_rfl)
        have h5 := hd 6 5 h6 (by kernel_rfl)
        have h4 := hd 6 4 h6 (by kernel_rfl)
        have h2 := hd 3 2 h3 (by kernel_rfl)
        have h1 := hd 3 1 h3 (by kernel_rfl)
        have h0 := hd 17 0 h17 (by kernel_rfl)
        have h9 := hd 11 9 h11 (by kernel_rfl)
        have h10 := hd 11 10 h11 (by kernel_rfl)
        have h12 := hd 14 12 h14 (by kernel_rfl)
        have h13 := hd 14 13 h14 (by kernel_rfl)
        rw [hun] at h5
        cases h5
    have bb := (HBB5.out.ext (hI.x h17)).cell
    clear hp
    replace hd := Lib.hid hd
    simp only [putAll, Act.put, List.setIfInBounds_toArray, List.set_cons_succ, List.set_cons_zero, Nat.reduceAdd] at ha
    subst ha
    simp only [Act.put, List.setIfInBounds_toArray, List.set_cons_succ, List.set_cons_zero] at hK
    go_simp
    refine hK _ _ ?_
    refine ⟨?_, ?_, ?_, ?_, ?_, ?_, ?_, ?_, ?_, ?_, ?_, ?_, ?_, ?_, ?_, ?_, ?_, ?_, ?_, ?_, ?_⟩
    all_goals (first | exact hI.e | exact hI.x | exact hI.f0 | exact hI.f1 | exact hI.f2 | exact hI.f4 | exact hI.f5 | exact hI.f7 | exact hI.f8 | exact hI.f9 | exact hI.f10 | exact hI.f12 | exact hI.f13 | exact hI.f15 | exact hI.f16 | exact hI.f17 | exact hI.f18 | exact hI.f3 | exact hI.f6 | exact hI.f11 | exact hI.f14 | exact fun _ => rfl | exact fun _ _ => rfl | skip)
  · intro L us wx K a ha hp hd hun hI hK
    have h17 : L 17 = false := by
      cases h : L 17
      · rfl
      · exfalso
        have h17 := h
        have h15 := hd 17 15 h17 (by kernel_rfl)
        have h14 := hd 15 14 h15 (by kernel_rfl)
        have h11 := hd 15 11 h15 (by kernel_rfl)
        have h8 := hd 11 8 h11 (by kernel_rfl)
        have h7 := hd 8 7 h8 (by kernel_rfl)
        have h6 := hd 7 6 h7 (by kernel_rfl)
        have h3 := hd 7 3 h7 (by kernel_rfl)
        have h5 := hd 6 5 h6 (by kernel_rfl)
        have h4 := hd 6 4 h6 (by kernel_rfl)
        have h2 := hd 3 2 h3 (by kernel_rfl)
        have h1 := hd 3 1 h3 (by kernel_rfl)
        have h0 := hd 17 0 h17 (by kernel_rfl)
        have h9 := hd 11 9 h11 (by kernel_rfl)
        have h10 := hd 11 10 h11 (by kernel_rfl)
        have h12 := hd 14 12 h14 (by kernel_rfl)
        have h13 := hd 14 13 h14 (by kernel_rfl)
        rw [hun] at h6
        cases h6
    have ua := hI.f4 (hp 4 (by kernel_rfl))
    have ub := hI.f5 (hp 5 (by kernel_rfl))
    clear hp
    replace hd := Lib.hid hd
    simp only [putAll, Act.put, List.setIfInBounds_toArray, List.set_cons_succ, List.set_cons_zero, Nat.reduceAdd, ua, ub] at ha
    subst ha
    simp only [Act.put, List.setIfInBounds_toArray, List.set_cons_succ, List.set_cons_zero] at hK
    go_simp
    go_at_call 66
    refine (HP1.out _ (HE5.out.trans (hI.x h17))).mono ?_
    rintro e wn ⟨g, cp, hg, rfl, q1, q2, X, En⟩
    go_simp
    refine hK _ _ ?_
    refine ⟨hI.e.trans En, fun h => (hI.x h).trans En, ?_, ?_, ?_, ?_, ?_, ?_, ?_, ?_, ?_, ?_, ?_, ?_, ?_, ?_, ?_, ?_, ?_, ?_, ?_⟩
    all_goals (first | exact hI.f0 | exact hI.f1 | exact hI.f2 | exact hI.f4 | exact hI.f5 | exact hI.f7 | exact hI.f8 | exact hI.f9 | exact hI.f10 | exact hI.f12 | exact hI.f13 | exact hI.f15 | exact hI.f16 | exact hI.f18 | exact fun h h' => (hI.f3 h h').ext En | exact fun h h' => (hI.f6 h h').ext En | exact fun h h' h'' => (hI.f11 h h' h'').ext En | exact fun h h' h'' => (hI.f14 h h' h'').ext En | exact fun h => (hI.f17 h).ext En | exact fun _ => rfl | exact fun _ _ => rfl | skip)
    all_goals exact fun _ _ => ⟨cp, rfl, q1, q2, X⟩
  · intro L us wx K a ha hp hd hun hI hK
    have h17 : L 17 = false := by
      cases h : L 17
      · rfl
      · exfalso
        have h17 := h
        have h15 := hd 17 15 h17 (by kernel_rfl)
        have h14 := hd 15 14 h15 (by kernel_rfl)
        have h11 := hd 15 11 h15 (by kernel_rfl)
        have h8 := hd 11 8 h11 (by kernel_rfl)
        have h7 := hd 8 7 h8 (by kernel_rfl)
        have h6 := hd 7 6 h7 (by kernel_rfl)
        have h3 := hd 7 3 h7 (by kernel_rfl)
        have h5 := hd 6 5 h6 (by kernel_rfl)
        have h4 := hd 6 4 h6 (by kernel_rfl)
        have h2 := hd 3 2 h3 (by kernel_rfl)
        have h1 := hd 3 1 h3 (by kernel_rfl)
        have h0 := hd 17 0 h17 (by kernel_rfl)
        have h9 := hd 11 9 h11 (by kernel_rfl)
        have h10 := hd 11 10 h11 (by kernel_rfl)
        have h12 := hd 14 12 h14 (by kernel_rfl)
        have h13 := hd 14 13 h14 (by kernel_rfl)
        rw [hun] at h7
        cases h7
    obtain ⟨c1, ua, p1, p2, X⟩ := hI.f3 (hp 3 (by kernel_rfl)) h17
    obtain ⟨c2, ub, q1, q2, Y⟩ := hI.f6 (hp 6 (by kernel_rfl)) h17
    have S1 := RowX.slice X (pts_wide' L3) (by rw [List.length_map, Hl3.out]) p1 p2
    have S2 := RowX.slice Y (pts_wide' L1) (by rw [List.length_map, Hl1.out]) q1 q2
    obtain ⟨g1, hg1⟩ : ∃ g, bk (us 3) = g := ⟨_, rfl⟩
    obtain ⟨g2, hg2⟩ : ∃ g, bk (us 6) = g := ⟨_, rfl⟩
    rw [hg1] at ua S1
    rw [hg2] at ub S2
    have CC := rSameCells_c (some ⟨g1, 0, none⟩) (some ⟨g2, 0, none⟩) c1 c2 L3 L1 wx (by unfold Cells; rw [Hl3.out]; exact S1) (by unfold Cells; rw [Hl1.out]; exact S2)
    rw [Hl3.out, Hl1.out, Hr.out] at CC
    clear hp hg1 hg2 S1 S2 X Y p1 p2 q1 q2
    replace hd := Lib.hid hd
    simp only [putAll, Act.put, List.setIfInBounds_toArray, List.set_cons_succ, List.set_cons_zero, Nat.reduceAdd, ua, ub] at ha
    subst ha
    simp only [Act.put, List.setIfInBounds_toArray, List.set_cons_succ, List.set_cons_zero] at hK
    go_simp
    go_at_call 25
    refine CC.mono ?_
    rintro e wn ⟨rfl, En⟩
    go_simp
    refine hK _ _ ?_
    refine ⟨hI.e.trans En, fun h => (hI.x h).trans En, ?_, ?_, ?_, ?_, ?_, ?_, ?_, ?_, ?_, ?_, ?_, ?_, ?_, ?_, ?_, ?_, ?_, ?_, ?_⟩
    all_goals (first | exact hI.f0 | exact hI.f1 | exact hI.f2 | exact hI.f4 | exact hI.f5 | exact hI.f7 | exact hI.f8 | exact hI.f9 | exact hI.f10 | exact hI.f12 | exact hI.f13 | exact hI.f15 | exact hI.f16 | exact hI.f18 | exact fun h h' => (hI.f3 h h').ext En | exact fun h h' => (hI.f6 h h').ext En | exact fun h h' h'' => (hI.f11 h h' h'').ext En | exact fun h h' h'' => (hI.f14 h h' h'').ext En | exact fun h => (hI.f17 h).ext En | exact fun _ => rfl | exact fun _ _ => rfl | skip)
  · intro L us wx K a ha hp hd hun hI hK
    have ua := hI.f7 (hp 7 (by kernel_rfl))
    clear hp
    replace hd := Lib.hid hd
    simp only [putAll, Act.put, List.setIfInBounds_toArray, List.set_cons_succ, List.set_cons_zero, Nat.reduceAdd, ua] at ha
    subst ha
    simp only [Act.put, List.setIfInBounds_toArray, List.set_cons_succ, List.set_cons_zero] at hK
    go_simp
    refine hK _ _ ?_
    refine ⟨?_, ?_, ?_, ?_, ?_, ?_, ?_, ?_, ?_, ?_, ?_, ?_, ?_, ?_, ?_, ?_, ?_, ?_, ?_, ?_, ?_⟩
    all_goals (first | exact hI.e | exact hI.x | exact hI.f0 | exact hI.f1 | exact hI.f2 | exact hI.f4 | exact hI.f5 | exact hI.f7 | exact hI.f8 | exact hI.f9 | exact hI.f10 | exact hI.f12 | exact hI.f13 | exact hI.f15 | exact hI.f16 | exact hI.f17 | exact hI.f18 | exact hI.f3 | exact hI.f6 | exact hI.f11 | exact hI.f14 | exact fun _ => rfl | exact fun _ _ => rfl | skip)
  · intro L us wx K a ha hp hd hun hI hK
    have h7 := hp 8 (by kernel_rfl)
    have u8 := hI.f8 h7
    clear hp
    replace hd := Lib.hid hd
    simp only [putAll, Act.put, List.setIfInBounds_toArray, List.set_cons_succ, List.set_cons_zero, Nat.reduceAdd, u8] at ha
    subst ha
    simp only [Act.put, List.setIfInBounds_toArray, List.set_cons_succ, List.set_cons_zero] at hK
    cases r
    · go_simp
      refine hK _ _ ?_
      refine ⟨?_, ?_, ?_, ?_, ?_, ?_, ?_, ?_, ?_, ?_, ?_, ?_, ?_, ?_, ?_, ?_, ?_, ?_, ?_, ?_, ?_⟩
      all_goals (first | exact hI.e | exact hI.x | exact hI.f0 | exact hI.f1 | exact hI.f2 | exact hI.f4 | exact hI.f5 | exact hI.f7 | exact hI.f8 | exact hI.f9 | exact hI.f10 | exact hI.f12 | exact hI.f13 | exact hI.f15 | exact hI.f16 | exact hI.f17 | exact hI.f18 | exact hI.f3 | exact hI.f6 | exact hI.f11 | exact hI.f14 | exact fun _ => rfl | exact fun _ _ => rfl | skip)
      all_goals exact fun _ h => by cases h
    · go_simp
      refine hK _ _ ?_
      refine ⟨?_, ?_, ?_, ?_, ?_, ?_, ?_, ?_, ?_, ?_, ?_, ?_, ?_, ?_, ?_, ?_, ?_, ?_, ?_, ?_, ?_⟩
      all_goals (first | exact hI.e | exact hI.x | exact hI.f0 | exact hI.f1 | exact hI.f2 | exact hI.f4 | exact hI.f5 | exact hI.f7 | exact hI.f8 | exact hI.f9 | exact hI.f10 | exact hI.f12 | exact hI.f13 | exact hI.f15 | exact hI.f16 | exact hI.f17 | exact hI.f18 | exact hI.f3 | exact hI.f6 | exact hI.f11 | exact hI.f14 | exact fun _ => rfl | exact fun _ _ => rfl | skip)
  · intro L us wx K a ha hp hd hun hI hK
    have h17 : L 17 = false := by
      cases h : L 17
      · rfl
      · exfalso
        have h17 := h
        have h15 := hd 17 15 h17 (by kernel_rfl)
        have h14 := hd 15 14 h15 (by kernel_rfl)
        have h11 := hd 15 11 h15 (by kernel_rfl)
        have h8 := hd 11 8 h11 (by kernel_rfl)
        have h7 := hd 8 7 h8 (by kernel_rfl)
        have h6 := hd 7 6 h7 (by kernel_rfl)
        have h3 := hd 7 3 h7 (by kernel_rfl)
        have h5 := hd 6 5 h6 (by kernel_rfl)
        have h4 := hd 6 4 h6 (by kernel_rfl)
        have h2 := hd 3 2 h3 (by kernel_rfl)
        have h1 := hd 3 1 h3 (by kernel_rfl)
        have h0 := hd 17 0 h17 (by kernel_rfl)
        have h9 := hd 11 9 h11 (by kernel_rfl)
        have h10 := hd 11 10 h11 (by kernel_rfl)
        have h12 := hd 14 12 h14 (by kernel_rfl)
        have h13 := hd 14 13 h14 (by kernel_rfl)
        rw [hun] at h10
        cases h10
    have h7 := hp 8 (by kernel_rfl)
    have u8 := hI.f8 h7
    have bb := (HBC.out.ext (hI.x h17)).cell
    clear hp
    replace hd := Lib.hid hd
    simp only [putAll, Act.put, List.setIfInBounds_toArray, List.set_cons_succ, List.set_cons_zero, Nat.reduceAdd, u8] at ha
    subst ha
    simp only [Act.put, List.setIfInBounds_toArray, List.set_cons_succ, List.set_cons_zero] at hK
    cases r
    · go_simp
      refine hK _ _ ?_
      refine ⟨?_, ?_, ?_, ?_, ?_, ?_, ?_, ?_, ?_, ?_, ?_, ?_, ?_, ?_, ?_, ?_, ?_, ?_, ?_, ?_, ?_⟩
      all_goals (first | exact hI.e | exact hI.x | exact hI.f0 | exact hI.f1 | exact hI.f2 | exact hI.f4 | exact hI.f5 | exact hI.f7 | exact hI.f8 | exact hI.f9 | exact hI.f10 | exact hI.f12 | exact hI.f13 | exact hI.f15 | exact hI.f16 | exact hI.f17 | exact hI.f18 | exact hI.f3 | exact hI.f6 | exact hI.f11 | exact hI.f14 | exact fun _ => rfl | exact fun _ _ => rfl | skip)
      all_goals exact fun _ h => by cases h
    · go_simp
      refine hK _ _ ?_
      refine ⟨?_, ?_, ?_, ?_, ?_, ?_, ?_, ?_, ?_, ?_, ?_, ?_, ?_, ?_, ?_, ?_, ?_, ?_, ?_, ?_, ?_⟩
      all_goals (first | exact hI.e | exact hI.x | exact hI.f0 | exact hI.f1 | exact hI.f2 | exact hI.f4 | exact hI.f5 | exact hI.f7 | exact hI.f8 | exact hI.f9 | exact hI.f10 | exact hI.f12 | exact hI.f13 | exact hI.f15 | exact hI.f16 | exact hI.f17 | exact hI.f18 | exact hI.f3 | exact hI.f6 | exact hI.f11 | exact hI.f14 | exact fun _ => rfl | exact fun _ _ => rfl | skip)
  · intro L us wx K a ha hp hd hun hI hK
    have h17 : L 17 = false := by
      cases h : L 17
      · rfl
      · exfalso
        have h17 := h
        have h15 := hd 17 15 h17 (by kernel_rfl)
        have h14 := hd 15 14 h15 (by kernel_rfl)
        have h11 := hd 15 11 h15 (by kernel_rfl)
        have h8 := hd 11 8 h11 (by kernel_rfl)
        have h7 := hd 8 7 h8 (by kernel_rfl)
        have h6 := hd 7 6 h7 (by kernel_rfl)
        have h3 := hd 7 3 h7 (by kernel_rfl)
        have h5 := hd 6 5 h6 (by kernel_rfl)
        have h4 := hd 6 4 h6 (by kernel_rfl)
        have h2 := hd 3 2 h3 (by kernel_rfl)
        have h1 := hd 3 1 h3 (by kernel_rfl)
        have h0 := hd 17 0 h17 (by kernel_rfl)
        have h9 := hd 11 9 h11 (by kernel_rfl)
        have h10 := hd 11 10 h11 (by kernel_rfl)
        have h12 := hd 14 12 h14 (by kernel_rfl)
        have h13 := hd 14 13 h14 (by kernel_rfl)
        rw [hun] at h11
        cases h11
    have h8 := hp 8 (by kernel_rfl)
    have u8 := hI.f8 h8
    have va := hI.f9 (hp 9 (by kernel_rfl))
    have vb := hI.f10 (hp 10 (by kernel_rfl))
    clear hp
    cases r
    · clear va vb
      replace hd := Lib.hid hd
      simp only [putAll, Act.put, List.setIfInBounds_toArray, List.set_cons_succ, List.set_cons_zero, Nat.reduceAdd, u8] at ha
      subst ha
      simp only [Act.put, List.setIfInBounds_toArray, List.set_cons_succ, List.set_cons_zero] at hK
      go_simp
      refine hK _ _ ?_
      refine ⟨?_, ?_, ?_, ?_, ?_, ?_, ?_, ?_, ?_, ?_, ?_, ?_, ?_, ?_, ?_, ?_, ?_, ?_, ?_, ?_, ?_⟩
      all_goals (first | exact hI.e | exact hI.x | exact hI.f0 | exact hI.f1 | exact hI.f2 | exact hI.f4 | exact hI.f5 | exact hI.f7 | exact hI.f8 | exact hI.f9 | exact hI.f10 | exact hI.f12 | exact hI.f13 | exact hI.f15 | exact hI.f16 | exact hI.f17 | exact hI.f18 | exact hI.f3 | exact hI.f6 | exact hI.f11 | exact hI.f14 | exact fun _ => rfl | exact fun _ _ => rfl | skip)
      all_goals exact fun _ h => by cases h
    · have ua := va rfl
      have ub := vb rfl
      clear va vb
      replace hd := Lib.hid hd
      simp only [putAll, Act.put, List.setIfInBounds_toArray, List.set_cons_succ, List.set_cons_zero, Nat.reduceAdd, u8, ua, ub] at ha
      subst ha
      simp only [Act.put, List.setIfInBounds_toArray, List.set_cons_succ, List.set_cons_zero] at hK
      go_simp
      go_at_call 68
      refine (HQ2.out _ (HE5.out.trans (hI.x h17))).mono ?_
      rintro e wn ⟨A, cp, rfl, S1, -, En⟩
      go_simp
      refine hK _ _ ?_
      refine ⟨hI.e.trans En, fun h => (hI.x h).trans En, ?_, ?_, ?_, ?_, ?_, ?_, ?_, ?_, ?_, ?_, ?_, ?_, ?_, ?_, ?_, ?_, ?_, ?_, ?_⟩
      all_goals (first | exact hI.f0 | exact hI.f1 | exact hI.f2 | exact hI.f4 | exact hI.f5 | exact hI.f7 | exact hI.f8 | exact hI.f9 | exact hI.f10 | exact hI.f12 | exact hI.f13 | exact hI.f15 | exact hI.f16 | exact hI.f18 | exact fun h h' => (hI.f3 h h').ext En | exact fun h h' => (hI.f6 h h').ext En | exact fun h h' h'' => (hI.f11 h h' h'').ext En | exact fun h h' h'' => (hI.f14 h h' h'').ext En | exact fun h => (hI.f17 h).ext En | exact fun _ => rfl | exact fun _ _ => rfl | skip)
      all_goals exact fun _ _ _ => ⟨A, cp, rfl, S1⟩
  · intro L us wx K a ha hp hd hun hI hK
    have h7 := hp 8 (by kernel_rfl)
    have u8 := hI.f8 h7
    clear hp
    replace hd := Lib.hid hd
    simp only [putAll, Act.put, List.setIfInBounds_toArray, List.set_cons_succ, List.set_cons_zero, Nat.reduceAdd, u8] at ha
    subst ha
    simp only [Act.put, List.setIfInBounds_toArray, List.set_cons_succ, List.set_cons_zero] at hK
    cases r
    · go_simp
      refine hK _ _ ?_
      refine ⟨?_, ?_, ?_, ?_, ?_, ?_, ?_, ?_, ?_, ?_, ?_, ?_, ?_, ?_, ?_, ?_, ?_, ?_, ?_, ?_, ?_⟩
      all_goals (first | exact hI.e | exact hI.x | exact hI.f0 | exact hI.f1 | exact hI.f2 | exact hI.f4 | exact hI.f5 | exact hI.f7 | exact hI.f8 | exact hI.f9 | exact hI.f10 | exact hI.f12 | exact hI.f13 | exact hI.f15 | exact hI.f16 | exact hI.f17 | exact hI.f18 | exact hI.f3 | exact hI.f6 | exact hI.f11 | exact hI.f14 | exact fun _ => rfl | exact fun _ _ => rfl | skip)
      all_goals exact fun _ h => by cases h
    · go_simp
      refine hK _ _ ?_
      refine ⟨?_, ?_, ?_, ?_, ?_, ?_, ?_, ?_, ?_, ?_, ?_, ?_, ?_, ?_, ?_, ?_, ?_, ?_, ?_, ?_, ?_⟩
      all_goals (first | exact hI.e | exact hI.x | exact hI.f0 | exact hI.f1 | exact hI.f2 | exact hI.f4 | exact hI.f5 | exact hI.f7 | exact hI.f8 | exact hI.f9 | exact hI.f10 | exact hI.f12 | exact hI.f13 | exact hI.f15 | exact hI.f16 | exact hI.f17 | exact hI.f18 | exact hI.f3 | exact hI.f6 | exact hI.f11 | exact hI.f14 | exact fun _ => rfl | exact fun _ _ => rfl | skip)
  · intro L us wx K a ha hp hd hun hI hK
    have h17 : L 17 = false := by
      cases h : L 17
      · rfl
      · exfalso
        have h17 := h
        have h15 := hd 17 15 h17 (by kernel_rfl)
        have h14 := hd 15 14 h15 (by kernel_rfl)
        have h11 := hd 15 11 h15 (by kernel_rfl)
        have h8 := hd 11 8 h11 (by kernel_rfl)
        have h7 := hd 8 7 h8 (by kernel_rfl)
        have h6 := hd 7 6 h7 (by kernel_rfl)
        have h3 := hd 7 3 h7 (by kernel_rfl)
        have h5 := hd 6 5 h6 (by kernel_rfl)
        have h4 := hd 6 4 h6 (by kernel_rfl)
        have h2 := hd 3 2 h3 (by kernel_rfl)
        have h1 := hd 3 1 h3 (by kernel_rfl)
        have h0 := hd 17 0 h17 (by kernel_rfl)
        have h9 := hd 11 9 h11 (by kernel_rfl)
        have h10 := hd 11 10 h11 (by kernel_rfl)
        have h12 := hd 14 12 h14 (by kernel_rfl)
        have h13 := hd 14 13 h14 (by kernel_rfl)
        rw [hun] at h13
        cases h13
    have h7 := hp 8 (by kernel_rfl)
    have u8 := hI.f8 h7
    have bb := (HBB5.out.ext (hI.x h17)).cell
    clear hp
    replace hd := Lib.hid hd
    simp only [putAll, Act.put, List.setIfInBounds_toArray, List.set_cons_succ, List.set_cons_zero, Nat.reduceAdd, u8] at ha
    subst ha
    simp only [Act.put, List.setIfInBounds_toArray, List.set_cons_succ, List.set_cons_zero] at hK
    cases r
    · go_simp
      refine hK _ _ ?_
      refine ⟨?_, ?_, ?_, ?_, ?_, ?_, ?_, ?_, ?_, ?_, ?_, ?_, ?_, ?_, ?_, ?_, ?_, ?_, ?_, ?_, ?_⟩
      all_goals (first | exact hI.e | exact hI.x | exact hI.f0 | exact hI.f1 | exact hI.f2 | exact hI.f4 | exact hI.f5 | exact hI.f7 | exact hI.f8 | exact hI.f9 | exact hI.f10 | exact hI.f12 | exact hI.f13 | exact hI.f15 | exact hI.f16 | exact hI.f17 | exact hI.f18 | exact hI.f3 | exact hI.f6 | exact hI.f11 | exact hI.f14 | exact fun _ => rfl | exact fun _ _ => rfl | skip)
      all_goals exact fun _ h => by cases h
    · go_simp
      refine hK _ _ ?_
      refine ⟨?_, ?_, ?_, ?_, ?_, ?_, ?_, ?_, ?_, ?_, ?_, ?_, ?_, ?_, ?_, ?_, ?_, ?_, ?_, ?_, ?_⟩
      all_goals (first | exact hI.e | exact hI.x | exact hI.f0 | exact hI.f1 | exact hI.f2 | exact hI.f4 | exact hI.f5 | exact hI.f7 | exact hI.f8 | exact hI.f9 | exact hI.f10 | exact hI.f12 | exact hI.f13 | exact hI.f15 | exact hI.f16 | exact hI.f17 | exact hI.f18 | exact hI.f3 | exact hI.f6 | exact hI.f11 | exact hI.f14 | exact fun _ => rfl | exact fun _ _ => rfl | skip)
  · intro L us wx K a ha hp hd hun hI hK
    have h17 : L 17 = false := by
      cases h : L 17
      · rfl
      · exfalso
        have h17 := h
        have h15 := hd 17 15 h17 (by kernel_rfl)
        have h14 := hd 15 14 h15 (by kernel_rfl)
        have h11 := hd 15 11 h15 (by kernel_rfl)
        have h8 := hd 11 8 h11 (by kernel_rfl)
        have h7 := hd 8 7 h8 (by kernel_rfl)
        have h6 := hd 7 6 h7 (by kernel_rfl)
        have h3 := hd 7 3 h7 (by kernel_rfl)
        have h5 := hd 6 5 h6 (by kernel_rfl)
        have h4 := hd 6 4 h6 (by kernel_rfl)
        have h2 := hd 3 2 h3 (by kernel_rfl)
        have h1 := hd 3 1 h3 (by kernel_rfl)
        have h0 := hd 17 0 h17 (by kernel_rfl)
        have h9 := hd 11 9 h11 (by kernel_rfl)
        have h10 := hd 11 10 h11 (by kernel_rfl)
        have h12 := hd 14 12 h14 (by kernel_rfl)
        have h13 := hd 14 13 h14 (by kernel_rfl)
        rw [hun] at h14
        cases h14
    have h8 := hp 8 (by kernel_rfl)
    have u8 := hI.f8 h8
    have va := hI.f12 (hp 12 (by kernel_rfl))
    have vb := hI.f13 (hp 13 (by kernel_rfl))
    clear hp
    cases r
    · clear va vb
      replace hd := Lib.hid hd
      simp only [putAll, Act.put, List.setIfInBounds_toArray, List.set_cons_succ, List.set_cons_zero, Nat.reduceAdd, u8] at ha
      subst ha
      simp only [Act.put, List.setIfInBounds_toArray, List.set_cons_succ, List.set_cons_zero] at hK
      go_simp
      refine hK _ _ ?_
      refine ⟨?_, ?_, ?_, ?_, ?_, ?_, ?_, ?_, ?_, ?_, ?_, ?_, ?_, ?_, ?_, ?_, ?_, ?_, ?_, ?_, ?_⟩
      all_goals (first | exact hI.e | exact hI.x | exact hI.f0 | exact hI.f1 | exact hI.f2 | exact hI.f4 | exact hI.f5 | exact hI.f7 | exact hI.f8 | exact hI.f9 | exact hI.f10 | exact hI.f12 | exact hI.f13 | exact hI.f15 | exact hI.f16 | exact hI.f17 | exact hI.f18 | exact hI.f3 | exact hI.f6 | exact hI.f11 | exact hI.f14 | exact fun _ => rfl | exact fun _ _ => rfl | skip)
      all_goals exact fun _ h => by cases h
    · have ua := va rfl
      have ub := vb rfl
      clear va vb
      replace hd := Lib.hid hd
      simp only [putAll, Act.put, List.setIfInBounds_toArray, List.set_cons_succ, List.set_cons_zero, Nat.reduceAdd, u8, ua, ub] at ha
      subst ha
      simp only [Act.put, List.setIfInBounds_toArray, List.set_cons_succ, List.set_cons_zero] at hK
      go_simp
      go_at_call 68
      refine (HQ1.out _ (HE5.out.trans (hI.x h17))).mono ?_
      rintro e wn ⟨A, cp, rfl, S1, -, En⟩
      go_simp
      refine hK _ _ ?_
      refine ⟨hI.e.trans En, fun h => (hI.x h).trans En, ?_, ?_, ?_, ?_, ?_, ?_, ?_, ?_, ?_, ?_, ?_, ?_, ?_, ?_, ?_, ?_, ?_, ?_, ?_⟩
      all_goals (first | exact hI.f0 | exact hI.f1 | exact hI.f2 | exact hI.f4 | exact hI.f5 | exact hI.f7 | exact hI.f8 | exact hI.f9 | exact hI.f10 | exact hI.f12 | exact hI.f13 | exact hI.f15 | exact hI.f16 | exact hI.f18 | exact fun h h' => (hI.f3 h h').ext En | exact fun h h' => (hI.f6 h h').ext En | exact fun h h' h'' => (hI.f11 h h' h'').ext En | exact fun h h' h'' => (hI.f14 h h' h'').ext En | exact fun h => (hI.f17 h).ext En | exact fun _ => rfl | exact fun _ _ => rfl | skip)
      all_goals exact fun _ _ _ => ⟨A, cp, rfl, S1⟩
  · intro L us wx K a ha hp hd hun hI hK
    have h17 : L 17 = false := by
      cases h : L 17
      · rfl
      · exfalso
        have h17 := h
        have h15 := hd 17 15 h17 (by kernel_rfl)
        have h14 := hd 15 14 h15 (by kernel_rfl)
        have h11 := hd 15 11 h15 (by kernel_rfl)
        have h8 := hd 11 8 h11 (by kernel_rfl)
        have h7 := hd 8 7 h8 (by kernel_rfl)
        have h6 := hd 7 6 h7 (by kernel_rfl)
        have h3 := hd 7 3 h7 (by kernel_rfl)
        have h5 := hd 6 5 h6 (by kernel_rfl)
        have h4 := hd 6 4 h6 (by kernel_rfl)
        have h2 := hd 3 2 h3 (by kernel_rfl)
        have h1 := hd 3 1 h3 (by kernel_rfl)
        have h0 := hd 17 0 h17 (by kernel_rfl)
        have h9 := hd 11 9 h11 (by kernel_rfl)
        have h10 := hd 11 10 h11 (by kernel_rfl)
        have h12 := hd 14 12 h14 (by kernel_rfl)
        have h13 := hd 14 13 h14 (by kernel_rfl)
        rw [hun] at h15
        cases h15
    have h8 := hp 8 (by kernel_rfl)
    have u8 := hI.f8 h8
    have va := hI.f11 (hp 11 (by kernel_rfl))
    have vb := hI.f14 (hp 14 (by kernel_rfl))
    clear hp
    cases r
    · clear va vb
      replace hd := Lib.hid hd
      simp only [putAll, Act.put, List.setIfInBounds_toArray, List.set_cons_succ, List.set_cons_zero, Nat.reduceAdd, u8] at ha
      subst ha
      simp only [Act.put, List.setIfInBounds_toArray, List.set_cons_succ, List.set_cons_zero] at hK
      go_simp
      refine hK _ _ ?_
      refine ⟨?_, ?_, ?_, ?_, ?_, ?_, ?_, ?_, ?_, ?_, ?_, ?_, ?_, ?_, ?_, ?_, ?_, ?_, ?_, ?_, ?_⟩
      all_goals (first | exact hI.e | exact hI.x | exact hI.f0 | exact hI.f1 | exact hI.f2 | exact hI.f4 | exact hI.f5 | exact hI.f7 | exact hI.f8 | exact hI.f9 | exact hI.f10 | exact hI.f12 | exact hI.f13 | exact hI.f15 | exact hI.f16 | exact hI.f17 | exact hI.f18 | exact hI.f3 | exact hI.f6 | exact hI.f11 | exact hI.f14 | exact fun _ => rfl | exact fun _ _ => rfl | skip)
      all_goals exact fun _ h => by cases h
    · obtain ⟨A1, c1, ua, S1⟩ := va rfl h17
      obtain ⟨A2, c2, ub, S2⟩ := vb rfl h17
      have CC := rSameKnobs_c A1 A2 c1 c2 K2 K1 wx (by unfold KnobsR; rw [Hk2.out]; exact S1) (by unfold KnobsR; rw [Hk1.out]; exact S2)
      rw [Hk2.out, Hk1.out, Hs.out] at CC
      clear va vb S1 S2
      replace hd := Lib.hid hd
      simp only [putAll, Act.put, List.setIfInBounds_toArray, List.set_cons_succ, List.set_cons_zero, Nat.reduceAdd, u8, ua, ub] at ha
      subst ha
      simp only [Act.put, List.setIfInBounds_toArray, List.set_cons_succ, List.set_cons_zero] at hK
      go_simp
      go_at_call 91
      refine CC.mono ?_
      rintro e wn ⟨rfl, En⟩
      go_simp
      refine hK _ _ ?_
      refine ⟨hI.e.trans En, fun h => (hI.x h).trans En, ?_, ?_, ?_, ?_, ?_, ?_, ?_, ?_, ?_, ?_, ?_, ?_, ?_, ?_, ?_, ?_, ?_, ?_, ?_⟩
      all_goals (first | exact hI.f0 | exact hI.f1 | exact hI.f2 | exact hI.f4 | exact hI.f5 | exact hI.f7 | exact hI.f8 | exact hI.f9 | exact hI.f10 | exact hI.f12 | exact hI.f13 | exact hI.f15 | exact hI.f16 | exact hI.f18 | exact fun h h' => (hI.f3 h h').ext En | exact fun h h' => (hI.f6 h h').ext En | exact fun h h' h'' => (hI.f11 h h' h'').ext En | exact fun h h' h'' => (hI.f14 h h' h'').ext En | exact fun h => (hI.f17 h).ext En | exact fun _ => rfl | exact fun _ _ => rfl | skip)
  · intro L us wx K a ha hp hd hun hI hK
    have u8 := hI.f8 (hp 8 (by kernel_rfl))
    have va := hI.f15 (hp 15 (by kernel_rfl))
    clear hp
    cases r
    · clear va
      replace hd := Lib.hid hd
      simp only [putAll, Act.put, List.setIfInBounds_toArray, List.set_cons_succ, List.set_cons_zero, Nat.reduceAdd, u8] at ha
      subst ha
      simp only [Act.put, List.setIfInBounds_toArray, List.set_cons_succ, List.set_cons_zero] at hK
      go_simp
      refine hK _ _ ?_
      refine ⟨?_, ?_, ?_, ?_, ?_, ?_, ?_, ?_, ?_, ?_, ?_, ?_, ?_, ?_, ?_, ?_, ?_, ?_, ?_, ?_, ?_⟩
      all_goals (first | exact hI.e | exact hI.x | exact hI.f0 | exact hI.f1 | exact hI.f2 | exact hI.f4 | exact hI.f5 | exact hI.f7 | exact hI.f8 | exact hI.f9 | exact hI.f10 | exact hI.f12 | exact hI.f13 | exact hI.f15 | exact hI.f16 | exact hI.f17 | exact hI.f18 | exact hI.f3 | exact hI.f6 | exact hI.f11 | exact hI.f14 | exact fun _ => rfl | exact fun _ _ => rfl | skip)
    · have ua := va rfl
      clear va
      replace hd := Lib.hid hd
      simp only [putAll, Act.put, List.setIfInBounds_toArray, List.set_cons_succ, List.set_cons_zero, Nat.reduceAdd, u8, ua] at ha
      subst ha
      simp only [Act.put, List.setIfInBounds_toArray, List.set_cons_succ, List.set_cons_zero] at hK
      go_simp
      refine hK _ _ ?_
      refine ⟨?_, ?_, ?_, ?_, ?_, ?_, ?_, ?_, ?_, ?_, ?_, ?_, ?_, ?_, ?_, ?_, ?_, ?_, ?_, ?_, ?_⟩
      all_goals (first | exact hI.e | exact hI.x | exact hI.f0 | exact hI.f1 | exact hI.f2 | exact hI.f4 | exact hI.f5 | exact hI.f7 | exact hI.f8 | exact hI.f9 | exact hI.f10 | exact hI.f12 | exact hI.f13 | exact hI.f15 | exact hI.f16 | exact hI.f17 | exact hI.f18 | exact hI.f3 | exact hI.f6 | exact hI.f11 | exact hI.f14 | exact fun _ => rfl | exact fun _ _ => rfl | skip)
  · intro L us wx K a ha hp hd hun hI hK
    have u0 := hI.f0 (hp 0 (by kernel_rfl))
    have B := HB65.out.ext (hI.x hun)
    have bB := B.cell
    have fB := B.frozen
    clear hp
    replace hd := Lib.hid hd
    simp only [putAll, Act.put, List.setIfInBounds_toArray, List.set_cons_succ, List.set_cons_zero, Nat.reduceAdd, u0] at ha
    subst ha
    simp only [Act.put] at hK
    go_simp
    obtain ⟨V, hV, BV, EV⟩ := set6' (.int .i64 i) (.int .i64 at_.x) (.int .i64 at_.y) (.int .i64 at_.z) (.int .u8 n) (.int .u8 bc) B hI.e hSw
    rw [hV]
    refine hK undef _ ?_
    refine ⟨EV, fun h => (by cases h), ?_, ?_, ?_, ?_, ?_, ?_, ?_, ?_, ?_, ?_, ?_, ?_, ?_, ?_, ?_, ?_, ?_, ?_, ?_⟩
    all_goals (first | exact hI.f0 | exact hI.f1 | exact hI.f2 | exact hI.f4 | exact hI.f5 | exact hI.f7 | exact hI.f8 | exact hI.f9 | exact hI.f10 | exact hI.f12 | exact hI.f13 | exact hI.f15 | exact hI.f16 | exact hI.f18 | exact fun _ => BV | exact fun _ _ h => by cases h | exact fun _ h => by cases h | skip)
  · intro L us wx K a ha hp hd hun hI hK
    have ua := hI.f16 (hp 16 (by kernel_rfl))
    clear hp
    replace hd := Lib.hid hd
    simp only [putAll, Act.put, List.setIfInBounds_toArray, List.set_cons_succ, List.set_cons_zero, Nat.reduceAdd, ua] at ha
    subst ha
    simp only [Act.put, List.setIfInBounds_toArray, List.set_cons_succ, List.set_cons_zero] at hK
    go_simp
    refine hK _ _ ?_
    refine ⟨?_, ?_, ?_, ?_, ?_, ?_, ?_, ?_, ?_, ?_, ?_, ?_, ?_, ?_, ?_, ?_, ?_, ?_, ?_, ?_, ?_⟩
    all_goals (first | exact hI.e | exact hI.x | exact hI.f0 | exact hI.f1 | exact hI.f2 | exact hI.f4 | exact hI.f5 | exact hI.f7 | exact hI.f8 | exact hI.f9 | exact hI.f10 | exact hI.f12 | exact hI.f13 | exact hI.f15 | exact hI.f16 | exact hI.f17 | exact hI.f18 | exact hI.f3 | exact hI.f6 | exact hI.f11 | exact hI.f14 | exact fun _ => rfl | exact fun _ _ => rfl | skip)
  intro L us wx hall hI
  have e18 := hI.f18 (hall 18 (by simp))
  have B6 := hI.f17 (hall 17 (by simp))
  have EZ := hI.e
  have b6 := B6.cell
  simp only [putAll, Act.put, List.setIfInBounds_toArray, List.set_cons_succ, List.set_cons_zero, Nat.reduceAdd, e18]
  clear hall hI e18
  go_wp2_with fail
  refine bodyPost_ret (v := .tuple #[.agg #[.int .i64 i, .int .i64 at_.x, .int .i64 at_.y, .int .i64 at_.z, .int .u8 n, .int .u8 bc], .bool (r && s)]) (by simp [results, Try.results62, go_sem, b6]) rfl ⟨rfl, EZ⟩
end Go.Proofs.Ytenigkngmdofiaa
