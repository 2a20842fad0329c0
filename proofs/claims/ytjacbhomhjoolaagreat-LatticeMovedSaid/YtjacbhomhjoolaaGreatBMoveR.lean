/- Bounds of the reference. No conditions. Bounds of the program. No conditions. Bounds of the program, all cases. Move, plain: the bricks turned and moved, and the error. Move of the reference. No conditions. Move of the reference at a valid model, turn and step. UNDER WAY. Move of the reference, all cases. -/
import Derived.Test.YtjacbhomhjoolaaGreatBOvWalk
import Derived.Test.YtjacbhomhjoolaaGreatBLib
namespace Go.Proofs.YtjacbhomhjoolaaGreat
open Go.RowKit

theorem rowx_far {w : World} {g : Nat} {t : TypeId} {rows : List (List Value)} (h : RowX w g t rows) {p : Addr} (hp : g ≠ p.block) (u : Value) : RowX (w.setCell p u) g t rows := RowX.far h hp u
theorem span_lo {W w : World} {g : Nat} {t : TypeId} {a b c d e f : Value} (v1 v2 v3 : Value) (h : Blk W g t #[a, b, c, d, e, f]) (E : Ext w W) (hg : w.heap.size ≤ g) {g' : Nat} {t' : TypeId} {rows : List (List Value)} (hne : g' ≠ g) (hR : RowX W g' t' rows) :
    ∃ V, ((W.setCell ⟨g, 0, none⟩ v1).setCell ⟨g, 1, none⟩ v2).setCell ⟨g, 2, none⟩ v3 = V ∧ Blk V g t #[v1, v2, v3, d, e, f] ∧ Ext w V ∧ RowX V g' t' rows :=
  ⟨_, rfl, ((h.set_ 0 v1).set_ 1 v2).set_ 2 v3, ((E.setCell hg v1).setCell hg v2).setCell hg v3, rowx_far (rowx_far (rowx_far hR hne v1) hne v2) hne v3⟩
theorem span_hi {W w : World} {g : Nat} {t : TypeId} {a b c d e f : Value} (v1 v2 v3 : Value) (h : Blk W g t #[a, b, c, d, e, f]) (E : Ext w W) (hg : w.heap.size ≤ g) {g' : Nat} {t' : TypeId} {rows : List (List Value)} (hne : g' ≠ g) (hR : RowX W g' t' rows) :
    ∃ V, ((W.setCell ⟨g, 3, none⟩ v1).setCell ⟨g, 4, none⟩ v2).setCell ⟨g, 5, none⟩ v3 = V ∧ Blk V g t #[a, b, c, v1, v2, v3] ∧ Ext w V ∧ RowX V g' t' rows :=
  ⟨_, rfl, ((h.set_ 3 v1).set_ 4 v2).set_ 5 v3, ((E.setCell hg v1).setCell hg v2).setCell hg v3, rowx_far (rowx_far (rowx_far hR hne v1) hne v2) hne v3⟩
theorem span_all {W w : World} {g : Nat} {t : TypeId} {a b c d e f : Value} (v1 v2 v3 v4 v5 v6 : Value) (h : Blk W g t #[a, b, c, d, e, f]) (E : Ext w W) (hg : w.heap.size ≤ g) {g' : Nat} {t' : TypeId} {rows : List (List Value)} (hne : g' ≠ g) (hR : RowX W g' t' rows) :
    ∃ V, (((((W.setCell ⟨g, 0, none⟩ v1).setCell ⟨g, 1, none⟩ v2).setCell ⟨g, 2, none⟩ v3).setCell ⟨g, 3, none⟩ v4).setCell ⟨g, 4, none⟩ v5).setCell ⟨g, 5, none⟩ v6 = V ∧ Blk V g t #[v1, v2, v3, v4, v5, v6] ∧ Ext w V ∧ RowX V g' t' rows :=
  ⟨_, rfl, (((((h.set_ 0 v1).set_ 1 v2).set_ 2 v3).set_ 3 v4).set_ 4 v5).set_ 5 v6, (((((E.setCell hg v1).setCell hg v2).setCell hg v3).setCell hg v4).setCell hg v5).setCell hg v6, rowx_far (rowx_far (rowx_far (rowx_far (rowx_far (rowx_far hR hne v1) hne v2) hne v3) hne v4) hne v5) hne v6⟩
theorem bcells_ne {qs : List (Knd × KAt)} {bs : List Brk} (hf : MFine qs bs) {b : Brk} (hm : b ∈ bs) : bcells (qs.map (·.1)) b ≠ [] := by
  obtain ⟨i, tn, k, p, e1, e2, -, hi, hkf, -, -⟩ := hf.b b hm
  rw [bcells_is e1 e2 hi]
  intro e
  have h1 : k.cells.length = 0 := by
    have := congrArg List.length e
    rwa [sortP_len, placeP_len] at this
  have := hkf.pos
  omega
theorem span_next {ks : List Knd} {bs : List Brk} {j q : Nat} {L : List Pt} {c : Pt} (hc : L[q]? = some c) (hne : allC ks bs j ++ L.take q ≠ []) : spanOf (allC ks bs j ++ L.take (q + 1)) = (minP (spanOf (allC ks bs j ++ L.take q)).1 c, maxP (spanOf (allC ks bs j ++ L.take q)).2 c) := by
  rw [List.take_add_one, hc, ← List.append_assoc]
  exact spanOf_snoc hne c
end Go.Proofs.YtjacbhomhjoolaaGreat
namespace Go.Proofs.YtjacbhomhjoolaaGreat
open Go.RowKit

structure Bd8 (W0 : World) (vR vQ vK : Value) (G : Nat) (p3 : Addr) (i xx yy zz : Int) (tn : Nat) (n m U : Nat) (Lc : List Pt) (xs : List Value) (bc : Array Value) (L : Nat → Bool) (us : Nat → Value) (w : World) : Prop where
  x : Ext W0 w
  g3 : L 13 = false → us 13 = vR
  g0 : Blk w G 51 bc
  g1 : L 12 = false → w.ownsRow U 27 3 vR m xs
  g2 : L 11 = true → L 12 = false → Blk w (bk (us 11)) 27 (ptsA Lc)
  f0 : L 0 = true → us 0 = vR
  f1 : L 1 = true → us 1 = vQ
  f2 : L 2 = true → us 2 = .pointer (some ⟨G, 0, none⟩)
  f3 : L 3 = true → us 3 = .int .i64 i
  f4 : L 4 = true → us 4 = .pointer (some p3)
  f5 : L 5 = true → us 5 = vK
  f6 : L 6 = true → us 6 = .pointer (some ⟨G, 4, none⟩)
  f7 : L 7 = true → us 7 = .int .u8 tn
  f8 : L 8 = true → us 8 = .int .i64 tn
  f9 : L 9 = true → us 9 = .pointer (some ⟨G, 1, none⟩)
  f10 : L 10 = true → us 10 = .agg #[.int .i64 xx, .int .i64 yy, .int .i64 zz]
  f11 : L 11 = true → us 11 = .slice (some ⟨bk (us 11), 0, none⟩) n n
  f12 : L 12 = true → w.ownsRow U 27 3 (us 12) (m + n) (xs ++ (Lc.map Pt.cs).flatten)
  f13 : L 13 = true → us 13 = us 12
structure Bd12 (W0 : World) (vR : Value) (p0 : Addr) (c : Pt) (L : Nat → Bool) (us : Nat → Value) (w : World) : Prop where
  x : Ext W0 w
  g0 : L 7 = true → W0.heap.size ≤ bk (us 7)
  g1 : L 7 = true → L 8 = false → Blk w (bk (us 7)) 66 #[.int .i64 0, .int .i64 0, .int .i64 0, .int .i64 0, .int .i64 0, .int .i64 0]
  f0 : L 0 = true → us 0 = vR
  f1 : L 1 = true → us 1 = .pointer (some p0)
  f2 : L 2 = true → us 2 = .agg #[.int .i64 c.x, .int .i64 c.y, .int .i64 c.z]
  f3 : L 3 = true → us 3 = vR
  f4 : L 4 = true → us 4 = .pointer (some p0)
  f5 : L 5 = true → us 5 = .agg #[.int .i64 c.x, .int .i64 c.y, .int .i64 c.z]
  f6 : L 6 = true → us 6 = .agg #[.int .i64 c.x, .int .i64 c.y, .int .i64 c.z, .int .i64 c.x, .int .i64 c.y, .int .i64 c.z]
  f7 : L 7 = true → us 7 = .pointer (some ⟨bk (us 7), 0, none⟩)
  f8 : L 8 = true → Blk w (bk (us 7)) 66 #[.int .i64 c.x, .int .i64 c.y, .int .i64 c.z, .int .i64 c.x, .int .i64 c.y, .int .i64 c.z]
def tk (q : Nat) : Nat := if q = 0 then 1 else q
theorem span_tk {L : List Pt} {q : Nat} {c : Pt} (hc : L[q]? = some c) : spanOf (L.take (tk (q + 1))) = (minP (spanOf (L.take (tk q))).1 c, maxP (spanOf (L.take (tk q))).2 c) := by
  unfold tk
  rw [if_neg (Nat.succ_ne_zero q)]
  by_cases hq : q = 0
  · subst hq
    rw [if_pos rfl, List.take_add_one, hc]
    show spanOf [c] = (minP (spanOf [c]).1 c, maxP (spanOf [c]).2 c)
    rw [spanOf_one, minP_self, maxP_self]
  · rw [if_neg hq, List.take_add_one, hc]
    exact spanOf_snoc (fun e => by
      have h1 := congrArg List.length e
      have h2 := (List.getElem?_eq_some_iff.1 hc).1
      rw [List.length_take] at h1
      change min q L.length = 0 at h1
      omega) c
theorem infoCell : (Tryz.prog.info? 27).map (fun i => (i.zero, i.size, i.bytes)) = some (some (.agg #[.int .i64 0, .int .i64 0, .int .i64 0]), 3, 24) := by kernel_rfl
theorem bcells_len {qs : List (Knd × KAt)} {bs : List Brk} (hf : MFine qs bs) {b : Brk} (hm : b ∈ bs) : (bcells (qs.map (·.1)) b).length ≤ 1000 := by
  obtain ⟨i, tn, k, p, e1, e2, -, hi, hkf, -, -⟩ := hf.b b hm
  rw [bcells_is e1 e2 hi, sortP_len, placeP_len]
  exact Nat.le_trans hkf.len (by omega)
theorem allC_len {ks : List Knd} {bs : List Brk} (h : ∀ b ∈ bs, (bcells ks b).length ≤ 1000) : ∀ j, j ≤ bs.length → (allC ks bs j).length ≤ j * 1000
  | 0, _ => Nat.zero_le _
  | j + 1, hj => by
    rw [allC_succ, List.length_append]
    have h1 := allC_len h j (by omega)
    have h2 := h (brkAt bs j) (by rw [brkAt_eq (List.getElem?_eq_getElem (show j < bs.length by omega))]; exact List.getElem_mem _)
    omega
set_option maxRecDepth 100000 in
set_option maxHeartbeats 16000000 in
theorem boundsG_c (qs : List (Knd × KAt)) (QA : Option Addr) (qc : Nat) (bs : List Brk) (B : Option Addr) (cb : Nat) (w : World) (hk : Kinds w QA qc qs) (hb : Bricks w B cb bs) (hr : checkErr (qs.map (·.1)) bs = 0) :
    Calls Tryz.prog 27 #[.slice QA qs.length qc, .agg #[.slice B bs.length cb]] w (SpanRes (spanOf (allC (qs.map (·.1)) bs bs.length)) 0 w) := by
  obtain ⟨W1, hW1, E1, B1, hz1⟩ := mk_ w #[.slice B bs.length cb] 25
  obtain ⟨W2, hW2, E2, B2, hz2⟩ := mk_ W1 (spC (⟨0, 0, 0⟩, ⟨0, 0, 0⟩)) 66
  unfold spC at hW2 B2
  rw [hz1] at B2
  have b1 := (B1.ext E2).cell
  have CK := checkM_c qs QA qc bs B cb W2 (hk.ext (E1.trans E2)) (hb.ext (E1.trans E2))
  obtain ⟨T, hT⟩ : ∃ T, w.heap.size = T := ⟨_, rfl⟩
  rw [hT] at B1 B2
  have HT := Lib.hid hT
  have HE := Lib.hid (E1.trans E2)
  have HZ2 := Lib.hid (show W2.heap.size = T + 2 by omega)
  have HZ1 := Lib.hid (show W1.heap.size = T + 1 by omega)
  clear hz1 hz2
  rw [hr] at CK
  have hm := check_model hr
  have hf := mfine_of hk hb.2 hm
  have hbn := hf.n
  have hqn := hk.len
  unfold maxLen at hqn
  have PL := Lib.hid (fun (b : Brk) (hm : b ∈ bs) => hf.b b hm)
  have HKi := Lib.hid (fun (i : Nat) (hi : i < qs.length) => (hk.ext (E1.trans E2)).at_ hi)
  have PLc := Lib.hid (fun (W : World) (E : Ext W2 W) (k : Knd) (p : KAt) (n : Nat) (x y z : Int) (hc : Cells W2 p.A p.ca k.cells) (hkf : k.Fine) (ht : n < 24) (hp : Pt.in_ 1000 ⟨x, y, z⟩) =>
    cells_c k.cells k.knobs.length p.cb k.weight p.A p.ca p.B n x y z W (hc.ext E) (Nat.le_trans hkf.len (by omega)) hkf.cok ht (hp.ok (by omega)))
  have HLn := Lib.hid (allC_len (ks := qs.map (·.1)) (bs := bs) (fun b hb => bcells_len hf hb))
  obtain ⟨ks, hks⟩ : ∃ ks, qs.map (·.1) = ks := ⟨_, rfl⟩
  have Hks := Lib.hid hks
  rw [hks] at HLn ⊢
  obtain ⟨nq, hnq⟩ : ∃ m, qs.length = m := ⟨_, rfl⟩
  obtain ⟨nb, hnb⟩ : ∃ m, bs.length = m := ⟨_, rfl⟩
  rw [hnq] at HKi hqn CK ⊢
  have HQ := Lib.hid hnq
  rw [hnb] at hbn B1 b1 CK HLn hW1 ⊢
  have HB := Lib.hid hb
  have Hnb := Lib.hid hnb
  clear hr hm hf hks hnq hnb hk hb hT
  go_enter Tryz.func27, Tryz.ntmps27
  go_wp2_with fail
  rw [HT.out, HZ1.out]
  clear hW1 hW2 b1
  refine CK.mono ?_
  rintro e W3 ⟨rfl, E3⟩
  have b3 := ((B1.ext E2).ext E3).cell
  obtain ⟨i9, hi9, hz9, hz91, hz92⟩ := info_parts infoCell
  go_wp2_with fail
  clear b3
  obtain ⟨U, hU⟩ : ∃ U, W3.heap.size = U := ⟨_, rfl⟩
  have HU := Lib.hid hU
  clear hU
  go_loopw [7, 23] (fun u ii wr => ∃ (j : Nat) (v : Value), j ≤ nb ∧ ii = .int .i64 j ∧ v = u ∧ Ext W3 wr ∧ wr.ownsRow U 27 3 v (allC ks bs j).length ((allC ks bs j).map Pt.cs).flatten) (fun _ ii _ => nb - (intOf ii).toNat)
  case atStart => exact ⟨0, _, by omega, rfl, rfl, Ext.refl W3, World.ownsRow_nil _ _ _ _⟩
  case round =>
    obtain ⟨j, v, hj, rfl, rfl, Er, own⟩ := hrel
    have b1 := ((((B1.ext E2).ext E3).ext Er)).cell
    have hal := HLn.out j hj
    by_cases hlt : j < nb
    · obtain ⟨g, off, ⟨kd, ⟨x, y, z⟩, t, cl⟩, rfl, hq, hby, hg, d0, d1, d2, d3, d4, d5⟩ := (((HB.out.ext HE.out).ext E3).ext Er).at_ (k := j) (by rw [Hnb.out]; exact hlt)
      obtain ⟨i, tn, kk, p, e1, e2, htn, hqi, hkf, hpt, -⟩ := PL.out _ (List.mem_of_getElem? hq)
      simp only at e1 e2 hpt d0 d1 d2 d3 d4 d5
      subst e1 e2
      have Hbc := Lib.hid (show bcells ks (brkAt bs j) = sortP (placeP kk.cells tn ⟨x, y, z⟩) by rw [brkAt_eq hq, ← Hks.out]; exact bcells_is rfl rfl hqi)
      obtain ⟨qb, qoff, k', p', hQ, hqi', hka, hqb, q0, q1, q2⟩ := HKi.out i (by have := (List.getElem?_eq_some_iff.1 hqi).1; have := HQ.out; omega)
      obtain ⟨rfl, rfl⟩ : k' = kk ∧ p' = p := by rw [hqi] at hqi'; cases hqi'; exact ⟨rfl, rfl⟩
      subst hQ
      obtain ⟨Lc, hLc⟩ : ∃ L, sortP (placeP k'.cells tn ⟨x, y, z⟩) = L := ⟨_, rfl⟩
      obtain ⟨n, hn⟩ : ∃ n, k'.cells.length = n := ⟨_, rfl⟩
      have Hln := Lib.hid (show Lc.length = n by rw [← hLc, sortP_len, placeP_len, hn])
      have Hw := Lib.hid (show IntKind.i64.wrap (tn : Int) = tn from IntWalk.i64_in _ (by omega))
      have Hn40 := Lib.hid (show n ≤ 1000 by have := hkf.len; omega)
      have hn0 : 0 < n := by have := hkf.pos; omega
      have Hn0 := Lib.hid hn0
      have CL := Lib.hid (fun W (E : Ext W2 W) => PLc.out W E k' p' tn x y z hka.c hkf htn hpt)
      rw [hLc, hn] at CL
      rw [hn] at q0
      rw [hLc] at Hbc
      obtain ⟨WB, hWB, EB, BB, hzB⟩ := mk_ wr #[.int .i64 i, .int .i64 x, .int .i64 y, .int .i64 z, .int .u8 tn, .int .u8 cl] 51
      have EX := Er.trans EB
      have ownB := own_ext own EB
      obtain ⟨G, hG⟩ : ∃ G, wr.heap.size = G := ⟨_, rfl⟩
      rw [hG] at BB
      have HG := Lib.hid hG
      have j0 : (0 : Int) ≤ j := by omega
      have j1 : (j : Int) < nb := by omega
      have i0 : (0 : Int) ≤ i := by omega
      have i1 : (i : Int) < nq := by have := (List.getElem?_eq_some_iff.1 hqi).1; have := HQ.out; omega
      have HEX := Lib.hid EX
      have HE3 := Lib.hid E3
      have Hq := Lib.hid (And.intro q0 (And.intro q1 q2))
      obtain ⟨AL, hAL⟩ : ∃ l, allC ks bs j = l := ⟨_, rfl⟩
      rw [hAL] at own ownB hal
      have HAL := Lib.hid hAL
      have hxm : AL.length + n ≤ maxLen := by have := Hn40.out; unfold maxLen; omega
      have hxb : (AL.length + n) * 24 ≤ 140737488355328 := by have := Hn40.out; omega
      have Hx := Lib.hid (And.intro hxm hxb)
      have HZ3 := Lib.hid (show T + 2 ≤ W3.heap.size by have := E3.size; have := HZ2.out; omega)
      clear hqi' hq hqi hkf htn hpt hka hn hLc hzB hG EX EB hAL hxm hxb own hn0 hal
      go_upto_region 8 with (fail)
      rw [HG.out]
      clear b1 d0 d1 d2 d3 d4 d5 q0 q1 q2
      refine wp_region_by0 (Bd8 W3 v (.slice (some ⟨qb, qoff, none⟩) nq qc) (.agg #[.slice p'.A n p'.ca, .slice p'.B k'.knobs.length p'.cb, .int .i64 k'.weight]) G ⟨qb, qoff + i * 3, none⟩ i x y z tn n AL.length U Lc (AL.map Pt.cs).flatten #[.int .i64 i, .int .i64 x, .int .i64 y, .int .i64 z, .int .u8 tn, .int .u8 cl]) (by kernel_rfl) (by kernel_rfl) (by kernel_rfl) ⟨HEX.out.drew, (fun _ => rfl), BB.drew, (fun _ => own_ext ownB ((Ext.refl _).drew)), (nofun), (nofun), (nofun), (nofun), (nofun), (nofun), (nofun), (nofun), (nofun), (nofun), (nofun), (nofun), (nofun), (nofun), (nofun)⟩ ⟨?_, ?_, ?_, ?_, ?_, ?_, ?_, ?_, ?_, ?_, ?_, ?_, ?_, ?_, trivial⟩ ?_
      all_goals clear ownB
      · intro L us wx K a ha hp hd hun hI hK
        have HX := hI.x
        have u13 := hI.g3 (Bool.eq_false_iff.2 fun hl => absurd (hd 13 0 hl (by kernel_rfl)) (by rw [hun]; decide))
        clear hp HX
        replace hd := Lib.hid hd
        simp only [putAll, Act.put, List.setIfInBounds_toArray, List.set_cons_succ, List.set_cons_zero, Nat.reduceAdd, u13] at ha
        subst ha
        simp only [Act.put, List.setIfInBounds_toArray, List.set_cons_succ, List.set_cons_zero] at hK
        go_simp
        refine hK _ _ ?_
        first
        | (refine ⟨hI.x, hI.g3, hI.g0, hI.g1, hI.g2, ?_, hI.f1, hI.f2, hI.f3, hI.f4, hI.f5, hI.f6, hI.f7, hI.f8, hI.f9, hI.f10, hI.f11, hI.f12, hI.f13⟩ <;> (first | exact fun _ => rfl | skip))
        | (refine ⟨?_, ?_, ?_, ?_, ?_, ?_, ?_, ?_, ?_, ?_, ?_, ?_, ?_, ?_, ?_, ?_, ?_, ?_, ?_⟩ <;> (first | exact hI.x | exact hI.g3 | exact hI.g0 | exact hI.g1 | exact hI.g2 | exact hI.f0 | exact hI.f1 | exact hI.f2 | exact hI.f3 | exact hI.f4 | exact hI.f5 | exact hI.f6 | exact hI.f7 | exact hI.f8 | exact hI.f9 | exact hI.f10 | exact hI.f11 | exact hI.f12 | exact hI.f13 | exact fun _ => rfl | skip))
      · intro L us wx K a ha hp hd hun hI hK
        have HX := hI.x
        clear hp HX
        replace hd := Lib.hid hd
        simp only [putAll, Act.put, List.setIfInBounds_toArray, List.set_cons_succ, List.set_cons_zero, Nat.reduceAdd] at ha
        subst ha
        simp only [Act.put, List.setIfInBounds_toArray, List.set_cons_succ, List.set_cons_zero] at hK
        go_simp
        refine hK _ _ ?_
        first
        | (refine ⟨hI.x, hI.g3, hI.g0, hI.g1, hI.g2, hI.f0, ?_, hI.f2, hI.f3, hI.f4, hI.f5, hI.f6, hI.f7, hI.f8, hI.f9, hI.f10, hI.f11, hI.f12, hI.f13⟩ <;> (first | exact fun _ => rfl | skip))
        | (refine ⟨?_, ?_, ?_, ?_, ?_, ?_, ?_, ?_, ?_, ?_, ?_, ?_, ?_, ?_, ?_, ?_, ?_, ?_, ?_⟩ <;> (first | exact hI.x | exact hI.g3 | exact hI.g0 | exact hI.g1 | exact hI.g2 | exact hI.f0 | exact hI.f1 | exact hI.f2 | exact hI.f3 | exact hI.f4 | exact hI.f5 | exact hI.f6 | exact hI.f7 | exact hI.f8 | exact hI.f9 | exact hI.f10 | exact hI.f11 | exact hI.f12 | exact hI.f13 | exact fun _ => rfl | skip))
      · intro L us wx K a ha hp hd hun hI hK
        have HX := hI.x
        clear hp HX
        replace hd := Lib.hid hd
        simp only [putAll, Act.put, List.setIfInBounds_toArray, List.set_cons_succ, List.set_cons_zero, Nat.reduceAdd] at ha
        subst ha
        simp only [Act.put, List.setIfInBounds_toArray, List.set_cons_succ, List.set_cons_zero] at hK
        go_simp
        refine hK _ _ ?_
        first
        | (refine ⟨hI.x, hI.g3, hI.g0, hI.g1, hI.g2, hI.f0, hI.f1, ?_, hI.f3, hI.f4, hI.f5, hI.f6, hI.f7, hI.f8, hI.f9, hI.f10, hI.f11, hI.f12, hI.f13⟩ <;> (first | exact fun _ => rfl | skip))
        | (refine ⟨?_, ?_, ?_, ?_, ?_, ?_, ?_, ?_, ?_, ?_, ?_, ?_, ?_, ?_, ?_, ?_, ?_, ?_, ?_⟩ <;> (first | exact hI.x | exact hI.g3 | exact hI.g0 | exact hI.g1 | exact hI.g2 | exact hI.f0 | exact hI.f1 | exact hI.f2 | exact hI.f3 | exact hI.f4 | exact hI.f5 | exact hI.f6 | exact hI.f7 | exact hI.f8 | exact hI.f9 | exact hI.f10 | exact hI.f11 | exact hI.f12 | exact hI.f13 | exact fun _ => rfl | skip))
      · intro L us wx K a ha hp hd hun hI hK
        have HX := hI.x
        have u2 := hI.f2 (hp 2 (by kernel_rfl))
        have bb := hI.g0.cell
        clear hp HX
        replace hd := Lib.hid hd
        simp only [putAll, Act.put, List.setIfInBounds_toArray, List.set_cons_succ, List.set_cons_zero, Nat.reduceAdd, u2] at ha
        subst ha
        simp only [Act.put, List.setIfInBounds_toArray, List.set_cons_succ, List.set_cons_zero] at hK
        go_simp
        refine hK _ _ ?_
        first
        | (refine ⟨hI.x, hI.g3, hI.g0, hI.g1, hI.g2, hI.f0, hI.f1, hI.f2, ?_, hI.f4, hI.f5, hI.f6, hI.f7, hI.f8, hI.f9, hI.f10, hI.f11, hI.f12, hI.f13⟩ <;> (first | exact fun _ => rfl | skip))
        | (refine ⟨?_, ?_, ?_, ?_, ?_, ?_, ?_, ?_, ?_, ?_, ?_, ?_, ?_, ?_, ?_, ?_, ?_, ?_, ?_⟩ <;> (first | exact hI.x | exact hI.g3 | exact hI.g0 | exact hI.g1 | exact hI.g2 | exact hI.f0 | exact hI.f1 | exact hI.f2 | exact hI.f3 | exact hI.f4 | exact hI.f5 | exact hI.f6 | exact hI.f7 | exact hI.f8 | exact hI.f9 | exact hI.f10 | exact hI.f11 | exact hI.f12 | exact hI.f13 | exact fun _ => rfl | skip))
      · intro L us wx K a ha hp hd hun hI hK
        have HX := hI.x
        have u1 := hI.f1 (hp 1 (by kernel_rfl))
        have u3 := hI.f3 (hp 3 (by kernel_rfl))
        clear hp HX
        replace hd := Lib.hid hd
        simp only [putAll, Act.put, List.setIfInBounds_toArray, List.set_cons_succ, List.set_cons_zero, Nat.reduceAdd, u1, u3] at ha
        subst ha
        simp only [Act.put, List.setIfInBounds_toArray, List.set_cons_succ, List.set_cons_zero] at hK
        go_simp
        refine hK _ _ ?_
        first
        | (refine ⟨hI.x, hI.g3, hI.g0, hI.g1, hI.g2, hI.f0, hI.f1, hI.f2, hI.f3, ?_, hI.f5, hI.f6, hI.f7, hI.f8, hI.f9, hI.f10, hI.f11, hI.f12, hI.f13⟩ <;> (first | exact fun _ => rfl | skip))
        | (refine ⟨?_, ?_, ?_, ?_, ?_, ?_, ?_, ?_, ?_, ?_, ?_, ?_, ?_, ?_, ?_, ?_, ?_, ?_, ?_⟩ <;> (first | exact hI.x | exact hI.g3 | exact hI.g0 | exact hI.g1 | exact hI.g2 | exact hI.f0 | exact hI.f1 | exact hI.f2 | exact hI.f3 | exact hI.f4 | exact hI.f5 | exact hI.f6 | exact hI.f7 | exact hI.f8 | exact hI.f9 | exact hI.f10 | exact hI.f11 | exact hI.f12 | exact hI.f13 | exact fun _ => rfl | skip))
      · intro L us wx K a ha hp hd hun hI hK
        have HX := hI.x
        have u4 := hI.f4 (hp 4 (by kernel_rfl))
        have EX := HX
        have q0 := EX.cell (HE3.out.cell Hq.out.1)
        have q1 := EX.cell (HE3.out.cell Hq.out.2.1)
        have q2 := EX.cell (HE3.out.cell Hq.out.2.2)
        clear EX
        clear hp HX
        replace hd := Lib.hid hd
        simp only [putAll, Act.put, List.setIfInBounds_toArray, List.set_cons_succ, List.set_cons_zero, Nat.reduceAdd, u4] at ha
        subst ha
        simp only [Act.put, List.setIfInBounds_toArray, List.set_cons_succ, List.set_cons_zero] at hK
        go_simp
        refine hK _ _ ?_
        first
        | (refine ⟨hI.x, hI.g3, hI.g0, hI.g1, hI.g2, hI.f0, hI.f1, hI.f2, hI.f3, hI.f4, ?_, hI.f6, hI.f7, hI.f8, hI.f9, hI.f10, hI.f11, hI.f12, hI.f13⟩ <;> (first | exact fun _ => rfl | skip))
        | (refine ⟨?_, ?_, ?_, ?_, ?_, ?_, ?_, ?_, ?_, ?_, ?_, ?_, ?_, ?_, ?_, ?_, ?_, ?_, ?_⟩ <;> (first | exact hI.x | exact hI.g3 | exact hI.g0 | exact hI.g1 | exact hI.g2 | exact hI.f0 | exact hI.f1 | exact hI.f2 | exact hI.f3 | exact hI.f4 | exact hI.f5 | exact hI.f6 | exact hI.f7 | exact hI.f8 | exact hI.f9 | exact hI.f10 | exact hI.f11 | exact hI.f12 | exact hI.f13 | exact fun _ => rfl | skip))
      · intro L us wx K a ha hp hd hun hI hK
        have HX := hI.x
        clear hp HX
        replace hd := Lib.hid hd
        simp only [putAll, Act.put, List.setIfInBounds_toArray, List.set_cons_succ, List.set_cons_zero, Nat.reduceAdd] at ha
        subst ha
        simp only [Act.put, List.setIfInBounds_toArray, List.set_cons_succ, List.set_cons_zero] at hK
        go_simp
        refine hK _ _ ?_
        first
        | (refine ⟨hI.x, hI.g3, hI.g0, hI.g1, hI.g2, hI.f0, hI.f1, hI.f2, hI.f3, hI.f4, hI.f5, ?_, hI.f7, hI.f8, hI.f9, hI.f10, hI.f11, hI.f12, hI.f13⟩ <;> (first | exact fun _ => rfl | skip))
        | (refine ⟨?_, ?_, ?_, ?_, ?_, ?_, ?_, ?_, ?_, ?_, ?_, ?_, ?_, ?_, ?_, ?_, ?_, ?_, ?_⟩ <;> (first | exact hI.x | exact hI.g3 | exact hI.g0 | exact hI.g1 | exact hI.g2 | exact hI.f0 | exact hI.f1 | exact hI.f2 | exact hI.f3 | exact hI.f4 | exact hI.f5 | exact hI.f6 | exact hI.f7 | exact hI.f8 | exact hI.f9 | exact hI.f10 | exact hI.f11 | exact hI.f12 | exact hI.f13 | exact fun _ => rfl | skip))
      · intro L us wx K a ha hp hd hun hI hK
        have HX := hI.x
        have u6 := hI.f6 (hp 6 (by kernel_rfl))
        have bb := hI.g0.cell
        clear hp HX
        replace hd := Lib.hid hd
        simp only [putAll, Act.put, List.setIfInBounds_toArray, List.set_cons_succ, List.set_cons_zero, Nat.reduceAdd, u6] at ha
        subst ha
        simp only [Act.put, List.setIfInBounds_toArray, List.set_cons_succ, List.set_cons_zero] at hK
        go_simp
        refine hK _ _ ?_
        first
        | (refine ⟨hI.x, hI.g3, hI.g0, hI.g1, hI.g2, hI.f0, hI.f1, hI.f2, hI.f3, hI.f4, hI.f5, hI.f6, ?_, hI.f8, hI.f9, hI.f10, hI.f11, hI.f12, hI.f13⟩ <;> (first | exact fun _ => rfl | skip))
        | (refine ⟨?_, ?_, ?_, ?_, ?_, ?_, ?_, ?_, ?_, ?_, ?_, ?_, ?_, ?_, ?_, ?_, ?_, ?_, ?_⟩ <;> (first | exact hI.x | exact hI.g3 | exact hI.g0 | exact hI.g1 | exact hI.g2 | exact hI.f0 | exact hI.f1 | exact hI.f2 | exact hI.f3 | exact hI.f4 | exact hI.f5 | exact hI.f6 | exact hI.f7 | exact hI.f8 | exact hI.f9 | exact hI.f10 | exact hI.f11 | exact hI.f12 | exact hI.f13 | exact fun _ => rfl | skip))
      · intro L us wx K a ha hp hd hun hI hK
        have HX := hI.x
        have u7 := hI.f7 (hp 7 (by kernel_rfl))
        clear hp HX
        replace hd := Lib.hid hd
        simp only [putAll, Act.put, List.setIfInBounds_toArray, List.set_cons_succ, List.set_cons_zero, Nat.reduceAdd, u7] at ha
        subst ha
        simp only [Act.put, List.setIfInBounds_toArray, List.set_cons_succ, List.set_cons_zero] at hK
        go_simp
        refine hK _ _ ?_
        first
        | (refine ⟨hI.x, hI.g3, hI.g0, hI.g1, hI.g2, hI.f0, hI.f1, hI.f2, hI.f3, hI.f4, hI.f5, hI.f6, hI.f7, ?_, hI.f9, hI.f10, hI.f11, hI.f12, hI.f13⟩ <;> (first | exact fun _ => rfl | skip))
        | (refine ⟨?_, ?_, ?_, ?_, ?_, ?_, ?_, ?_, ?_, ?_, ?_, ?_, ?_, ?_, ?_, ?_, ?_, ?_, ?_⟩ <;> (first | exact hI.x | exact hI.g3 | exact hI.g0 | exact hI.g1 | exact hI.g2 | exact hI.f0 | exact hI.f1 | exact hI.f2 | exact hI.f3 | exact hI.f4 | exact hI.f5 | exact hI.f6 | exact hI.f7 | exact hI.f8 | exact hI.f9 | exact hI.f10 | exact hI.f11 | exact hI.f12 | exact hI.f13 | exact fun _ => rfl | skip))
        exact fun _ => congrArg (Value.int .i64) Hw.out
      · intro L us wx K a ha hp hd hun hI hK
        have HX := hI.x
        clear hp HX
        replace hd := Lib.hid hd
        simp only [putAll, Act.put, List.setIfInBounds_toArray, List.set_cons_succ, List.set_cons_zero, Nat.reduceAdd] at ha
        subst ha
        simp only [Act.put, List.setIfInBounds_toArray, List.set_cons_succ, List.set_cons_zero] at hK
        go_simp
        refine hK _ _ ?_
        first
        | (refine ⟨hI.x, hI.g3, hI.g0, hI.g1, hI.g2, hI.f0, hI.f1, hI.f2, hI.f3, hI.f4, hI.f5, hI.f6, hI.f7, hI.f8, ?_, hI.f10, hI.f11, hI.f12, hI.f13⟩ <;> (first | exact fun _ => rfl | skip))
        | (refine ⟨?_, ?_, ?_, ?_, ?_, ?_, ?_, ?_, ?_, ?_, ?_, ?_, ?_, ?_, ?_, ?_, ?_, ?_, ?_⟩ <;> (first | exact hI.x | exact hI.g3 | exact hI.g0 | exact hI.g1 | exact hI.g2 | exact hI.f0 | exact hI.f1 | exact hI.f2 | exact hI.f3 | exact hI.f4 | exact hI.f5 | exact hI.f6 | exact hI.f7 | exact hI.f8 | exact hI.f9 | exact hI.f10 | exact hI.f11 | exact hI.f12 | exact hI.f13 | exact fun _ => rfl | skip))
      · intro L us wx K a ha hp hd hun hI hK
        have HX := hI.x
        have u9 := hI.f9 (hp 9 (by kernel_rfl))
        have bb := hI.g0.cell
        clear hp HX
        replace hd := Lib.hid hd
        simp only [putAll, Act.put, List.setIfInBounds_toArray, List.set_cons_succ, List.set_cons_zero, Nat.reduceAdd, u9] at ha
        subst ha
        simp only [Act.put, List.setIfInBounds_toArray, List.set_cons_succ, List.set_cons_zero] at hK
        go_simp
        refine hK _ _ ?_
        first
        | (refine ⟨hI.x, hI.g3, hI.g0, hI.g1, hI.g2, hI.f0, hI.f1, hI.f2, hI.f3, hI.f4, hI.f5, hI.f6, hI.f7, hI.f8, hI.f9, ?_, hI.f11, hI.f12, hI.f13⟩ <;> (first | exact fun _ => rfl | skip))
        | (refine ⟨?_, ?_, ?_, ?_, ?_, ?_, ?_, ?_, ?_, ?_, ?_, ?_, ?_, ?_, ?_, ?_, ?_, ?_, ?_⟩ <;> (first | exact hI.x | exact hI.g3 | exact hI.g0 | exact hI.g1 | exact hI.g2 | exact hI.f0 | exact hI.f1 | exact hI.f2 | exact hI.f3 | exact hI.f4 | exact hI.f5 | exact hI.f6 | exact hI.f7 | exact hI.f8 | exact hI.f9 | exact hI.f10 | exact hI.f11 | exact hI.f12 | exact hI.f13 | exact fun _ => rfl | skip))
      · intro L us wx K a ha hp hd hun hI hK
        have HX := hI.x
        have u5 := hI.f5 (hp 5 (by kernel_rfl))
        have u8 := hI.f8 (hp 8 (by kernel_rfl))
        have u10 := hI.f10 (hp 10 (by kernel_rfl))
        have EX := Lib.hid (HE3.out.trans HX)
        clear hp HX
        replace hd := Lib.hid hd
        simp only [putAll, Act.put, List.setIfInBounds_toArray, List.set_cons_succ, List.set_cons_zero, Nat.reduceAdd, u5, u8, u10] at ha
        subst ha
        simp only [Act.put, List.setIfInBounds_toArray, List.set_cons_succ, List.set_cons_zero] at hK
        go_simp
        go_at_call 53
        refine (CL.out _ EX.out).mono ?_
        rintro e wn ⟨g2, hg, rfl, q1, En⟩
        go_simp
        refine hK _ _ ?_
        first
        | (refine ⟨hI.x.trans En, ?_, ?_, ?_, ?_, hI.f0, hI.f1, hI.f2, hI.f3, hI.f4, hI.f5, hI.f6, hI.f7, hI.f8, hI.f9, hI.f10, ?_, ?_, hI.f13⟩ <;> (first | exact hI.g3.ext En | exact fun h => (hI.g3 h).ext En | exact fun h h2 => (hI.g3 h h2).ext En | exact fun h => own_ext (hI.g3 h) En | exact hI.g3 | exact hI.g0.ext En | exact fun h => (hI.g0 h).ext En | exact fun h h2 => (hI.g0 h h2).ext En | exact fun h => own_ext (hI.g0 h) En | exact hI.g0 | exact hI.g1.ext En | exact fun h => (hI.g1 h).ext En | exact fun h h2 => (hI.g1 h h2).ext En | exact fun h => own_ext (hI.g1 h) En | exact hI.g1 | exact hI.g2.ext En | exact fun h => (hI.g2 h).ext En | exact fun h h2 => (hI.g2 h h2).ext En | exact fun h => own_ext (hI.g2 h) En | exact hI.g2 | exact fun h => (hI.f12 h).ext En | exact fun h => own_ext (hI.f12 h) En | exact fun _ => rfl | skip))
        | (refine ⟨hI.x.trans En, ?_, ?_, ?_, ?_, ?_, ?_, ?_, ?_, ?_, ?_, ?_, ?_, ?_, ?_, ?_, ?_, ?_, ?_⟩ <;> (first | exact hI.g3.ext En | exact fun h => (hI.g3 h).ext En | exact fun h h2 => (hI.g3 h h2).ext En | exact fun h => own_ext (hI.g3 h) En | exact hI.g3 | exact hI.g0.ext En | exact fun h => (hI.g0 h).ext En | exact fun h h2 => (hI.g0 h h2).ext En | exact fun h => own_ext (hI.g0 h) En | exact hI.g0 | exact hI.g1.ext En | exact fun h => (hI.g1 h).ext En | exact fun h h2 => (hI.g1 h h2).ext En | exact fun h => own_ext (hI.g1 h) En | exact hI.g1 | exact hI.g2.ext En | exact fun h => (hI.g2 h).ext En | exact fun h h2 => (hI.g2 h h2).ext En | exact fun h => own_ext (hI.g2 h) En | exact hI.g2 | exact hI.f0 | exact hI.f1 | exact hI.f2 | exact hI.f3 | exact hI.f4 | exact hI.f5 | exact hI.f6 | exact hI.f7 | exact hI.f8 | exact hI.f9 | exact hI.f10 | exact hI.f11 | exact fun h => (hI.f12 h).ext En | exact hI.f13 | exact fun _ => rfl | skip))
        all_goals exact (by first|exact fun _ _ => q1|exact fun h => own_ext (hI.f12 h) En)
      · intro L us wx K a ha hp hd hun hI hK
        have u0 := hI.f0 (hp 0 (by kernel_rfl))
        have u11 := hI.f11 (hp 11 (by kernel_rfl))
        have own := hI.g1 hun
        have hb := hI.g2 (hp 11 (by kernel_rfl)) hun
        obtain ⟨gq, hgq⟩ : ∃ gq, bk (us 11) = gq := ⟨_, rfl⟩
        rw [hgq] at u11 hb
        have h13 : L 13 = false := Bool.eq_false_iff.2 fun hl => absurd (hd 13 12 hl (by kernel_rfl)) (by rw [hun]; decide)
        have hUx : U ≤ wx.heap.size := by have := hI.x.size; have := HU.out; omega
        replace hd := Lib.hid hd
        simp only [putAll, Act.put, List.setIfInBounds_toArray, List.set_cons_succ, List.set_cons_zero, Nat.reduceAdd, u0, u11] at ha
        subst ha
        simp only [Act.put, List.setIfInBounds_toArray, List.set_cons_succ, List.set_cons_zero] at hK
        have hS := cells_of_blk hb Hln.out (by have := Hn40.out; omega)
        unfold Cells at hS
        rw [Hln.out] at hS
        refine step_append_any rfl (.tmp 27) (.tmp 38) 47 rfl U 27 i9 _ 3 24 Tryz.underlying47 hi9 hz9 hz91 hz92 rfl (by decide) v AL.length (AL.map Pt.cs).flatten rfl own (some ⟨gq, 0, none⟩) n n (Lc.map Pt.cs) rfl hS (nofun) (fun u hu => ?_) Hx.out.1 Hx.out.2 hUx ?_
        · obtain ⟨r, hr, hu⟩ := List.mem_flatten.1 hu
          obtain ⟨p, -, rfl⟩ := List.mem_map.1 hr
          simp only [Pt.cs, List.mem_cons, List.not_mem_nil, or_false] at hu
          rcases hu with rfl | rfl | rfl <;> rfl
        · intro v' w' own' hg
          refine hK _ _ ⟨hI.x.grown hg (fun k hk => by have := (own.lt k hk).1; have := HU.out; omega), ?_, blkGrown hI.g0 own hg (by decide), (fun h => nomatch (show true = false from h)), (fun _ h => nomatch (show true = false from h)), ?_, ?_, ?_, ?_, ?_, ?_, ?_, ?_, ?_, ?_, ?_, ?_, ?_, ?_⟩
          all_goals (first | exact hI.g3 | exact hI.f0 | exact hI.f1 | exact hI.f2 | exact hI.f3 | exact hI.f4 | exact hI.f5 | exact hI.f6 | exact hI.f7 | exact hI.f8 | exact hI.f9 | exact hI.f10 | exact hI.f11 | exact fun h => absurd (show L 13 = true from h) (by rw [h13]; decide) | exact fun _ => own' | skip)
      · intro L us wx K a ha hp hd hun hI hK
        have HX := hI.x
        have u12 := hI.f12 (hp 12 (by kernel_rfl))
        clear hp HX
        replace hd := Lib.hid hd
        simp only [putAll, Act.put, List.setIfInBounds_toArray, List.set_cons_succ, List.set_cons_zero, Nat.reduceAdd] at ha
        subst ha
        simp only [Act.put, List.setIfInBounds_toArray, List.set_cons_succ, List.set_cons_zero] at hK
        go_simp
        refine hK _ _ ?_
        first
        | (refine ⟨hI.x, hI.g3, hI.g0, hI.g1, hI.g2, hI.f0, hI.f1, hI.f2, hI.f3, hI.f4, hI.f5, hI.f6, hI.f7, hI.f8, hI.f9, hI.f10, hI.f11, hI.f12, ?_⟩ <;> (first | exact fun _ => rfl | skip))
        | (refine ⟨?_, ?_, ?_, ?_, ?_, ?_, ?_, ?_, ?_, ?_, ?_, ?_, ?_, ?_, ?_, ?_, ?_, ?_, ?_⟩ <;> (first | exact hI.x | exact hI.g3 | exact hI.g0 | exact hI.g1 | exact hI.g2 | exact hI.f0 | exact hI.f1 | exact hI.f2 | exact hI.f3 | exact hI.f4 | exact hI.f5 | exact hI.f6 | exact hI.f7 | exact hI.f8 | exact hI.f9 | exact hI.f10 | exact hI.f11 | exact hI.f12 | exact hI.f13 | exact fun _ => rfl | skip))
        exact fun h => nomatch (show true = false from h)
      intro L us wx hall hI
      have e13 := hI.f13 (hall 13 (by simp))
      have own12 := hI.f12 (hall 12 (by simp))
      have EX := hI.x
      obtain ⟨v2, hv2⟩ : ∃ v2, us 12 = v2 := ⟨_, rfl⟩
      rw [hv2] at e13 own12
      simp only [putAll, Act.put, List.setIfInBounds_toArray, List.set_cons_succ, List.set_cons_zero, Nat.reduceAdd, e13]
      clear hall hI e13 hv2
      go_wp2_with fail
      go_roundw
      case rel =>
        refine ⟨j + 1, _, by omega, by go_num, rfl, EX, ?_⟩
        rw [allC_succ, HAL.out, Hbc.out, List.length_append, List.map_append, List.flatten_append, Hln.out]
        exact own12
      case measure => simp only [intOf]; omega
    · obtain rfl : j = nb := by omega
      have B2r := (B2.ext E3).ext Er
      obtain ⟨AL, hAL⟩ : ∃ l, allC ks bs j = l := ⟨_, rfl⟩
      rw [hAL] at own hal
      have HAL := Lib.hid hAL
      clear hAL
      by_cases hn : AL.length = 0
      · obtain rfl := List.eq_nil_of_length_eq_zero hn
        have c2 := B2r.cell
        have f2 := B2r.frozen
        obtain ⟨WZ, hWZ, BZ, EZ⟩ := set6' (.int .i64 0) (.int .i64 0) (.int .i64 0) (.int .i64 0) (.int .i64 0) (.int .i64 0) B2r ((HE.out.trans E3).trans Er) (by rw [HT.out]; omega)
        have cZ := BZ.cell
        obtain ⟨A0, cp0, rfl⟩ := ownForm own
        clear own hn
        go_wp2_with fail
        refine bodyPost_ret (v := .tuple #[.agg #[.int .i64 0, .int .i64 0, .int .i64 0, .int .i64 0, .int .i64 0, .int .i64 0], .int .i64 0]) (by simp [results, Tryz.results27, go_sem, cZ]) rfl ⟨by rw [HAL.out]; rfl, EZ⟩
      · obtain ⟨g, cap, rfl⟩ := own_form own (by omega)
        obtain ⟨RX, hgU, hc1, hc2⟩ := RowX.of_own (rows := AL.map Pt.cs) own
        obtain ⟨⟨x0, y0, z0⟩, hc⟩ : ∃ c, AL[0]? = some c := ⟨_, List.getElem?_eq_getElem (by omega)⟩
        have hr : (AL.map Pt.cs)[0]? = some (Pt.cs ⟨x0, y0, z0⟩) := by rw [List.getElem?_map, hc]; rfl
        have c0 := RX.cell (pts_wide' AL) hr (j := 0) rfl
        have c1 := RX.cell (pts_wide' AL) hr (j := 1) rfl
        have c2 := RX.cell (pts_wide' AL) hr (j := 2) rfl
        simp only [Nat.add_zero, Nat.zero_mul, Nat.zero_add] at c0 c1 c2
        have Hcc := Lib.hid (And.intro c0 (And.intro c1 c2))
        have Hc := Lib.hid hc
        obtain ⟨ln, hln⟩ : ∃ n, AL.length = n := ⟨_, rfl⟩
        rw [hln] at hal hn
        have Hln := Lib.hid hln
        have hnN : 0 < ln := by omega
        have hn0 : (0 : Int) < ln := by omega
        have hn1 : ¬ (ln : Int) = 0 := by omega
        have hnb : ((ln : Int) == 0) = false := by simpa using hn
        rw [hln]
        clear own c0 c1 c2 hr hc hln b1
        go_upto_region 12 with (fail)
        refine wp_region_by0 (Bd12 wr (.slice (some ⟨g, 0, none⟩) ln cap) ⟨g, 0, none⟩ ⟨x0, y0, z0⟩) (by kernel_rfl) (by kernel_rfl) (by kernel_rfl) ⟨(Ext.refl _).drew, (nofun), (nofun), (nofun), (nofun), (nofun), (nofun), (nofun), (nofun), (nofun), (nofun), (nofun)⟩ ⟨?_, ?_, ?_, ?_, ?_, ?_, ?_, ?_, ?_, trivial⟩ ?_
        · intro L us wx K a ha hp hd hun hI hK
          have HX := hI.x
          clear hp HX
          replace hd := Lib.hid hd
          simp only [putAll, Act.put, List.setIfInBounds_toArray, List.set_cons_succ, List.set_cons_zero, Nat.reduceAdd] at ha
          subst ha
          simp only [Act.put, List.setIfInBounds_toArray, List.set_cons_succ, List.set_cons_zero] at hK
          go_simp
          refine hK _ _ ?_
          first
          | (refine ⟨hI.x, hI.g0, hI.g1, ?_, hI.f1, hI.f2, hI.f3, hI.f4, hI.f5, hI.f6, hI.f7, hI.f8⟩ <;> (first | exact fun _ => rfl | skip))
          | (refine ⟨?_, ?_, ?_, ?_, ?_, ?_, ?_, ?_, ?_, ?_, ?_, ?_⟩ <;> (first | exact hI.x | exact hI.g0 | exact hI.g1 | exact hI.f0 | exact hI.f1 | exact hI.f2 | exact hI.f3 | exact hI.f4 | exact hI.f5 | exact hI.f6 | exact hI.f7 | exact hI.f8 | exact fun _ => rfl | skip))
        · intro L us wx K a ha hp hd hun hI hK
          have HX := hI.x
          have u0 := hI.f0 (hp 0 (by kernel_rfl))
          clear hp HX
          replace hd := Lib.hid hd
          simp only [putAll, Act.put, List.setIfInBounds_toArray, List.set_cons_succ, List.set_cons_zero, Nat.reduceAdd, u0] at ha
          subst ha
          simp only [Act.put, List.setIfInBounds_toArray, List.set_cons_succ, List.set_cons_zero] at hK
          go_simp
          refine hK _ _ ?_
          first
          | (refine ⟨hI.x, hI.g0, hI.g1, hI.f0, ?_, hI.f2, hI.f3, hI.f4, hI.f5, hI.f6, hI.f7, hI.f8⟩ <;> (first | exact fun _ => rfl | skip))
          | (refine ⟨?_, ?_, ?_, ?_, ?_, ?_, ?_, ?_, ?_, ?_, ?_, ?_⟩ <;> (first | exact hI.x | exact hI.g0 | exact hI.g1 | exact hI.f0 | exact hI.f1 | exact hI.f2 | exact hI.f3 | exact hI.f4 | exact hI.f5 | exact hI.f6 | exact hI.f7 | exact hI.f8 | exact fun _ => rfl | skip))
        · intro L us wx K a ha hp hd hun hI hK
          have HX := hI.x
          have u1 := hI.f1 (hp 1 (by kernel_rfl))
          have q0 := HX.cell Hcc.out.1
          have q1 := HX.cell Hcc.out.2.1
          have q2 := HX.cell Hcc.out.2.2
          clear hp HX
          replace hd := Lib.hid hd
          simp only [putAll, Act.put, List.setIfInBounds_toArray, List.set_cons_succ, List.set_cons_zero, Nat.reduceAdd, u1] at ha
          subst ha
          simp only [Act.put, List.setIfInBounds_toArray, List.set_cons_succ, List.set_cons_zero] at hK
          go_simp
          refine hK _ _ ?_
          first
          | (refine ⟨hI.x, hI.g0, hI.g1, hI.f0, hI.f1, ?_, hI.f3, hI.f4, hI.f5, hI.f6, hI.f7, hI.f8⟩ <;> (first | exact fun _ => rfl | skip))
          | (refine ⟨?_, ?_, ?_, ?_, ?_, ?_, ?_, ?_, ?_, ?_, ?_, ?_⟩ <;> (first | exact hI.x | exact hI.g0 | exact hI.g1 | exact hI.f0 | exact hI.f1 | exact hI.f2 | exact hI.f3 | exact hI.f4 | exact hI.f5 | exact hI.f6 | exact hI.f7 | exact hI.f8 | exact fun _ => rfl | skip))
        · intro L us wx K a ha hp hd hun hI hK
          have HX := hI.x
          clear hp HX
          replace hd := Lib.hid hd
          simp only [putAll, Act.put, List.setIfInBounds_toArray, List.set_cons_succ, List.set_cons_zero, Nat.reduceAdd] at ha
          subst ha
          simp only [Act.put, List.setIfInBounds_toArray, List.set_cons_succ, List.set_cons_zero] at hK
          go_simp
          refine hK _ _ ?_
          first
          | (refine ⟨hI.x, hI.g0, hI.g1, hI.f0, hI.f1, hI.f2, ?_, hI.f4, hI.f5, hI.f6, hI.f7, hI.f8⟩ <;> (first | exact fun _ => rfl | skip))
          | (refine ⟨?_, ?_, ?_, ?_, ?_, ?_, ?_, ?_, ?_, ?_, ?_, ?_⟩ <;> (first | exact hI.x | exact hI.g0 | exact hI.g1 | exact hI.f0 | exact hI.f1 | exact hI.f2 | exact hI.f3 | exact hI.f4 | exact hI.f5 | exact hI.f6 | exact hI.f7 | exact hI.f8 | exact fun _ => rfl | skip))
        · intro L us wx K a ha hp hd hun hI hK
          have HX := hI.x
          have u3 := hI.f3 (hp 3 (by kernel_rfl))
          clear hp HX
          replace hd := Lib.hid hd
          simp only [putAll, Act.put, List.setIfInBounds_toArray, List.set_cons_succ, List.set_cons_zero, Nat.reduceAdd, u3] at ha
          subst ha
          simp only [Act.put, List.setIfInBounds_toArray, List.set_cons_succ, List.set_cons_zero] at hK
          go_simp
          refine hK _ _ ?_
          first
          | (refine ⟨hI.x, hI.g0, hI.g1, hI.f0, hI.f1, hI.f2, hI.f3, ?_, hI.f5, hI.f6, hI.f7, hI.f8⟩ <;> (first | exact fun _ => rfl | skip))
          | (refine ⟨?_, ?_, ?_, ?_, ?_, ?_, ?_, ?_, ?_, ?_, ?_, ?_⟩ <;> (first | exact hI.x | exact hI.g0 | exact hI.g1 | exact hI.f0 | exact hI.f1 | exact hI.f2 | exact hI.f3 | exact hI.f4 | exact hI.f5 | exact hI.f6 | exact hI.f7 | exact hI.f8 | exact fun _ => rfl | skip))
        · intro L us wx K a ha hp hd hun hI hK
          have HX := hI.x
          have u4 := hI.f4 (hp 4 (by kernel_rfl))
          have q0 := HX.cell Hcc.out.1
          have q1 := HX.cell Hcc.out.2.1
          have q2 := HX.cell Hcc.out.2.2
          clear hp HX
          replace hd := Lib.hid hd
          simp only [putAll, Act.put, List.setIfInBounds_toArray, List.set_cons_succ, List.set_cons_zero, Nat.reduceAdd, u4] at ha
          subst ha
          simp only [Act.put, List.setIfInBounds_toArray, List.set_cons_succ, List.set_cons_zero] at hK
          go_simp
          refine hK _ _ ?_
          first
          | (refine ⟨hI.x, hI.g0, hI.g1, hI.f0, hI.f1, hI.f2, hI.f3, hI.f4, ?_, hI.f6, hI.f7, hI.f8⟩ <;> (first | exact fun _ => rfl | skip))
          | (refine ⟨?_, ?_, ?_, ?_, ?_, ?_, ?_, ?_, ?_, ?_, ?_, ?_⟩ <;> (first | exact hI.x | exact hI.g0 | exact hI.g1 | exact hI.f0 | exact hI.f1 | exact hI.f2 | exact hI.f3 | exact hI.f4 | exact hI.f5 | exact hI.f6 | exact hI.f7 | exact hI.f8 | exact fun _ => rfl | skip))
        · intro L us wx K a ha hp hd hun hI hK
          have HX := hI.x
          have u2 := hI.f2 (hp 2 (by kernel_rfl))
          have u5 := hI.f5 (hp 5 (by kernel_rfl))
          clear hp HX
          replace hd := Lib.hid hd
          simp only [putAll, Act.put, List.setIfInBounds_toArray, List.set_cons_succ, List.set_cons_zero, Nat.reduceAdd, u2, u5] at ha
          subst ha
          simp only [Act.put, List.setIfInBounds_toArray, List.set_cons_succ, List.set_cons_zero] at hK
          go_simp
          refine hK _ _ ?_
          first
          | (refine ⟨hI.x, hI.g0, hI.g1, hI.f0, hI.f1, hI.f2, hI.f3, hI.f4, hI.f5, ?_, hI.f7, hI.f8⟩ <;> (first | exact fun _ => rfl | skip))
          | (refine ⟨?_, ?_, ?_, ?_, ?_, ?_, ?_, ?_, ?_, ?_, ?_, ?_⟩ <;> (first | exact hI.x | exact hI.g0 | exact hI.g1 | exact hI.f0 | exact hI.f1 | exact hI.f2 | exact hI.f3 | exact hI.f4 | exact hI.f5 | exact hI.f6 | exact hI.f7 | exact hI.f8 | exact fun _ => rfl | skip))
        · intro L us wx K a ha hp hd hun hI hK
          have h8 : L 8 = false := Bool.eq_false_iff.2 fun hl => absurd (hd 8 7 hl (by kernel_rfl)) (by rw [hun]; decide)
          replace hd := Lib.hid hd
          simp only [putAll, Act.put, List.setIfInBounds_toArray, List.set_cons_succ, List.set_cons_zero, Nat.reduceAdd] at ha
          subst ha
          simp only [Act.put, List.setIfInBounds_toArray, List.set_cons_succ, List.set_cons_zero] at hK
          go_simp
          refine hK _ _ ?_
          refine ⟨hI.x.alloc _, (fun _ => hI.x.size), (fun _ _ => Blk.new _ _ _), ?_, ?_, ?_, ?_, ?_, ?_, ?_, ?_, ?_⟩
          all_goals (first | exact hI.f0 | exact hI.f1 | exact hI.f2 | exact hI.f3 | exact hI.f4 | exact hI.f5 | exact hI.f6 | exact fun _ => rfl | exact fun h => absurd (show L 8 = true from h) (by rw [h8]; decide))
        · intro L us wx K a ha hp hd hun hI hK
          have u7 := hI.f7 (hp 7 (by kernel_rfl))
          have u6 := hI.f6 (hp 6 (by kernel_rfl))
          have hb := hI.g1 (hp 7 (by kernel_rfl)) hun
          have hg := hI.g0 (hp 7 (by kernel_rfl))
          obtain ⟨gs, hgs⟩ : ∃ gs, bk (us 7) = gs := ⟨_, rfl⟩
          rw [hgs] at u7 hb hg
          have cb := hb.cell
          have fb := hb.frozen
          obtain ⟨V, hV, BV, EV⟩ := set6' (.int .i64 x0) (.int .i64 y0) (.int .i64 z0) (.int .i64 x0) (.int .i64 y0) (.int .i64 z0) hb hI.x hg
          have BV' : Blk V (bk (us 7)) 66 #[.int .i64 x0, .int .i64 y0, .int .i64 z0, .int .i64 x0, .int .i64 y0, .int .i64 z0] := by rw [hgs]; exact BV
          replace hgs := Lib.hid hgs
          replace hd := Lib.hid hd
          simp only [putAll, Act.put, List.setIfInBounds_toArray, List.set_cons_succ, List.set_cons_zero, Nat.reduceAdd, u6, u7] at ha
          subst ha
          simp only [Act.put] at hK
          go_simp
          refine hK undef _ ?_
          refine ⟨EV, ?_, (fun _ h => nomatch (show true = false from h)), ?_, ?_, ?_, ?_, ?_, ?_, ?_, ?_, ?_⟩
          all_goals (first | exact hI.g0 | exact hI.f0 | exact hI.f1 | exact hI.f2 | exact hI.f3 | exact hI.f4 | exact hI.f5 | exact hI.f6 | exact hI.f7 | exact fun _ => BV')
        intro L us wx hall hI
        have e7 := hI.f7 (hall 7 (by simp))
        have BS := hI.f8 (hall 8 (by simp))
        have hS := hI.g0 (hall 7 (by simp))
        have EX := hI.x
        obtain ⟨S, hSe⟩ : ∃ S, bk (us 7) = S := ⟨_, rfl⟩
        rw [hSe] at e7 BS hS
        simp only [putAll, Act.put, List.setIfInBounds_toArray, List.set_cons_succ, List.set_cons_zero, Nat.reduceAdd, e7]
        clear hall hI e7 hSe
        have RX2 := RX.ext EX
        have ErX := Er.trans EX
        have hSW := Nat.le_trans Er.size hS
        have HSW := Lib.hid hSW
        have hgS : g ≠ S := by have := RX.lt; omega
        have BS0 : Blk wx S 66 (spC (spanOf (AL.take (tk 0)))) := by
          rw [show AL.take (tk 0) = [⟨x0, y0, z0⟩] from by show AL.take (0 + 1) = _; rw [List.take_add_one, Hc.out]; rfl, spanOf_one]
          exact BS
        clear BS EX RX hS B2r Er
        go_wp2_with fail
        go_loopw [54] (fun ii wr' => ∃ (q : Nat), q ≤ ln ∧ ii = .int .i64 q ∧ Ext W3 wr' ∧ RowX wr' g 27 (AL.map Pt.cs) ∧ Blk wr' S 66 (spC (spanOf (AL.take (tk q))))) (fun ii _ => ln - (intOf ii).toNat)
        case atStart => exact ⟨0, by omega, rfl, ErX, RX2, BS0⟩
        case round =>
          clear ErX RX2 BS0
          obtain ⟨q, hqn, rfl, Er, RX, BS⟩ := hrel
          by_cases hqt : q < ln
          · obtain ⟨⟨x1, y1, z1⟩, hc⟩ : ∃ c, AL[q]? = some c := ⟨_, List.getElem?_eq_getElem (by rw [Hln.out]; exact hqt)⟩
            have hr : (AL.map Pt.cs)[q]? = some (Pt.cs ⟨x1, y1, z1⟩) := by rw [List.getElem?_map, hc]; rfl
            have c0 := RX.cell (pts_wide' AL) hr (j := 0) rfl
            have c1 := RX.cell (pts_wide' AL) hr (j := 1) rfl
            have c2 := RX.cell (pts_wide' AL) hr (j := 2) rfl
            simp only [Nat.add_zero] at c0
            have HF := Lib.hid (span_tk hc)
            clear hc hr
            obtain ⟨⟨⟨lx, ly, lz⟩, ⟨mx, my, mz⟩⟩, hsp⟩ : ∃ s, spanOf (AL.take (tk q)) = s := ⟨_, rfl⟩
            rw [hsp] at BS
            have Hsp := Lib.hid hsp
            clear hsp
            unfold spC at BS
            simp only at BS
            obtain ⟨WC, hWC, EC, BX, hzC⟩ := mk_ wr #[.int .i64 x1, .int .i64 y1, .int .i64 z1] 27
            have bx := BX.cell
            have hXS : wr.heap.size ≠ S := by have := BS.lt; omega
            have B7 := BS.ext EC
            have c7 := B7.cell
            have f7 := B7.frozen
            have hVs : W3.heap.size ≤ S := HSW.out
            obtain ⟨W8, hW8, B8, E8, R8⟩ := span_lo (.int .i64 (min lx x1)) (.int .i64 (min ly y1)) (.int .i64 (min lz z1)) B7 (Er.trans EC) hVs hgS (RX.ext EC)
            have BX8 : Blk W8 wr.heap.size 27 #[.int .i64 x1, .int .i64 y1, .int .i64 z1] := by rw [← hW8]; exact ((BX.far hXS _).far hXS _).far hXS _
            have c8 := B8.cell
            have f8 := B8.frozen
            have bx8 := BX8.cell
            obtain ⟨W10, hW10, B10, E10, R10⟩ := span_hi (.int .i64 (max mx x1)) (.int .i64 (max my y1)) (.int .i64 (max mz z1)) B8 E8 hVs hgS R8
            clear hzC
            go_wp2_with fail
            go_roundw
            case rel =>
              refine ⟨q + 1, by omega, by go_num, E10, R10, ?_⟩
              rw [HF.out, Hsp.out]
              exact B10
            case measure => simp only [intOf]; omega
          · obtain rfl : q = ln := by omega
            rw [show AL.take (tk q) = AL from by rw [tk, if_neg (by omega), ← Hln.out, List.take_length]] at BS
            obtain ⟨⟨⟨lx, ly, lz⟩, ⟨mx, my, mz⟩⟩, hsp⟩ : ∃ s, spanOf AL = s := ⟨_, rfl⟩
            rw [hsp] at BS
            have Hsp := Lib.hid hsp
            clear hsp
            unfold spC at BS
            simp only at BS
            have cv := BS.cell
            have B2r := (B2.ext E3).ext Er
            have c2 := B2r.cell
            have f2 := B2r.frozen
            obtain ⟨WZ, hWZ, BZ, EZ⟩ := set6' (.int .i64 lx) (.int .i64 ly) (.int .i64 lz) (.int .i64 mx) (.int .i64 my) (.int .i64 mz) B2r ((HE.out.trans E3).trans Er) (by rw [HT.out]; omega)
            have cZ := BZ.cell
            go_wp2_with fail
            refine bodyPost_ret (v := .tuple #[.agg #[.int .i64 lx, .int .i64 ly, .int .i64 lz, .int .i64 mx, .int .i64 my, .int .i64 mz], .int .i64 0]) (by simp [results, Tryz.results27, go_sem, cZ]) rfl ⟨by rw [HAL.out, Hsp.out]; rfl, EZ⟩
end Go.Proofs.YtjacbhomhjoolaaGreat
namespace Go.Proofs.YtjacbhomhjoolaaGreat
open Go.RowKit

set_option maxRecDepth 100000 in
set_option maxHeartbeats 4000000 in
theorem bounds_c (qs : List (Knd × KAt)) (QA : Option Addr) (qc : Nat) (bs : List Brk) (B : Option Addr) (cb : Nat) (w : World) (hk : Kinds w QA qc qs) (hb : Bricks w B cb bs) :
    Calls Tryz.prog 27 #[.slice QA qs.length qc, .agg #[.slice B bs.length cb]] w (SpanRes (boundsV (qs.map (·.1)) bs) (checkErr (qs.map (·.1)) bs) w) := by
  obtain ⟨r, hr⟩ : ∃ r, checkErr (qs.map (·.1)) bs = r := ⟨_, rfl⟩
  by_cases h0 : r = 0
  · subst h0
    have := boundsG_c qs QA qc bs B cb w hk hb hr
    rw [hr, bounds_ok hr]
    exact this
  · obtain ⟨W1, hW1, E1, B1, hz1⟩ := mk_ w #[.slice B bs.length cb] 25
    obtain ⟨W2, hW2, E2, B2, hz2⟩ := mk_ W1 (spC (⟨0, 0, 0⟩, ⟨0, 0, 0⟩)) 66
    unfold spC at hW2 B2
    rw [hz1] at B2
    have b1 := (B1.ext E2).cell
    have CK := checkM_c qs QA qc bs B cb W2 (hk.ext (E1.trans E2)) (hb.ext (E1.trans E2))
    obtain ⟨T, hT⟩ : ∃ T, w.heap.size = T := ⟨_, rfl⟩
    rw [hT] at B1 B2
    have HT := Lib.hid hT
    have HE := Lib.hid (E1.trans E2)
    have HZ1 := Lib.hid (show W1.heap.size = T + 1 by omega)
    clear hz1 hz2
    rw [hr] at CK
    have Hv := Lib.hid (bounds_bad hr h0)
    rw [hr, Hv.out]
    have h1 : (r != 0) = true := by simpa using h0
    clear hr h0 hk hb Hv hT
    go_enter Tryz.func27, Tryz.ntmps27
    go_wp2_with fail
    rw [HT.out, HZ1.out]
    refine CK.mono ?_
    rintro e W3 ⟨rfl, E3⟩
    have B3 := B2.ext E3
    have c3 := B3.cell
    have f3 := B3.frozen
    obtain ⟨V, hV, BV, EV⟩ := set6' (.int .i64 0) (.int .i64 0) (.int .i64 0) (.int .i64 0) (.int .i64 0) (.int .i64 0) B3 (HE.out.trans E3) (by rw [HT.out]; omega)
    have cv := BV.cell
    go_wp2_with fail
    refine bodyPost_ret (v := .tuple #[.agg #[.int .i64 0, .int .i64 0, .int .i64 0, .int .i64 0, .int .i64 0, .int .i64 0], .int .i64 r]) (by simp [results, Tryz.results27, go_sem, cv]) rfl ⟨rfl, EV⟩
end Go.Proofs.YtjacbhomhjoolaaGreat
namespace Go.Proofs.YtjacbhomhjoolaaGreat
open Go.RowKit

/-- A brick turned and moved. -/
def moveB (t : Nat) (s : Pt) (b : Brk) : Brk := ⟨b.kind, addP (turnS b.at_ t) s, compT b.turn.toNat t, b.color⟩
def movedL (t : Nat) (s : Pt) (bs : List Brk) : List Brk := bs.map (moveB t s)
theorem movedL_len (t : Nat) (s : Pt) (bs : List Brk) : (movedL t s bs).length = bs.length := List.length_map _
theorem movedL_at {t : Nat} {s : Pt} {bs : List Brk} {j : Nat} {b : Brk} (h : bs[j]? = some b) : (movedL t s bs)[j]? = some (moveB t s b) := by
  unfold movedL
  rw [List.getElem?_map, h]
  rfl
theorem movedL_snoc {t : Nat} {s : Pt} {bs : List Brk} {j : Nat} {b : Brk} (h : bs[j]? = some b) : (movedL t s bs).take (j + 1) = (movedL t s bs).take j ++ [moveB t s b] := by
  rw [List.take_add_one, movedL_at h]
  rfl
def moveErr (ks : List Knd) (bs : List Brk) (turn : Int) (s : Pt) : Int :=
  if checkErr ks bs = 0 then (if inB 0 23 turn = true ∧ nearB s (-1000) 1000 = true then (if bricksB ks.length (movedL turn.toNat s bs) then 0 else 11) else 2) else checkErr ks bs
def moveL (ks : List Knd) (bs : List Brk) (turn : Int) (s : Pt) : List Brk := if moveErr ks bs turn s = 0 then movedL turn.toNat s bs else []
theorem moveErr_check {ks : List Knd} {bs : List Brk} {turn : Int} {s : Pt} {r : Int} (h : checkErr ks bs = r) (h0 : r ≠ 0) : moveErr ks bs turn s = r := by rw [moveErr, h, if_neg h0]
theorem moveErr_arg {ks : List Knd} {bs : List Brk} {turn : Int} {s : Pt} (h : checkErr ks bs = 0) (h0 : ¬ (inB 0 23 turn = true ∧ nearB s (-1000) 1000 = true)) : moveErr ks bs turn s = 2 := by rw [moveErr, if_pos h, if_neg h0]
theorem moveErr_brick {ks : List Knd} {bs : List Brk} {turn : Int} {s : Pt} (h : checkErr ks bs = 0) (h0 : inB 0 23 turn = true ∧ nearB s (-1000) 1000 = true) : moveErr ks bs turn s = if bricksB ks.length (movedL turn.toNat s bs) then 0 else 11 := by rw [moveErr, if_pos h, if_pos h0]
theorem moveL_bad {ks : List Knd} {bs : List Brk} {turn : Int} {s : Pt} {r : Int} (h : moveErr ks bs turn s = r) (h0 : r ≠ 0) : moveL ks bs turn s = [] := if_neg (by rw [h]; exact h0)
/-- What Move hands back: a model and an error. -/
def MoveRes (l : List Brk) (r : Int) (w : World) (e : Ending) (w' : World) : Prop := ∃ A cap, e = .returned (.tuple #[.agg #[.slice A l.length cap], .int .i64 r]) ∧ Bricks w' A cap l ∧ (∀ q, A = some q → w.heap.size ≤ q.block) ∧ Ext w w'
theorem bricks_nil (w : World) : Bricks w none 0 [] := ⟨⟨rfl, Nat.le_refl _, Nat.zero_le _, by simp, fun h => by cases h⟩, by simp⟩
theorem moveNil {r : Int} {w w' : World} (E : Ext w w') : MoveRes [] r w (.returned (.tuple #[.agg #[.slice none 0 0], .int .i64 r])) w' := ⟨none, 0, rfl, bricks_nil _, (fun _ h => nomatch h), E⟩
end Go.Proofs.YtjacbhomhjoolaaGreat
namespace Go.Proofs.YtjacbhomhjoolaaGreat
open Go.RowKit

end Go.Proofs.YtjacbhomhjoolaaGreat
namespace Go.Proofs.YtjacbhomhjoolaaGreat
open Go.RowKit

theorem near_ok1 {p : Pt} (h : nearB p (-1000) 1000 = true) : p.ok := by
  obtain ⟨x, y, z⟩ := p
  have h1 := h
  simp only [nearB, Bool.and_eq_true, inB_iff] at h1
  refine Pt.in_.ok (B := 1000) ?_ (by omega)
  unfold Pt.in_
  simp only
  omega
theorem compT_in (a b : Nat) : compT a b < 24 := by
  unfold compT
  cases h : (List.range 24).find? (compB a b) with
  | none => decide
  | some k => exact List.mem_range.1 (List.mem_of_find?_eq_some h)
theorem infoBrick : (Tryz.prog.info? 51).map (fun i => (i.zero, i.size, i.bytes)) = some (some (.agg #[.int .i64 0, .int .i64 0, .int .i64 0, .int .i64 0, .int .u8 0, .int .u8 0]), 6, 40) := by kernel_rfl
end Go.Proofs.YtjacbhomhjoolaaGreat
namespace Go.Proofs.YtjacbhomhjoolaaGreat
open Go.RowKit

end Go.Proofs.YtjacbhomhjoolaaGreat
