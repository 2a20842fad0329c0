/- Move of the reference at a valid model, turn and step. UNDER WAY. Move of the program at a valid model, turn and step. Move of the program, all cases. Move of the reference, all cases. Great of the reference; SameInts. No conditions. The law LatticeModels, walked. Condition: a nil list of bricks has no room. -/
import Derived.Test.YtenigkngmdofiaaLm11

namespace Go.Proofs.Ytenigkngmdofiaa
open Go.RowKit

theorem near_ok1 {p : Pt} (h : nearB p (-1000) 1000 = true) : p.ok := by
  obtain ⟨x, y, z⟩ := p
  have h1 := h
  simp only [nearB, Bool.and_eq_true, inB_iff] at h1
  refine Pt.in_.ok (B := 1000) ?_ (by omega)
  unfold Pt.in_
  simp only
  omega
theorem compT_in (a b : Nat) : compT a b < 24 := by
  unfold compT
  cases h : (List.range 24).find? (compB a b) with
  | none => decide
  | some k => exact List.mem_range.1 (List.mem_of_find?_eq_some h)
theorem infoBrick : (Try.prog.info? 42).map (fun i => (i.zero, i.size, i.bytes)) = some (some (.agg #[.int .i64 0, .int .i64 0, .int .i64 0, .int .i64 0, .int .u8 0, .int .u8 0]), 6, 40) := by kernel_rfl
set_option maxRecDepth 100000 in
set_option maxHeartbeats 16000000 in
theorem rMoveG_c (qs : List (Knd × KAt)) (QA : Option Addr) (qc : Nat) (bs : List Brk) (B : Option Addr) (cb : Nat) (tn : Nat) (sx sy sz : Int) (w : World) (hk : Kinds w QA qc qs) (hb : Bricks w B cb bs)
    (hr : checkErr (qs.map (·.1)) bs = 0) (ht : tn < 24) (hs : nearB ⟨sx, sy, sz⟩ (-1000) 1000 = true) (r : Int) (R : List Brk)
    (hgood : (∀ j, j < bs.length → (moveB tn ⟨sx, sy, sz⟩ (brkAt bs j)).ok qs.length = true) → r = 0 ∧ R = movedL tn ⟨sx, sy, sz⟩ bs) (hbad : ∀ j, j < bs.length → (moveB tn ⟨sx, sy, sz⟩ (brkAt bs j)).ok qs.length = false → r = 11 ∧ R = []) :
    Calls Try.prog 39 #[.slice QA qs.length qc, .agg #[.slice B bs.length cb], .int .i64 tn, .agg #[.int .i64 sx, .int .i64 sy, .int .i64 sz]] w (MoveRes R r w) := by
  obtain ⟨W1, hW1, E1, B1, hz1⟩ := mk_ w #[.slice B bs.length cb] 46
  obtain ⟨W2, hW2, E2, B2, hz2⟩ := mk_ W1 #[.int .i64 sx, .int .i64 sy, .int .i64 sz] 23
  obtain ⟨W3, hW3, E3, B3, hz3⟩ := mk_ W2 #[.slice none 0 0] 46
  rw [hz1] at B2
  rw [hz2, hz1] at B3
  have E13 := (E1.trans E2).trans E3
  have b1 := ((B1.ext E2).ext E3).cell
  have CK := rCheck_c qs QA qc bs B cb W3 (hk.ext E13) (hb.ext E13)
  rw [hr] at CK
  obtain ⟨T, hT⟩ : ∃ T, w.heap.size = T := ⟨_, rfl⟩
  rw [hT] at B1 B2 B3
  have HT := Lib.hid hT
  have HE := Lib.hid E13
  have HZ1 := Lib.hid (show W1.heap.size = T + 1 by omega)
  have HZ2 := Lib.hid (show W2.heap.size = T + 1 + 1 by omega)
  clear hz1 hz2 hz3
  have RT := risTurn_c tn
  rw [show inB 0 23 (tn : Int) = true by rw [inB_iff]; omega] at RT
  have RN := rnear_c sx sy sz (-1000) 1000
  rw [hs] at RN
  have hbn := (mfine_of hk hb.2 (check_model hr)).n
  have sok := near_ok1 hs
  have hqn := hk.len
  have PL := Lib.hid (fun (b : Brk) (hm : b ∈ bs) => (mfine_of hk hb.2 (check_model hr)).b b hm)
  have Hgood := Lib.hid hgood
  have Hbad := Lib.hid hbad
  have HB := Lib.hid hb
  have BB2 := B2.ext E3
  have b1m := (B1.ext E2).ext E3
  obtain ⟨i9, hi9, hz9, hz91, hz92⟩ := info_parts infoBrick
  clear hr hk hb hT hgood hbad hs
  go_enter Try.func39, Try.ntmps39
  go_wp2_with fail
  rw [HT.out, HZ1.out, HZ2.out]
  clear hW1 hW2 hW3 b1
  refine CK.mono ?_
  rintro e W4 ⟨rfl, E4⟩
  have b2 := (BB2.ext E4).cell
  go_wp2_with fail
  refine (RT _).mono ?_
  rintro e W5 ⟨rfl, rfl⟩
  go_wp2_with fail
  refine (RN _).mono ?_
  rintro e W6 ⟨rfl, E6⟩
  obtain ⟨W7, hW7, E7, B7, hz7⟩ := mk_ W6 #[.slice none 0 0] 46
  obtain ⟨O, hO⟩ : ∃ O, W6.heap.size = O := ⟨_, rfl⟩
  rw [hO] at B7
  have HO := Lib.hid hO
  clear hO hz7 b2
  go_upto_region 7 with (fail)
  rw [HO.out]
  go_wp2_with fail
  go_loopw [12] (fun ii wr => ∃ (j : Nat) (v : Value), j ≤ bs.length ∧ ii = .int .i64 j ∧ Ext W6 wr ∧ Blk wr O 46 #[v] ∧ wr.ownsRow (O + 1) 42 6 v j (((movedL tn ⟨sx, sy, sz⟩ bs).take j).map Brk.cs).flatten ∧ Hid (∀ k, k < j → (moveB tn ⟨sx, sy, sz⟩ (brkAt bs k)).ok qs.length = true)) (fun ii _ => bs.length - (intOf ii).toNat)
  case atStart => exact ⟨0, _, by omega, rfl, E7, B7, World.ownsRow_nil _ _ _ _, Lib.hid (fun k hk => by omega)⟩
  case round =>
    clear B7 E7
    obtain ⟨j, v, hj, rfl, Er, BO, own, HK⟩ := hrel
    have b1 := (((b1m.ext E4).ext E6).ext Er).cell
    by_cases hlt : j < bs.length
    · obtain ⟨g, off, ⟨kd, ⟨x, y, z⟩, t, cl⟩, rfl, hq, hby, hg, d0, d1, d2, d3, d4, d5⟩ := (((HB.out.ext HE.out).ext (E4.trans E6)).ext Er).at_ (k := j) hlt
      obtain ⟨i, tb, kk, p, e1, e2, htb, hqi, hkf, hpt, -⟩ := PL.out _ (List.mem_of_getElem? hq)
      simp only at e1 e2 hpt d0 d1 d2 d3 d4 d5
      subst e1 e2
      have hpo : Pt.ok ⟨x, y, z⟩ := hpt.ok (by omega)
      obtain ⟨W8, hW8, E8, B8, hz8⟩ := mk_ wr #[.int .i64 i, .int .i64 x, .int .i64 y, .int .i64 z, .int .u8 tb, .int .u8 cl] 42
      obtain ⟨G, hG⟩ : ∃ G, wr.heap.size = G := ⟨_, rfl⟩
      rw [hG] at B8
      have HG := Lib.hid hG
      have Hq := Lib.hid hq
      have j0 : (0 : Int) ≤ j := by omega
      have j1 : (j : Int) < bs.length := by omega
      clear hz8 hG hqi hkf hpt hq
      go_upto_region 11 with (fail)
      rw [HG.out]
      have b8 := B8.cell
      have f8 := B8.frozen
      have b2 := ((((BB2.ext E4).ext E6).ext Er).ext E8).cell
      clear b1 d0 d1 d2 d3 d4 d5
      refine wp_region_tail 7 (by kernel_rfl) (by kernel_rfl) ?_
      simp only [List.take_succ_cons, List.take_zero, List.drop_succ_cons, List.drop_zero]
      repeat (go_big_quiet_step ((first | (go_at_call 46; exact quiet_ext (turned_c x y z tn _ ht hpo)) | (go_at_call 76; exact quiet_ext (rPlus_c _ _ _ _ _ _ _ (turnS_ok hpo tn) sok)))))
      refine wpQuiet_nil ?_
      intro W9 hW9
      have E9 : Ext W8 W9 := by
        obtain ⟨x, rfl⟩ := hW9
        exact (Ext.refl _).grow x
      clear hW9
      obtain ⟨hcW9, hfW9, hzW9⟩ := ext_facts E9
      have B9 := B8.ext E9
      have b9 := B9.cell
      have f9 := B9.frozen
      clear hcW9 hfW9 hzW9 b8 f8 b2
      have hGw : wr.heap.size ≤ G := by have := HG.out; omega
      obtain ⟨W10, hW10⟩ : ∃ V, ((W9.setCell ⟨G, 1, none⟩ (.int .i64 ((turnS ⟨x, y, z⟩ tn).x + sx))).setCell ⟨G, 2, none⟩ (.int .i64 ((turnS ⟨x, y, z⟩ tn).y + sy))).setCell ⟨G, 3, none⟩ (.int .i64 ((turnS ⟨x, y, z⟩ tn).z + sz)) = V := ⟨_, rfl⟩
      have B10 : Blk W10 G 42 #[.int .i64 i, .int .i64 ((turnS ⟨x, y, z⟩ tn).x + sx), .int .i64 ((turnS ⟨x, y, z⟩ tn).y + sy), .int .i64 ((turnS ⟨x, y, z⟩ tn).z + sz), .int .u8 tb, .int .u8 cl] := by rw [← hW10]; exact ((B9.set_ 1 _).set_ 2 _).set_ 3 _
      have E10 : Ext wr W10 := by rw [← hW10]; exact (((E8.trans E9).setCell hGw _).setCell hGw _).setCell hGw _
      have b10 := B10.cell
      have f10 := B10.frozen
      have hcT := compT_in tb tn
      have w1 : IntKind.i64.wrap (tb : Int) = tb := IntWalk.i64_in _ (by omega)
      have w2 : IntKind.u8.wrap (compT tb tn : Int) = compT tb tn := IntWalk.u8_in _ (by omega)
      go_wp2_with fail
      refine (composed_c tb tn htb ht _).mono ?_
      rintro e W11 ⟨rfl, E11⟩
      have B11 := B10.ext E11
      have b11 := B11.cell
      have f11 := B11.frozen
      clear b9 f9 b10 f10 hW10
      obtain ⟨W12, hW12⟩ : ∃ V, W11.setCell ⟨G, 4, none⟩ (.int .u8 (compT tb tn : Nat)) = V := ⟨_, rfl⟩
      have B12 : Blk W12 G 42 #[.int .i64 i, .int .i64 ((turnS ⟨x, y, z⟩ tn).x + sx), .int .i64 ((turnS ⟨x, y, z⟩ tn).y + sy), .int .i64 ((turnS ⟨x, y, z⟩ tn).z + sz), .int .u8 (compT tb tn : Nat), .int .u8 cl] := by rw [← hW12]; exact B11.set_ 4 _
      have E12 : Ext wr W12 := by rw [← hW12]; exact (E10.trans E11).setCell hGw _
      have b12 := B12.cell
      obtain ⟨k0, hk0⟩ : ∃ k, Brk.ok qs.length ⟨(i : Int), ⟨(turnS ⟨x, y, z⟩ tn).x + sx, (turnS ⟨x, y, z⟩ tn).y + sy, (turnS ⟨x, y, z⟩ tn).z + sz⟩, (compT tb tn : Nat), cl⟩ = k := ⟨_, rfl⟩
      have CV := rValidBrick_c qs.length qc QA i ((turnS ⟨x, y, z⟩ tn).x + sx) ((turnS ⟨x, y, z⟩ tn).y + sy) ((turnS ⟨x, y, z⟩ tn).z + sz) (compT tb tn : Nat) cl W12 hqn
      rw [hk0] at CV
      have Hk0 := Lib.hid (show (moveB tn ⟨sx, sy, sz⟩ (brkAt bs j)).ok qs.length = k0 by rw [brkAt_eq Hq.out, ← hk0]; rfl)
      have Hmb := Lib.hid (movedL_snoc (t := tn) (s := ⟨sx, sy, sz⟩) Hq.out)
      clear hk0
      go_wp2_with fail
      refine CV.mono ?_
      rintro e W13 ⟨rfl, E13'⟩
      cases k0
      · obtain ⟨rfl, rfl⟩ := Hbad.out j hlt Hk0.out
        have B3r := (((B3.ext E4).ext E6).ext (Er.trans (E12.trans E13')))
        have c3 := B3r.cell
        have f3 := B3r.frozen
        obtain ⟨V, hV⟩ : ∃ V, W13.setCell ⟨T + 1 + 1, 0, none⟩ (.slice none 0 0) = V := ⟨_, rfl⟩
        have BV : Blk V (T + 1 + 1) 46 #[.slice none 0 0] := by rw [← hV]; exact B3r.set_ 0 _
        have EV : Ext w V := by rw [← hV]; exact (((HE.out.trans E4).trans E6).trans (Er.trans (E12.trans E13'))).setCell (by have := HT.out; show w.heap.size ≤ T + 1 + 1; omega) _
        have cv := BV.cell
        clear b12 b11 f11
        go_wp2_with fail
        refine bodyPost_ret (v := .tuple #[.agg #[.slice none 0 0], .int .i64 11]) (by simp [results, Try.results39, go_sem, cv]) rfl (moveNil EV)
      · have EA := E12.trans E13'
        have own13 := own_ext own EA
        have BO13 := BO.ext EA
        have bo := BO13.cell
        have fo := BO13.frozen
        have B13 := B12.ext E13'
        have b13 := B13.cell
        have hxl : j + 1 ≤ maxLen := by unfold maxLen; omega
        have hxb : (j + 1) * 40 ≤ 140737488355328 := by omega
        have hOb : O + 1 ≤ W13.heap.size := BO13.lt
        have HO6 := Lib.hid (show W6.heap.size ≤ O from Nat.le_of_eq HO.out)
        clear b12 b11 f11
        go_wp2_with (at_builtin; refine wpList_append_one #[.int .i64 i, .int .i64 ((turnS ⟨x, y, z⟩ tn).x + sx), .int .i64 ((turnS ⟨x, y, z⟩ tn).y + sy), .int .i64 ((turnS ⟨x, y, z⟩ tn).z + sz), .int .u8 (compT tb tn : Nat), .int .u8 cl] rfl (.tmp 62) (.tmp 64) 44 rfl (O + 1) 42 42 i9 _ 6 40 Try.underlying44 hi9 hz9 hz91 hz92 rfl (by decide) _ _ _ _ rfl own13 rfl rfl (by simp [Value.oneCell']) hxl hxb hOb ?_; intro g8 cap8 w8 own8 hg8; have ownA := own_ext own13 ((Ext.refl W13).alloc (.cells #[.int .i64 i, .int .i64 ((turnS ⟨x, y, z⟩ tn).x + sx), .int .i64 ((turnS ⟨x, y, z⟩ tn).y + sy), .int .i64 ((turnS ⟨x, y, z⟩ tn).z + sz), .int .u8 (compT tb tn : Nat), .int .u8 cl] 42)); have BO8 := blkGrown (BO13.alloc (.cells #[.int .i64 i, .int .i64 ((turnS ⟨x, y, z⟩ tn).x + sx), .int .i64 ((turnS ⟨x, y, z⟩ tn).y + sy), .int .i64 ((turnS ⟨x, y, z⟩ tn).z + sz), .int .u8 (compT tb tn : Nat), .int .u8 cl] 42)) ownA hg8 (by decide); have bo8 := BO8.cell; have fo8 := BO8.frozen)
        go_roundw
        case rel =>
          refine ⟨j + 1, .slice (some ⟨g8, 0, none⟩) (j + 1) cap8, by omega, by go_num, (((Er.trans EA).alloc _).grown hg8 (fun k hk => by have := (ownA.lt k hk).1; have := HO6.out; omega)).setCell HO6.out _, BO8.set_ 0 _, own_setCell ?_ (Nat.lt_succ_self O) _, Lib.hid (fun k hk => ?_)⟩
          · rw [Hmb.out, List.map_append, List.flatten_append]
            exact own8
          · rcases Nat.lt_or_ge k j with h | h
            · exact HK.out k h
            · obtain rfl : k = j := by omega
              exact Hk0.out
        case measure => simp only [intOf]; omega
    · obtain rfl : j = bs.length := by omega
      obtain ⟨rfl, rfl⟩ := Hgood.out (fun k hk => HK.out k hk)
      have hOT : T + 1 + 1 < O := by
        have := B3.lt
        have := E4.size
        have := E6.size
        have := HO.out
        omega
      rw [show (movedL tn ⟨sx, sy, sz⟩ bs).take bs.length = movedL tn ⟨sx, sy, sz⟩ bs by rw [← movedL_len tn ⟨sx, sy, sz⟩ bs, List.take_length]] at own
      obtain ⟨A, cap, rfl⟩ := ownForm own
      have B3r := (((B3.ext E4).ext E6).ext Er)
      have c3 := B3r.cell
      have f3 := B3r.frozen
      have bo := BO.cell
      obtain ⟨V, hV⟩ : ∃ V, wr.setCell ⟨T + 1 + 1, 0, none⟩ (.slice A bs.length cap) = V := ⟨_, rfl⟩
      have BV : Blk V (T + 1 + 1) 46 #[.slice A bs.length cap] := by rw [← hV]; exact B3r.set_ 0 _
      have EV : Ext w V := by rw [← hV]; exact (((HE.out.trans E4).trans E6).trans Er).setCell (by have := HT.out; show w.heap.size ≤ T + 1 + 1; omega) _
      have ownV : V.ownsRow (O + 1) 42 6 (.slice A bs.length cap) bs.length ((movedL tn ⟨sx, sy, sz⟩ bs).map Brk.cs).flatten := by rw [← hV]; exact own_setCell own (by show T + 1 + 1 < O + 1; omega) _
      have HownV := Lib.hid ownV
      have HOT := Lib.hid hOT
      have cv := BV.cell
      clear own ownV hOT
      go_wp2_with fail
      refine bodyPost_ret (v := .tuple #[.agg #[.slice A bs.length cap], .int .i64 0]) (by simp [results, Try.results39, go_sem, cv]) rfl ?_
      obtain ⟨A', cap', he, hS, hA⟩ := own_slice0 (rows := (movedL tn ⟨sx, sy, sz⟩ bs).map Brk.cs) (fun r hr => by obtain ⟨b, -, rfl⟩ := List.mem_map.1 hr; rfl) (by rw [List.length_map, movedL_len]) HownV.out
      cases he
      refine ⟨A, cap, by rw [movedL_len], ⟨by rw [movedL_len]; exact hS, fun b hb => ?_⟩, fun q hq => by have := hA q hq; have := HOT.out; have := HT.out; omega, EV⟩
      obtain ⟨b0, hb0, rfl⟩ := List.mem_map.1 hb
      have h1 := (HB.out.2 b0 hb0).2
      have h2 := compT_in b0.turn.toNat tn
      exact ⟨⟨by show (0 : Int) ≤ (compT _ _ : Nat); omega, by show ((compT _ _ : Nat) : Int) ≤ 255; omega⟩, h1⟩
end Go.Proofs.Ytenigkngmdofiaa

namespace Go.Proofs.Ytenigkngmdofiaa
open Go.RowKit

structure Mv10 (W0 : World) (G T1 : Nat) (i px py pz tb nx ny nz sx sy sz : Int) (tn nt : Nat) (cl : Int) (L : Nat → Bool) (us : Nat → Value) (w : World) : Prop where
  x : Ext W0 w
  g0 : Blk w T1 23 #[.int .i64 sx, .int .i64 sy, .int .i64 sz]
  g1 : L 13 = false → L 15 = false → Blk w G 42 #[.int .i64 i, .int .i64 px, .int .i64 py, .int .i64 pz, .int .u8 tb, .int .u8 cl]
  g2 : L 13 = true → L 15 = false → Blk w G 42 #[.int .i64 i, .int .i64 (nx + sx), .int .i64 (ny + sy), .int .i64 (nz + sz), .int .u8 tb, .int .u8 cl]
  g3 : L 15 = true → Blk w G 42 #[.int .i64 i, .int .i64 (nx + sx), .int .i64 (ny + sy), .int .i64 (nz + sz), .int .u8 (nt : Nat), .int .u8 cl]
  f0 : L 0 = true → us 0 = .pointer (some ⟨G, 1, none⟩)
  f1 : L 1 = true → us 1 = .agg #[.int .i64 px, .int .i64 py, .int .i64 pz]
  f2 : L 2 = true → us 2 = .int .i64 tn
  f3 : L 3 = true → us 3 = .agg #[.int .i64 nx, .int .i64 ny, .int .i64 nz]
  f4 : L 4 = true → us 4 = .agg #[.int .i64 sx, .int .i64 sy, .int .i64 sz]
  f5 : L 5 = true → us 5 = .agg #[.int .i64 (nx + sx), .int .i64 (ny + sy), .int .i64 (nz + sz)]
  f6 : L 6 = true → us 6 = .pointer (some ⟨G, 4, none⟩)
  f7 : L 7 = true → us 7 = .int .u8 tb
  f8 : L 8 = true → us 8 = .int .i64 tb
  f9 : L 9 = true → us 9 = .int .i64 tn
  f10 : L 10 = true → us 10 = .int .i64 nt
  f11 : L 11 = true → us 11 = .int .u8 nt
  f12 : L 12 = true → us 12 = .pointer (some ⟨G, 1, none⟩)
  f14 : L 14 = true → us 14 = .pointer (some ⟨G, 4, none⟩)
theorem three_set {w w0 : World} {g : Nat} {t : TypeId} {i x y z tb cl : Value} (h : Blk w g t #[i, x, y, z, tb, cl]) (E : Ext w0 w) (hg : w0.heap.size ≤ g) (a b c : Value) :
    ∃ V, ((w.setCell ⟨g, 1, none⟩ a).setCell ⟨g, 2, none⟩ b).setCell ⟨g, 3, none⟩ c = V ∧ Blk V g t #[i, a, b, c, tb, cl] ∧ Ext w0 V ∧ ∀ k t' cs', k ≠ g → Blk w k t' cs' → Blk V k t' cs' :=
  ⟨_, rfl, ((h.set_ 1 a).set_ 2 b).set_ 3 c, ((E.setCell hg a).setCell hg b).setCell hg c, fun _ _ _ hk hb => ((hb.far hk _).far hk _).far hk _⟩
set_option maxRecDepth 100000 in
set_option maxHeartbeats 16000000 in
theorem moveG_c (qs : List (Knd × KAt)) (QA : Option Addr) (qc : Nat) (bs : List Brk) (B : Option Addr) (cb : Nat) (tn : Nat) (sx sy sz : Int) (w : World) (hk : Kinds w QA qc qs) (hb : Bricks w B cb bs)
    (hr : checkErr (qs.map (·.1)) bs = 0) (ht : tn < 24) (hs : nearB ⟨sx, sy, sz⟩ (-1000) 1000 = true) (r : Int) (R : List Brk)
    (hA : askedErr (qs.map (·.1)) (movedL tn ⟨sx, sy, sz⟩ bs) = r) (hgood : r = 0 → R = movedL tn ⟨sx, sy, sz⟩ bs) (hbad : r ≠ 0 → R = []) :
    Calls Try.prog 38 #[.slice QA qs.length qc, .agg #[.slice B bs.length cb], .int .i64 tn, .agg #[.int .i64 sx, .int .i64 sy, .int .i64 sz]] w (MoveOwn R r w) := by
  obtain ⟨W1, hW1, E1, B1, hz1⟩ := mk_ w #[.slice B bs.length cb] 46
  obtain ⟨W2, hW2, E2, B2, hz2⟩ := mk_ W1 #[.int .i64 sx, .int .i64 sy, .int .i64 sz] 23
  obtain ⟨W3, hW3, E3, B3, hz3⟩ := mk_ W2 #[.slice none 0 0] 46
  rw [hz1] at B2
  rw [hz2, hz1] at B3
  have E13 := (E1.trans E2).trans E3
  have b1 := ((B1.ext E2).ext E3).cell
  have CK := checkM_c qs QA qc bs B cb W3 (hk.ext E13) (hb.ext E13)
  rw [hr] at CK
  obtain ⟨T, hT⟩ : ∃ T, w.heap.size = T := ⟨_, rfl⟩
  rw [hT] at B1 B2 B3
  have HT := Lib.hid hT
  have HE := Lib.hid E13
  have HZ1 := Lib.hid (show W1.heap.size = T + 1 by omega)
  have HZ2 := Lib.hid (show W2.heap.size = T + 1 + 1 by omega)
  clear hz1 hz2 hz3
  have RT := fun W => isTurn1_c W tn 3
  rw [show inB 0 23 (tn : Int) = true by rw [inB_iff]; omega] at RT
  have RN := near_c sx sy sz (-1000) 1000
  rw [hs] at RN
  have hbn := (mfine_of hk hb.2 (check_model hr)).n
  have sok := near_ok1 hs
  have hqn := hk.len
  have PL := Lib.hid (fun (b : Brk) (hm : b ∈ bs) => (mfine_of hk hb.2 (check_model hr)).b b hm)
  have CH := Lib.hid (fun W (E : Ext w W) A cap (h : Bricks W A cap (movedL tn ⟨sx, sy, sz⟩ bs)) => check_c qs QA qc (movedL tn ⟨sx, sy, sz⟩ bs) A cap W (hk.ext E) h)
  rw [hA, movedL_len] at CH
  have Hgood := Lib.hid hgood
  have Hbad := Lib.hid hbad
  have HB := Lib.hid hb
  have BB2 := B2.ext E3
  have b1m := (B1.ext E2).ext E3
  obtain ⟨i9, hi9, hz9, hz91, hz92⟩ := info_parts infoBrick
  clear hr hk hb hT hgood hbad hs hA
  go_enter Try.func38, Try.ntmps38
  go_wp2_with fail
  rw [HT.out, HZ1.out, HZ2.out]
  clear hW1 hW2 hW3 b1
  refine CK.mono ?_
  rintro e W4 ⟨rfl, E4⟩
  go_wp2_with fail
  refine (RT _).mono ?_
  rintro e W5 ⟨rfl, h5⟩
  have E5 : Ext W4 W5 := h5 ▸ (Ext.refl W4).alloc _
  clear h5
  have b2 := ((BB2.ext E4).ext E5).cell
  go_wp2_with fail
  refine (RN _).mono ?_
  rintro e W6 ⟨rfl, E6⟩
  obtain ⟨W7, hW7, E7, B7, hz7⟩ := mk_ W6 #[.slice none 0 0] 46
  obtain ⟨O, hO⟩ : ∃ O, W6.heap.size = O := ⟨_, rfl⟩
  rw [hO] at B7
  have HO := Lib.hid hO
  have E46 := (E4.trans E5).trans E6
  have BT6 := (BB2.ext E46)
  clear hO hz7 b2
  have b1 := (b1m.ext (E46.trans E7)).cell
  go_upto_region 6 with (fail)
  go_upto_region 7 with (fail)
  rw [HO.out]
  go_wp2_with fail
  clear b1
  go_loopw [35] (fun ii wr => ∃ (j : Nat) (v : Value), j ≤ bs.length ∧ ii = .int .i64 j ∧ Ext W6 wr ∧ Blk wr O 46 #[v] ∧ wr.ownsRow (O + 1) 42 6 v j (((movedL tn ⟨sx, sy, sz⟩ bs).take j).map Brk.cs).flatten) (fun ii _ => bs.length - (intOf ii).toNat)
  case atStart => exact ⟨0, _, by omega, rfl, E7, B7, World.ownsRow_nil _ _ _ _⟩
  case round =>
    clear B7 E7
    obtain ⟨j, v, hj, rfl, Er, BO, own⟩ := hrel
    by_cases hlt : j < bs.length
    · obtain ⟨g, off, ⟨kd, ⟨x, y, z⟩, t, cl⟩, rfl, hq, hby, hg, d0, d1, d2, d3, d4, d5⟩ := (((HB.out.ext HE.out).ext E46).ext Er).at_ (k := j) hlt
      obtain ⟨i, tb, kk, p, e1, e2, htb, hqi, hkf, hpt, -⟩ := PL.out _ (List.mem_of_getElem? hq)
      simp only at e1 e2 hpt d0 d1 d2 d3 d4 d5
      subst e1 e2
      have hpo : Pt.ok ⟨x, y, z⟩ := hpt.ok (by omega)
      have CT := Lib.hid (fun W => turn_c x y z tn W ht hpo)
      have hto := turnS_ok hpo tn
      have Hmb := Lib.hid (movedL_snoc (t := tn) (s := ⟨sx, sy, sz⟩) hq)
      unfold moveB addP at Hmb
      simp only at Hmb
      obtain ⟨⟨nx, ny, nz⟩, hn⟩ : ∃ q, turnS ⟨x, y, z⟩ tn = q := ⟨_, rfl⟩
      rw [hn] at CT hto Hmb
      have CP := Lib.hid (fun W => plus_c nx ny nz sx sy sz W hto sok)
      have CC := Lib.hid (fun W => compose_c tb tn htb ht W)
      have hcT := compT_in tb tn
      rw [Int.toNat_natCast] at Hmb
      obtain ⟨nt, hnt⟩ : ∃ q, compT tb tn = q := ⟨_, rfl⟩
      rw [hnt] at CC hcT Hmb
      have w1 := Lib.hid (show IntKind.i64.wrap (tb : Int) = tb from IntWalk.i64_in _ (by omega))
      have w2 := Lib.hid (show IntKind.u8.wrap (nt : Int) = nt from IntWalk.u8_in _ (by omega))
      obtain ⟨W8, hW8, E8, B8, hz8⟩ := mk_ wr #[.int .i64 i, .int .i64 x, .int .i64 y, .int .i64 z, .int .u8 tb, .int .u8 cl] 42
      obtain ⟨G, hG⟩ : ∃ G, wr.heap.size = G := ⟨_, rfl⟩
      rw [hG] at B8
      have HG := Lib.hid hG
      have j0 : (0 : Int) ≤ j := by omega
      have j1 : (j : Int) < bs.length := by omega
      have hTG : T + 1 ≠ G := by have := (BT6.ext Er).lt; omega
      have hOG : O ≠ G := by have := BO.lt; omega
      clear hz8 hG hqi hkf hpt hq hn hnt
      go_upto_region 10 with (fail)
      rw [HG.out]
      clear d0 d1 d2 d3 d4 d5
      have BT8 := (BT6.ext Er).ext E8
      have hGr : wr.heap.size ≤ G := Nat.le_of_eq HG.out
      have HTG := Lib.hid hTG
      clear hTG
      refine wp_region_by (Mv10 wr G (T + 1) i x y z tb nx ny nz sx sy sz tn nt cl) (by kernel_rfl) (by kernel_rfl) (by kernel_rfl) (fun us => ⟨E8.drew, BT8.drew, fun _ _ => B8.drew, (nofun), (nofun), (nofun), (nofun), (nofun), (nofun), (nofun), (nofun), (nofun), (nofun), (nofun), (nofun), (nofun), (nofun), (nofun), (nofun)⟩) ⟨?_, ?_, ?_, ?_, ?_, ?_, ?_, ?_, ?_, ?_, ?_, ?_, ?_, ?_, ?_, ?_, trivial⟩ ?_
      · intro L us wx K a ha hp hd hun hI hK
        have HX := hI.x
        clear hp HX
        replace hd := Lib.hid hd
        simp only [putAll, Act.put, List.setIfInBounds_toArray, List.set_cons_succ, List.set_cons_zero, Nat.reduceAdd] at ha
        subst ha
        simp only [Act.put, List.setIfInBounds_toArray, List.set_cons_succ, List.set_cons_zero] at hK
        go_simp
        refine hK _ _ ?_
        refine ⟨?_, ?_, ?_, ?_, ?_, ?_, ?_, ?_, ?_, ?_, ?_, ?_, ?_, ?_, ?_, ?_, ?_, ?_, ?_⟩
        all_goals (first | exact hI.x | exact hI.g0 | exact hI.g1 | exact hI.g2 | exact hI.g3 | exact hI.f0 | exact hI.f1 | exact hI.f2 | exact hI.f3 | exact hI.f4 | exact hI.f5 | exact hI.f6 | exact hI.f7 | exact hI.f8 | exact hI.f9 | exact hI.f10 | exact hI.f11 | exact hI.f12 | exact hI.f14 | exact fun _ => rfl | skip)
      · intro L us wx K a ha hp hd hun hI hK
        have HX := hI.x
        have u0 := hI.f0 (hp 0 (by kernel_rfl))
        have h13 : L 13 = false := Bool.eq_false_iff.2 fun hl => absurd (hd 13 1 hl (by kernel_rfl)) (by rw [hun]; decide)
        have h15 : L 15 = false := Bool.eq_false_iff.2 fun hl => absurd (hd 15 1 hl (by kernel_rfl)) (by rw [hun]; decide)
        have bb := (hI.g1 h13 h15).cell
        clear hp HX
        replace hd := Lib.hid hd
        simp only [putAll, Act.put, List.setIfInBounds_toArray, List.set_cons_succ, List.set_cons_zero, Nat.reduceAdd, u0] at ha
        subst ha
        simp only [Act.put, List.setIfInBounds_toArray, List.set_cons_succ, List.set_cons_zero] at hK
        go_simp
        refine hK _ _ ?_
        refine ⟨?_, ?_, ?_, ?_, ?_, ?_, ?_, ?_, ?_, ?_, ?_, ?_, ?_, ?_, ?_, ?_, ?_, ?_, ?_⟩
        all_goals (first | exact hI.x | exact hI.g0 | exact hI.g1 | exact hI.g2 | exact hI.g3 | exact hI.f0 | exact hI.f1 | exact hI.f2 | exact hI.f3 | exact hI.f4 | exact hI.f5 | exact hI.f6 | exact hI.f7 | exact hI.f8 | exact hI.f9 | exact hI.f10 | exact hI.f11 | exact hI.f12 | exact hI.f14 | exact fun _ => rfl | skip)
      · intro L us wx K a ha hp hd hun hI hK
        have HX := hI.x
        clear hp HX
        replace hd := Lib.hid hd
        simp only [putAll, Act.put, List.setIfInBounds_toArray, List.set_cons_succ, List.set_cons_zero, Nat.reduceAdd] at ha
        subst ha
        simp only [Act.put, List.setIfInBounds_toArray, List.set_cons_succ, List.set_cons_zero] at hK
        go_simp
        refine hK _ _ ?_
        refine ⟨?_, ?_, ?_, ?_, ?_, ?_, ?_, ?_, ?_, ?_, ?_, ?_, ?_, ?_, ?_, ?_, ?_, ?_, ?_⟩
        all_goals (first | exact hI.x | exact hI.g0 | exact hI.g1 | exact hI.g2 | exact hI.g3 | exact hI.f0 | exact hI.f1 | exact hI.f2 | exact hI.f3 | exact hI.f4 | exact hI.f5 | exact hI.f6 | exact hI.f7 | exact hI.f8 | exact hI.f9 | exact hI.f10 | exact hI.f11 | exact hI.f12 | exact hI.f14 | exact fun _ => rfl | skip)
      · intro L us wx K a ha hp hd hun hI hK
        have HX := hI.x
        have u1 := hI.f1 (hp 1 (by kernel_rfl))
        have u2 := hI.f2 (hp 2 (by kernel_rfl))
        clear hp HX
        replace hd := Lib.hid hd
        simp only [putAll, Act.put, List.setIfInBounds_toArray, List.set_cons_succ, List.set_cons_zero, Nat.reduceAdd, u1, u2] at ha
        subst ha
        simp only [Act.put, List.setIfInBounds_toArray, List.set_cons_succ, List.set_cons_zero] at hK
        go_simp
        go_at_call 43
        refine (CT.out _).mono ?_
        rintro e wn ⟨rfl, En⟩
        go_simp
        refine hK _ _ ?_
        refine ⟨hI.x.trans En, ?_, ?_, ?_, ?_, ?_, ?_, ?_, ?_, ?_, ?_, ?_, ?_, ?_, ?_, ?_, ?_, ?_, ?_⟩
        all_goals (first | exact hI.g0.ext En | exact fun h => (hI.g0 h).ext En | exact fun h h2 => (hI.g0 h h2).ext En | exact fun h => own_ext (hI.g0 h) En | exact hI.g0 | exact hI.g1.ext En | exact fun h => (hI.g1 h).ext En | exact fun h h2 => (hI.g1 h h2).ext En | exact fun h => own_ext (hI.g1 h) En | exact hI.g1 | exact hI.g2.ext En | exact fun h => (hI.g2 h).ext En | exact fun h h2 => (hI.g2 h h2).ext En | exact fun h => own_ext (hI.g2 h) En | exact hI.g2 | exact hI.g3.ext En | exact fun h => (hI.g3 h).ext En | exact fun h h2 => (hI.g3 h h2).ext En | exact fun h => own_ext (hI.g3 h) En | exact hI.g3 | exact hI.f0 | exact hI.f1 | exact hI.f2 | exact hI.f3 | exact hI.f4 | exact hI.f5 | exact hI.f6 | exact hI.f7 | exact hI.f8 | exact hI.f9 | exact hI.f10 | exact hI.f11 | exact hI.f12 | exact hI.f14 | exact fun _ => rfl | skip)
      · intro L us wx K a ha hp hd hun hI hK
        have HX := hI.x
        have bb := hI.g0.cell
        clear hp HX
        replace hd := Lib.hid hd
        simp only [putAll, Act.put, List.setIfInBounds_toArray, List.set_cons_succ, List.set_cons_zero, Nat.reduceAdd] at ha
        subst ha
        simp only [Act.put, List.setIfInBounds_toArray, List.set_cons_succ, List.set_cons_zero] at hK
        go_simp
        refine hK _ _ ?_
        refine ⟨?_, ?_, ?_, ?_, ?_, ?_, ?_, ?_, ?_, ?_, ?_, ?_, ?_, ?_, ?_, ?_, ?_, ?_, ?_⟩
        all_goals (first | exact hI.x | exact hI.g0 | exact hI.g1 | exact hI.g2 | exact hI.g3 | exact hI.f0 | exact hI.f1 | exact hI.f2 | exact hI.f3 | exact hI.f4 | exact hI.f5 | exact hI.f6 | exact hI.f7 | exact hI.f8 | exact hI.f9 | exact hI.f10 | exact hI.f11 | exact hI.f12 | exact hI.f14 | exact fun _ => rfl | skip)
      · intro L us wx K a ha hp hd hun hI hK
        have HX := hI.x
        have u3 := hI.f3 (hp 3 (by kernel_rfl))
        have u4 := hI.f4 (hp 4 (by kernel_rfl))
        clear hp HX
        replace hd := Lib.hid hd
        simp only [putAll, Act.put, List.setIfInBounds_toArray, List.set_cons_succ, List.set_cons_zero, Nat.reduceAdd, u3, u4] at ha
        subst ha
        simp only [Act.put, List.setIfInBounds_toArray, List.set_cons_succ, List.set_cons_zero] at hK
        go_simp
        go_at_call 57
        refine (CP.out _).mono ?_
        rintro e wn ⟨rfl, En⟩
        go_simp
        refine hK _ _ ?_
        refine ⟨hI.x.trans En, ?_, ?_, ?_, ?_, ?_, ?_, ?_, ?_, ?_, ?_, ?_, ?_, ?_, ?_, ?_, ?_, ?_, ?_⟩
        all_goals (first | exact hI.g0.ext En | exact fun h => (hI.g0 h).ext En | exact fun h h2 => (hI.g0 h h2).ext En | exact fun h => own_ext (hI.g0 h) En | exact hI.g0 | exact hI.g1.ext En | exact fun h => (hI.g1 h).ext En | exact fun h h2 => (hI.g1 h h2).ext En | exact fun h => own_ext (hI.g1 h) En | exact hI.g1 | exact hI.g2.ext En | exact fun h => (hI.g2 h).ext En | exact fun h h2 => (hI.g2 h h2).ext En | exact fun h => own_ext (hI.g2 h) En | exact hI.g2 | exact hI.g3.ext En | exact fun h => (hI.g3 h).ext En | exact fun h h2 => (hI.g3 h h2).ext En | exact fun h => own_ext (hI.g3 h) En | exact hI.g3 | exact hI.f0 | exact hI.f1 | exact hI.f2 | exact hI.f3 | exact hI.f4 | exact hI.f5 | exact hI.f6 | exact hI.f7 | exact hI.f8 | exact hI.f9 | exact hI.f10 | exact hI.f11 | exact hI.f12 | exact hI.f14 | exact fun _ => rfl | skip)
      · intro L us wx K a ha hp hd hun hI hK
        have HX := hI.x
        clear hp HX
        replace hd := Lib.hid hd
        simp only [putAll, Act.put, List.setIfInBounds_toArray, List.set_cons_succ, List.set_cons_zero, Nat.reduceAdd] at ha
        subst ha
        simp only [Act.put, List.setIfInBounds_toArray, List.set_cons_succ, List.set_cons_zero] at hK
        go_simp
        refine hK _ _ ?_
        refine ⟨?_, ?_, ?_, ?_, ?_, ?_, ?_, ?_, ?_, ?_, ?_, ?_, ?_, ?_, ?_, ?_, ?_, ?_, ?_⟩
        all_goals (first | exact hI.x | exact hI.g0 | exact hI.g1 | exact hI.g2 | exact hI.g3 | exact hI.f0 | exact hI.f1 | exact hI.f2 | exact hI.f3 | exact hI.f4 | exact hI.f5 | exact hI.f6 | exact hI.f7 | exact hI.f8 | exact hI.f9 | exact hI.f10 | exact hI.f11 | exact hI.f12 | exact hI.f14 | exact fun _ => rfl | skip)
      · intro L us wx K a ha hp hd hun hI hK
        have HX := hI.x
        have u6 := hI.f6 (hp 6 (by kernel_rfl))
        have h13 : L 13 = false := Bool.eq_false_iff.2 fun hl => absurd (hd 13 7 hl (by kernel_rfl)) (by rw [hun]; decide)
        have h15 : L 15 = false := Bool.eq_false_iff.2 fun hl => absurd (hd 15 7 hl (by kernel_rfl)) (by rw [hun]; decide)
        have bb := (hI.g1 h13 h15).cell
        clear hp HX
        replace hd := Lib.hid hd
        simp only [putAll, Act.put, List.setIfInBounds_toArray, List.set_cons_succ, List.set_cons_zero, Nat.reduceAdd, u6] at ha
        subst ha
        simp only [Act.put, List.setIfInBounds_toArray, List.set_cons_succ, List.set_cons_zero] at hK
        go_simp
        refine hK _ _ ?_
        refine ⟨?_, ?_, ?_, ?_, ?_, ?_, ?_, ?_, ?_, ?_, ?_, ?_, ?_, ?_, ?_, ?_, ?_, ?_, ?_⟩
        all_goals (first | exact hI.x | exact hI.g0 | exact hI.g1 | exact hI.g2 | exact hI.g3 | exact hI.f0 | exact hI.f1 | exact hI.f2 | exact hI.f3 | exact hI.f4 | exact hI.f5 | exact hI.f6 | exact hI.f7 | exact hI.f8 | exact hI.f9 | exact hI.f10 | exact hI.f11 | exact hI.f12 | exact hI.f14 | exact fun _ => rfl | skip)
      · intro L us wx K a ha hp hd hun hI hK
        have HX := hI.x
        have u7 := hI.f7 (hp 7 (by kernel_rfl))
        clear hp HX
        replace hd := Lib.hid hd
        simp only [putAll, Act.put, List.setIfInBounds_toArray, List.set_cons_succ, List.set_cons_zero, Nat.reduceAdd, u7] at ha
        subst ha
        simp only [Act.put, List.setIfInBounds_toArray, List.set_cons_succ, List.set_cons_zero] at hK
        go_simp
        refine hK _ _ ?_
        refine ⟨?_, ?_, ?_, ?_, ?_, ?_, ?_, ?_, ?_, ?_, ?_, ?_, ?_, ?_, ?_, ?_, ?_, ?_, ?_⟩
        all_goals (first | exact hI.x | exact hI.g0 | exact hI.g1 | exact hI.g2 | exact hI.g3 | exact hI.f0 | exact hI.f1 | exact hI.f2 | exact hI.f3 | exact hI.f4 | exact hI.f5 | exact hI.f6 | exact hI.f7 | exact hI.f8 | exact hI.f9 | exact hI.f10 | exact hI.f11 | exact hI.f12 | exact hI.f14 | exact fun _ => rfl | skip)
        exact fun _ => congrArg (Value.int .i64) w1.out
      · intro L us wx K a ha hp hd hun hI hK
        have HX := hI.x
        clear hp HX
        replace hd := Lib.hid hd
        simp only [putAll, Act.put, List.setIfInBounds_toArray, List.set_cons_succ, List.set_cons_zero, Nat.reduceAdd] at ha
        subst ha
        simp only [Act.put, List.setIfInBounds_toArray, List.set_cons_succ, List.set_cons_zero] at hK
        go_simp
        refine hK _ _ ?_
        refine ⟨?_, ?_, ?_, ?_, ?_, ?_, ?_, ?_, ?_, ?_, ?_, ?_, ?_, ?_, ?_, ?_, ?_, ?_, ?_⟩
        all_goals (first | exact hI.x | exact hI.g0 | exact hI.g1 | exact hI.g2 | exact hI.g3 | exact hI.f0 | exact hI.f1 | exact hI.f2 | exact hI.f3 | exact hI.f4 | exact hI.f5 | exact hI.f6 | exact hI.f7 | exact hI.f8 | exact hI.f9 | exact hI.f10 | exact hI.f11 | exact hI.f12 | exact hI.f14 | exact fun _ => rfl | skip)
      · intro L us wx K a ha hp hd hun hI hK
        have HX := hI.x
        have u8 := hI.f8 (hp 8 (by kernel_rfl))
        have u9 := hI.f9 (hp 9 (by kernel_rfl))
        clear hp HX
        replace hd := Lib.hid hd
        simp only [putAll, Act.put, List.setIfInBounds_toArray, List.set_cons_succ, List.set_cons_zero, Nat.reduceAdd, u8, u9] at ha
        subst ha
        simp only [Act.put, List.setIfInBounds_toArray, List.set_cons_succ, List.set_cons_zero] at hK
        go_simp
        go_at_call 51
        refine (CC.out _).mono ?_
        rintro e wn ⟨rfl, En⟩
        go_simp
        refine hK _ _ ?_
        refine ⟨hI.x.trans En, ?_, ?_, ?_, ?_, ?_, ?_, ?_, ?_, ?_, ?_, ?_, ?_, ?_, ?_, ?_, ?_, ?_, ?_⟩
        all_goals (first | exact hI.g0.ext En | exact fun h => (hI.g0 h).ext En | exact fun h h2 => (hI.g0 h h2).ext En | exact fun h => own_ext (hI.g0 h) En | exact hI.g0 | exact hI.g1.ext En | exact fun h => (hI.g1 h).ext En | exact fun h h2 => (hI.g1 h h2).ext En | exact fun h => own_ext (hI.g1 h) En | exact hI.g1 | exact hI.g2.ext En | exact fun h => (hI.g2 h).ext En | exact fun h h2 => (hI.g2 h h2).ext En | exact fun h => own_ext (hI.g2 h) En | exact hI.g2 | exact hI.g3.ext En | exact fun h => (hI.g3 h).ext En | exact fun h h2 => (hI.g3 h h2).ext En | exact fun h => own_ext (hI.g3 h) En | exact hI.g3 | exact hI.f0 | exact hI.f1 | exact hI.f2 | exact hI.f3 | exact hI.f4 | exact hI.f5 | exact hI.f6 | exact hI.f7 | exact hI.f8 | exact hI.f9 | exact hI.f10 | exact hI.f11 | exact hI.f12 | exact hI.f14 | exact fun _ => rfl | skip)
      · intro L us wx K a ha hp hd hun hI hK
        have HX := hI.x
        have u10 := hI.f10 (hp 10 (by kernel_rfl))
        clear hp HX
        replace hd := Lib.hid hd
        simp only [putAll, Act.put, List.setIfInBounds_toArray, List.set_cons_succ, List.set_cons_zero, Nat.reduceAdd, u10] at ha
        subst ha
        simp only [Act.put, List.setIfInBounds_toArray, List.set_cons_succ, List.set_cons_zero] at hK
        go_simp
        refine hK _ _ ?_
        refine ⟨?_, ?_, ?_, ?_, ?_, ?_, ?_, ?_, ?_, ?_, ?_, ?_, ?_, ?_, ?_, ?_, ?_, ?_, ?_⟩
        all_goals (first | exact hI.x | exact hI.g0 | exact hI.g1 | exact hI.g2 | exact hI.g3 | exact hI.f0 | exact hI.f1 | exact hI.f2 | exact hI.f3 | exact hI.f4 | exact hI.f5 | exact hI.f6 | exact hI.f7 | exact hI.f8 | exact hI.f9 | exact hI.f10 | exact hI.f11 | exact hI.f12 | exact hI.f14 | exact fun _ => rfl | skip)
        exact fun _ => congrArg (Value.int .u8) w2.out
      · intro L us wx K a ha hp hd hun hI hK
        have HX := hI.x
        clear hp HX
        replace hd := Lib.hid hd
        simp only [putAll, Act.put, List.setIfInBounds_toArray, List.set_cons_succ, List.set_cons_zero, Nat.reduceAdd] at ha
        subst ha
        simp only [Act.put, List.setIfInBounds_toArray, List.set_cons_succ, List.set_cons_zero] at hK
        go_simp
        refine hK _ _ ?_
        refine ⟨?_, ?_, ?_, ?_, ?_, ?_, ?_, ?_, ?_, ?_, ?_, ?_, ?_, ?_, ?_, ?_, ?_, ?_, ?_⟩
        all_goals (first | exact hI.x | exact hI.g0 | exact hI.g1 | exact hI.g2 | exact hI.g3 | exact hI.f0 | exact hI.f1 | exact hI.f2 | exact hI.f3 | exact hI.f4 | exact hI.f5 | exact hI.f6 | exact hI.f7 | exact hI.f8 | exact hI.f9 | exact hI.f10 | exact hI.f11 | exact hI.f12 | exact hI.f14 | exact fun _ => rfl | skip)
      · intro L us wx K a ha hp hd hun hI hK
        have u5 := hI.f5 (hp 5 (by kernel_rfl))
        have u12 := hI.f12 (hp 12 (by kernel_rfl))
        have h15 : L 15 = false := Bool.eq_false_iff.2 fun hl => absurd (hd 15 13 hl (by kernel_rfl)) (by rw [hun]; decide)
        have BG := hI.g1 hun h15
        have bg := BG.cell
        have fg := BG.frozen
        obtain ⟨V, hV, BV, EV, FV⟩ := three_set BG hI.x hGr (.int .i64 (nx + sx)) (.int .i64 (ny + sy)) (.int .i64 (nz + sz))
        replace hd := Lib.hid hd
        simp only [putAll, Act.put, List.setIfInBounds_toArray, List.set_cons_succ, List.set_cons_zero, Nat.reduceAdd, u5, u12] at ha
        subst ha
        simp only [Act.put] at hK
        go_simp
        refine hK undef _ ?_
        refine ⟨EV, FV _ _ _ HTG.out hI.g0, (fun h => nomatch (show true = false from h)), (fun _ _ => BV), (fun h => absurd (show L 15 = true from h) (by rw [h15]; decide)), hI.f0, hI.f1, hI.f2, hI.f3, hI.f4, hI.f5, hI.f6, hI.f7, hI.f8, hI.f9, hI.f10, hI.f11, hI.f12, hI.f14⟩
      · intro L us wx K a ha hp hd hun hI hK
        have HX := hI.x
        clear hp HX
        replace hd := Lib.hid hd
        simp only [putAll, Act.put, List.setIfInBounds_toArray, List.set_cons_succ, List.set_cons_zero, Nat.reduceAdd] at ha
        subst ha
        simp only [Act.put, List.setIfInBounds_toArray, List.set_cons_succ, List.set_cons_zero] at hK
        go_simp
        refine hK _ _ ?_
        refine ⟨?_, ?_, ?_, ?_, ?_, ?_, ?_, ?_, ?_, ?_, ?_, ?_, ?_, ?_, ?_, ?_, ?_, ?_, ?_⟩
        all_goals (first | exact hI.x | exact hI.g0 | exact hI.g1 | exact hI.g2 | exact hI.g3 | exact hI.f0 | exact hI.f1 | exact hI.f2 | exact hI.f3 | exact hI.f4 | exact hI.f5 | exact hI.f6 | exact hI.f7 | exact hI.f8 | exact hI.f9 | exact hI.f10 | exact hI.f11 | exact hI.f12 | exact hI.f14 | exact fun _ => rfl | skip)
      · intro L us wx K a ha hp hd hun hI hK
        have u11 := hI.f11 (hp 11 (by kernel_rfl))
        have u14 := hI.f14 (hp 14 (by kernel_rfl))
        have BG := hI.g2 (hp 13 (by kernel_rfl)) hun
        have bg := BG.cell
        have fg := BG.frozen
        replace hd := Lib.hid hd
        simp only [putAll, Act.put, List.setIfInBounds_toArray, List.set_cons_succ, List.set_cons_zero, Nat.reduceAdd, u11, u14] at ha
        subst ha
        simp only [Act.put] at hK
        go_simp
        refine hK undef _ ?_
        refine ⟨hI.x.setCell hGr _, hI.g0.far HTG.out _, (fun _ h => nomatch (show true = false from h)), (fun _ h => nomatch (show true = false from h)), (fun _ => BG.set_ 4 _), hI.f0, hI.f1, hI.f2, hI.f3, hI.f4, hI.f5, hI.f6, hI.f7, hI.f8, hI.f9, hI.f10, hI.f11, hI.f12, hI.f14⟩
      intro L us wx hall hI
      have EX := hI.x
      have BX := hI.g3 (hall 15 (by simp))
      simp only [putAll, Act.put, List.setIfInBounds_toArray, List.set_cons_succ, List.set_cons_zero, Nat.reduceAdd]
      clear hall hI CT CP CC E8 B8 hW8 BT8
      have own13 := own_ext own EX
      have BO13 := BO.ext EX
      have bo := BO13.cell
      have fo := BO13.frozen
      have bx := BX.cell
      have hxl : j + 1 ≤ maxLen := by unfold maxLen; omega
      have hxb : (j + 1) * 40 ≤ 140737488355328 := by omega
      have hOb : O + 1 ≤ wx.heap.size := BO13.lt
      have HO6 := Lib.hid (show W6.heap.size ≤ O from Nat.le_of_eq HO.out)
      go_wp2_with (at_builtin; refine wpList_append_one #[.int .i64 i, .int .i64 (nx + sx), .int .i64 (ny + sy), .int .i64 (nz + sz), .int .u8 nt, .int .u8 cl] rfl (.tmp 54) (.tmp 56) 44 rfl (O + 1) 42 42 i9 _ 6 40 Try.underlying44 hi9 hz9 hz91 hz92 rfl (by decide) _ _ _ _ rfl own13 rfl rfl (by simp [Value.oneCell']) hxl hxb hOb ?_; intro g8 cap8 w8 own8 hg8; have ownA := own_ext own13 ((Ext.refl wx).alloc (.cells #[.int .i64 i, .int .i64 (nx + sx), .int .i64 (ny + sy), .int .i64 (nz + sz), .int .u8 nt, .int .u8 cl] 42)); have BO8 := blkGrown (BO13.alloc (.cells #[.int .i64 i, .int .i64 (nx + sx), .int .i64 (ny + sy), .int .i64 (nz + sz), .int .u8 nt, .int .u8 cl] 42)) ownA hg8 (by decide); have bo8 := BO8.cell; have fo8 := BO8.frozen)
      go_roundw
      case rel =>
        refine ⟨j + 1, .slice (some ⟨g8, 0, none⟩) (j + 1) cap8, by omega, by go_num, (((Er.trans EX).alloc _).grown hg8 (fun k hk => by have := (ownA.lt k hk).1; have := HO6.out; omega)).setCell HO6.out _, BO8.set_ 0 _, own_setCell ?_ (Nat.lt_succ_self O) _⟩
        rw [Hmb.out, List.map_append, List.flatten_append]
        exact own8
      case measure => simp only [intOf]; omega
    · obtain rfl : j = bs.length := by omega
      have hOT : T + 1 + 1 < O := by
        have := B3.lt
        have := E46.size
        have := HO.out
        omega
      rw [show (movedL tn ⟨sx, sy, sz⟩ bs).take bs.length = movedL tn ⟨sx, sy, sz⟩ bs by rw [← movedL_len tn ⟨sx, sy, sz⟩ bs, List.take_length]] at own
      obtain ⟨A', cap', rfl⟩ := ownForm own
      obtain ⟨A, cap, he, hS, hAb⟩ := own_slice0 (rows := (movedL tn ⟨sx, sy, sz⟩ bs).map Brk.cs) (fun r hr => by obtain ⟨b, -, rfl⟩ := List.mem_map.1 hr; rfl) (by rw [List.length_map, movedL_len]) own
      cases he
      have hBk : Bricks wr A' cap' (movedL tn ⟨sx, sy, sz⟩ bs) := ⟨by rw [movedL_len]; exact hS, fun b hb => by
        obtain ⟨b0, hb0, rfl⟩ := List.mem_map.1 hb
        have h1 := (HB.out.2 b0 hb0).2
        have h2 := compT_in b0.turn.toNat tn
        exact ⟨⟨by show (0 : Int) ≤ (compT _ _ : Nat); omega, by show ((compT _ _ : Nat) : Int) ≤ 255; omega⟩, h1⟩⟩
      have CK' := CH.out wr ((HE.out.trans E46).trans Er) A' cap' hBk
      have HBk := Lib.hid hBk
      have HAb := Lib.hid hAb
      have HOT := Lib.hid hOT
      have Hown := Lib.hid own
      have bo := BO.cell
      clear own hOT hS hAb hBk CH
      go_wp2_with fail
      refine CK'.mono ?_
      rintro e W9 ⟨rfl, E9⟩
      have bo9 := (BO.ext E9).cell
      have B3r := ((B3.ext E46).ext Er).ext E9
      have c3 := B3r.cell
      have f3 := B3r.frozen
      by_cases h0 : r = 0
      · subst h0
        obtain rfl := Hgood.out rfl
        obtain ⟨V, hV⟩ : ∃ V, W9.setCell ⟨T + 1 + 1, 0, none⟩ (.slice A' bs.length cap') = V := ⟨_, rfl⟩
        have BV : Blk V (T + 1 + 1) 46 #[.slice A' bs.length cap'] := by rw [← hV]; exact B3r.set_ 0 _
        have EV : Ext w V := by rw [← hV]; exact (((HE.out.trans E46).trans Er).trans E9).setCell (by have := HT.out; show w.heap.size ≤ T + 1 + 1; omega) _
        have HBV := Lib.hid (show V.ownsRow w.heap.size 42 6 (.slice A' bs.length cap') bs.length ((movedL tn ⟨sx, sy, sz⟩ bs).map Brk.cs).flatten by
          have ownV := own_setCell (own_ext Hown.out E9) (p := ⟨T + 1 + 1, 0, none⟩) (by show T + 1 + 1 < O + 1; have := HOT.out; omega) (.slice A' bs.length cap')
          rw [hV] at ownV
          exact own_base ownV (by have := HOT.out; have := HT.out; omega))
        have cv := BV.cell
        go_wp2_with fail
        refine bodyPost_ret (v := .tuple #[.agg #[.slice A' bs.length cap'], .int .i64 0]) (by simp [results, Try.results38, go_sem, cv]) rfl ?_
        exact ⟨A', cap', by rw [movedL_len], by rw [movedL_len]; exact HBV.out, HBk.out.2, EV⟩
      · obtain rfl := Hbad.out h0
        have hb1 : (r != 0) = true := by simpa using h0
        obtain ⟨V, hV⟩ : ∃ V, W9.setCell ⟨T + 1 + 1, 0, none⟩ (.slice none 0 0) = V := ⟨_, rfl⟩
        have BV : Blk V (T + 1 + 1) 46 #[.slice none 0 0] := by rw [← hV]; exact B3r.set_ 0 _
        have EV : Ext w V := by rw [← hV]; exact (((HE.out.trans E46).trans Er).trans E9).setCell (by have := HT.out; show w.heap.size ≤ T + 1 + 1; omega) _
        have cv := BV.cell
        clear h0
        go_wp2_with fail
        refine bodyPost_ret (v := .tuple #[.agg #[.slice none 0 0], .int .i64 r]) (by simp [results, Try.results38, go_sem, cv]) rfl (moveNilO EV)
end Go.Proofs.Ytenigkngmdofiaa

namespace Go.Proofs.Ytenigkngmdofiaa
open Go.RowKit

theorem moved_asked {qs : List (Knd × KAt)} {bs : List Brk} (h : checkErr (qs.map (·.1)) bs = 0) (tn : Nat) (s : Pt) : askedErr (qs.map (·.1)) (movedL tn s bs) = if bricksB qs.length (movedL tn s bs) then 0 else 11 := by
  have hm := check_model h
  have h0 : kindsErr (qs.map (·.1)) = 0 := by
    by_cases h0 : kindsErr (qs.map (·.1)) = 0
    · exact h0
    · rw [modelErr_kinds h0] at hm
      exact hm
  rw [askedErr, if_pos h0, List.length_map]
theorem move_c (qs : List (Knd × KAt)) (QA : Option Addr) (qc : Nat) (bs : List Brk) (B : Option Addr) (cb : Nat) (turn sx sy sz : Int) (w : World) (hk : Kinds w QA qc qs) (hb : Bricks w B cb bs) :
    Calls Try.prog 38 #[.slice QA qs.length qc, .agg #[.slice B bs.length cb], .int .i64 turn, .agg #[.int .i64 sx, .int .i64 sy, .int .i64 sz]] w (MoveOwn (moveL (qs.map (·.1)) bs turn ⟨sx, sy, sz⟩) (moveErr (qs.map (·.1)) bs turn ⟨sx, sy, sz⟩) w) := by
  by_cases h : checkErr (qs.map (·.1)) bs = 0 ∧ inB 0 23 turn = true ∧ nearB ⟨sx, sy, sz⟩ (-1000) 1000 = true
  · obtain ⟨h1, h2, h3⟩ := h
    have h4 := inB_iff.1 h2
    obtain ⟨tn, rfl⟩ : ∃ n : Nat, turn = n := ⟨turn.toNat, by omega⟩
    have he := moveErr_brick h1 ⟨h2, h3⟩
    rw [Int.toNat_natCast, List.length_map] at he
    refine moveG_c qs QA qc bs B cb tn sx sy sz w hk hb h1 (by omega) h3 _ _ (by rw [moved_asked h1, he]) (fun h0 => ?_) (fun h0 => ?_)
    · rw [moveL, if_pos h0, Int.toNat_natCast]
    · exact if_neg h0
  · exact moveE_c qs QA qc bs B cb turn sx sy sz w hk hb h
end Go.Proofs.Ytenigkngmdofiaa

namespace Go.Proofs.Ytenigkngmdofiaa
open Go.RowKit

theorem rMove_c (qs : List (Knd × KAt)) (QA : Option Addr) (qc : Nat) (bs : List Brk) (B : Option Addr) (cb : Nat) (turn sx sy sz : Int) (w : World) (hk : Kinds w QA qc qs) (hb : Bricks w B cb bs) :
    Calls Try.prog 39 #[.slice QA qs.length qc, .agg #[.slice B bs.length cb], .int .i64 turn, .agg #[.int .i64 sx, .int .i64 sy, .int .i64 sz]] w (MoveRes (moveL (qs.map (·.1)) bs turn ⟨sx, sy, sz⟩) (moveErr (qs.map (·.1)) bs turn ⟨sx, sy, sz⟩) w) := by
  by_cases h : checkErr (qs.map (·.1)) bs = 0 ∧ inB 0 23 turn = true ∧ nearB ⟨sx, sy, sz⟩ (-1000) 1000 = true
  · obtain ⟨h1, h2, h3⟩ := h
    have h4 := inB_iff.1 h2
    obtain ⟨tn, rfl⟩ : ∃ n : Nat, turn = n := ⟨turn.toNat, by omega⟩
    have he := moveErr_brick h1 ⟨h2, h3⟩
    rw [Int.toNat_natCast, List.length_map] at he
    refine rMoveG_c qs QA qc bs B cb tn sx sy sz w hk hb h1 (by omega) h3 _ _ (fun hg => ?_) (fun j hj hbad => ?_)
    · have hB : bricksB qs.length (movedL tn ⟨sx, sy, sz⟩ bs) = true := allR_good fun k hk' => by
        rw [movedL_len] at hk'
        rw [brkAt_eq (movedL_at (List.getElem?_eq_getElem hk')), ← brkAt_eq (List.getElem?_eq_getElem hk')]
        exact hg k hk'
      rw [hB] at he
      simp only [if_true] at he
      exact ⟨he, by rw [moveL, if_pos he, Int.toNat_natCast]⟩
    · have hB : bricksB qs.length (movedL tn ⟨sx, sy, sz⟩ bs) = false := allR_bad (k := j) (by rw [movedL_len]; exact hj) (by
        rw [brkAt_eq (movedL_at (List.getElem?_eq_getElem hj)), ← brkAt_eq (List.getElem?_eq_getElem hj)]
        exact hbad)
      rw [hB] at he
      simp only [Bool.false_eq_true, if_false] at he
      exact ⟨he, moveL_bad he (by decide)⟩
  · exact rMoveE_c qs QA qc bs B cb turn sx sy sz w hk hb h
end Go.Proofs.Ytenigkngmdofiaa

namespace Go.Proofs.Ytenigkngmdofiaa
open Go.RowKit

def Knd.great (k : Knd) : Bool := decide (30 < k.cells.length) || decide (60 < k.knobs.length)
def greatB (l : List Knd) (n : Nat) : Bool := decide (20 < l.length) || (decide (45 < n) || !allR l.length fun i => !(kindAt l i).great)
theorem greatB_kinds {l : List Knd} {n : Nat} (h : greatB l n = false) : l.length ≤ 20 ∧ n ≤ 45 ∧ ∀ k ∈ l, k.cells.length ≤ 30 ∧ k.knobs.length ≤ 60 := by
  unfold greatB at h
  simp only [Bool.or_eq_false_iff, decide_eq_false_iff_not, Bool.not_eq_false'] at h
  obtain ⟨h1, h2, h3⟩ := h
  refine ⟨by omega, by omega, fun k hk => ?_⟩
  obtain ⟨i, hi⟩ := List.getElem?_of_mem hk
  have := allR_at h3 (List.getElem?_eq_some_iff.1 hi).1
  unfold Knd.great at this
  have e : kindAt l i = k := by simp [kindAt, hi]
  rw [e] at this
  simp only [Bool.not_eq_true', Bool.or_eq_false_iff, decide_eq_false_iff_not] at this
  omega
set_option maxHeartbeats 3200000 in
theorem great_c (qs : List (Knd × KAt)) (A : Option Addr) (cap : Nat) (B : Option Addr) (n cb : Nat) (w : World) (hk : Kinds w A cap qs) (hn : n ≤ maxLen) :
    Calls Try.prog 14 #[.slice A qs.length cap, .agg #[.slice B n cb]] w fun e w' => e = .returned (.bool (greatB (qs.map (·.1)) n)) ∧ Ext w w' := by
  have hl1 : qs.length ≤ 9223372036854775807 := by have := hk.len; unfold maxLen at this; omega
  have hml : (qs.map (·.1)).length = qs.length := List.length_map _
  unfold maxLen at hn
  obtain ⟨W1, hW1, E1, B1, hz1⟩ := mk_ w #[.slice B n cb] 46
  have b1 := B1.cell
  by_cases a1 : (20 : Int) < qs.length
  · have Hb := Lib.hid (show greatB (qs.map (·.1)) n = true by rw [greatB, decide_eq_true (by rw [hml]; omega)]; rfl)
    clear hml
    go_enter Try.func14, Try.ntmps14
    go_wp2_with fail
    go_ret
    exact ⟨by rw [Hb.out]; rfl, E1⟩
  by_cases a2 : (45 : Int) < n
  · have Hb := Lib.hid (show greatB (qs.map (·.1)) n = true by rw [greatB, decide_eq_true (show 45 < n by omega), Bool.true_or, Bool.or_true])
    clear hml
    go_enter Try.func14, Try.ntmps14
    go_wp2_with fail
    go_ret
    exact ⟨by rw [Hb.out]; rfl, E1⟩
  have Hg := Lib.hid (show greatB (qs.map (·.1)) n = !allR qs.length fun i => !(kindAt (qs.map (·.1)) i).great by
    unfold greatB
    rw [decide_eq_false (show ¬ 20 < (qs.map (·.1)).length by rw [hml]; omega), decide_eq_false (show ¬ 45 < n by omega), hml]
    rfl)
  clear hml
  go_enter Try.func14, Try.ntmps14
  go_wp2_with fail
  clear hW1 hz1 b1 a1 a2
  go_loopw [5] (fun i wr => ∃ j : Nat, j ≤ qs.length ∧ i = .int .i64 j ∧ wr = W1 ∧ Hid (∀ i, i < j → (!(kindAt (qs.map (·.1)) i).great) = true)) (fun i _ => qs.length - (intOf i).toNat)
  case atStart => exact ⟨0, by omega, rfl, rfl, Lib.hid (fun i hi => by omega)⟩
  case round =>
    obtain ⟨j, hj, rfl, rfl, Hj⟩ := hrel
    by_cases hlt : j < qs.length
    · obtain ⟨g, off, ⟨kc, kn, kw⟩, ⟨KA, kca, KB, kcb⟩, rfl, hq, ⟨hkc, hkn⟩, hg, c0, c1, c2⟩ := (hk.ext E1).at_ hlt
      have hlc := hkc.len
      have hln := hkn.len
      unfold maxLen at hlc hln
      simp only at c0 c1 c2 hlc hln
      have Hq := Lib.hid (kindAt_eq hq)
      clear hq hkc hkn
      by_cases d1 : (30 : Int) < kc.length
      · have Hb := Lib.hid (show greatB (qs.map (·.1)) n = true by
          rw [Hg.out, allR_bad hlt (by rw [Hq.out, Knd.great, decide_eq_true (show 30 < kc.length by omega)]; rfl)]
          rfl)
        go_wp2_with fail
        go_ret
        exact ⟨by rw [Hb.out]; rfl, E1⟩
      by_cases d2 : (60 : Int) < kn.length
      · have Hb := Lib.hid (show greatB (qs.map (·.1)) n = true by
          rw [Hg.out, allR_bad hlt (by rw [Hq.out, Knd.great, decide_eq_true (show 60 < kn.length by omega), Bool.or_true]; rfl)]
          rfl)
        go_wp2_with fail
        go_ret
        exact ⟨by rw [Hb.out]; rfl, E1⟩
      have hok : ∀ i, i < j + 1 → (!(kindAt (qs.map (·.1)) i).great) = true := fun i hi => by
        rcases Nat.lt_or_ge i j with h' | h'
        · exact Hj.out i h'
        · obtain rfl : i = j := by omega
          rw [Hq.out, Knd.great, decide_eq_false (show ¬ 30 < kc.length by omega), decide_eq_false (show ¬ 60 < kn.length by omega)]
          rfl
      have Hok := Lib.hid hok
      clear hok
      go_wp2_with fail
      go_roundw
      case rel => exact ⟨j + 1, by omega, by go_num, trivial, Hok⟩
      case measure => simp only [intOf]; omega
    · obtain rfl : qs.length = j := by omega
      have Hb := Lib.hid (show greatB (qs.map (·.1)) n = false by rw [Hg.out, allR_good Hj.out]; rfl)
      go_wp2_with fail
      go_ret
      exact ⟨by rw [Hb.out]; rfl, E1⟩
end Go.Proofs.Ytenigkngmdofiaa

namespace Go.Proofs.Ytenigkngmdofiaa
open Go.RowKit

theorem span_neq_same (a b c d e f : Int) (w : World) : (binOp .neq 84 (.agg #[.int .i64 a, .int .i64 b, .int .i64 c, .int .i64 d, .int .i64 e, .int .i64 f]) (.agg #[.int .i64 a, .int .i64 b, .int .i64 c, .int .i64 d, .int .i64 e, .int .i64 f])).run Try.prog w = .ok (.bool false) w := by
  simp [go_sem]
theorem wpList_append_any {P : Program} {w : World} {ops : Array Oper} {o : Oper} {rest : List Oper} {a : Act} {Q : Exit → Act → World → Prop} (hgd : o.guard = none) (s x : Operand) (t : TypeId) (ho : o.op = .call { callee := .builtin .append, args := #[s, x], argTypes := #[t, t] })
    (base : Nat) (e : TypeId) (i : TypeInfo) (z : Value) (size bytes : Nat) (ht : P.underlying t = some (.slice e)) (hi : P.info? e = some i) (hz : i.zero = some z)
    (hsize : i.size = size) (hby : i.bytes = bytes) (hzs : z.cells.size = size) (hsz : 0 < size)
    (v : Value) (n : Nat) (xs : List Value) (hs : a.eval s = v) (hown : w.ownsRow base e size v n xs)
    (A : Option Addr) (m c : Nat) (rows : List (List Value)) (hx : a.eval x = .slice A m c) (hsrc : SliceIs w A m c size rows) (hnil : A = none → c = 0) (h1 : ∀ u ∈ rows.flatten, u.oneCell' = true)
    (h63 : n + m ≤ maxLen) (hbytes : (n + m) * bytes ≤ 140737488355328) (hbase : base ≤ w.heap.size)
    (h : ∀ v' w', w'.ownsRow base e size v' (n + m) (xs ++ rows.flatten) → w.grownBy w' v.ownBlock → wpList P ops Q rest (a.put o.dst v') w') : wpList P ops Q (o :: rest) a w :=
  wpList_plain hgd fun _ hK => by
    have := step_append_any (P := P) (ops := ops) (o := o) (a := a) (Q := Q) (F := True) hgd s x t ho base e i z size bytes ht hi hz hsize hby hzs hsz v n xs hs hown A m c rows hx hsrc hnil h1 h63 hbytes hbase (fun v' w' h2 h3 => hK _ _ (h v' w' h2 h3))
    rwa [if_pos (by simp [Region.wanted, hgd])] at this
theorem brk_one (l : List Brk) : ∀ u ∈ (l.map Brk.cs).flatten, u.oneCell' = true := fun u hu => by
  obtain ⟨r, hr, hu⟩ := List.mem_flatten.1 hu
  obtain ⟨p, -, rfl⟩ := List.mem_map.1 hr
  simp only [Brk.cs, List.mem_cons, List.not_mem_nil, or_false] at hu
  rcases hu with rfl | rfl | rfl | rfl | rfl | rfl <;> rfl
theorem own_bricks {w : World} {b : Nat} {A : Option Addr} {n cap : Nat} {l : List Brk} (h : w.ownsRow b 42 6 (.slice A n cap) n (l.map Brk.cs).flatten) (hl : l.length = n) (hb : ∀ x ∈ l, x.byte) : Bricks w A cap l := by
  obtain ⟨A', cap', he, hs, -⟩ := own_slice0 (fun r hr => by obtain ⟨y, -, rfl⟩ := List.mem_map.1 hr; rfl) (by rw [List.length_map]; exact hl) h
  cases he
  exact ⟨by rw [hl]; exact hs, hb⟩
theorem great_is {qs : List (Knd × KAt)} {A : Option Addr} {cap : Nat} {B : Option Addr} {n cb : Nat} {r : Bool} (h : greatB (qs.map (·.1)) n = r) {w : World} (hk : Kinds w A cap qs) (hn : n ≤ maxLen) :
    Calls Try.prog 14 #[.slice A qs.length cap, .agg #[.slice B n cb]] w fun e w' => e = .returned (.bool r) ∧ Ext w w' := by
  subst h
  exact great_c _ _ _ _ _ _ _ hk hn
theorem moveL_len (ks : List Knd) (bs : List Brk) (turn : Int) (s : Pt) : (moveL ks bs turn s).length ≤ bs.length := by
  unfold moveL
  split
  · rw [movedL_len]
    exact Nat.le_refl _
  · exact Nat.zero_le _
/-- The rows of a block whose first cells are numbers. -/
def Firsts (w : World) (A : Option Addr) (n : Nat) (base : Nat) : Prop := 0 < n → ∃ g cs, A = some ⟨g, 0, none⟩ ∧ base ≤ g ∧ Blk w g 42 cs ∧ ∀ k, k < n → ∃ z : Int, cs[k * 6]? = some (.int .i64 z)
theorem firsts_of {w : World} {b n cap : Nat} {A : Option Addr} {l : List Brk} (h : w.ownsRow b 42 6 (.slice A n cap) n (l.map Brk.cs).flatten) (hl : l.length = n) : Firsts w A n b := fun h0 => by
  obtain ⟨g, cap', he⟩ := own_form h h0
  cases he
  obtain ⟨RX, hg, h1, h2⟩ := RowX.of_own (rows := l.map Brk.cs) h
  obtain ⟨ex, hB⟩ := RX
  refine ⟨g, _, rfl, hg, hB, fun k hk => ?_⟩
  have hget : l[k]? = some (l[k]'(by omega)) := List.getElem?_eq_getElem _
  have hr : (l.map Brk.cs)[k]? = some (l[k]'(by omega)).cs := by rw [List.getElem?_map, hget]; rfl
  have hw : ∀ r ∈ l.map Brk.cs, r.length = 6 := fun r hr => by obtain ⟨y, -, rfl⟩ := List.mem_map.1 hr; rfl
  have h3 := rowsA_get hw hr (j := 0) rfl
  rw [Nat.add_zero] at h3
  exact ⟨_, by rw [Array.getElem?_append_left (Array.getElem?_eq_some_iff.1 h3).1]; exact h3⟩
set_option maxRecDepth 100000 in
set_option maxHeartbeats 16000000 in
theorem models_walk (qs : List (Knd × KAt)) (QA : Option Addr) (qc : Nat) (bs : List Brk) (B : Option Addr) (cb : Nat) (turn sx sy sz : Int) (w : World) (hk : Kinds w QA qc qs) (hb : Bricks w B cb bs) (hnil : B = none → cb = 0) :
    Calls Try.prog 5 #[.slice QA qs.length qc, .agg #[.slice B bs.length cb], .int .i64 turn, .agg #[.int .i64 sx, .int .i64 sy, .int .i64 sz]] w fun e w' => e = .returned (.bool true) ∧ Ext w w' := by
  obtain ⟨W1, hW1, E1, B1, hz1⟩ := mk_ w #[.slice B bs.length cb] 46
  obtain ⟨W2, hW2, E2, B2, hz2⟩ := mk_ W1 #[.int .i64 sx, .int .i64 sy, .int .i64 sz] 23
  rw [hz1] at B2
  have E12 := E1.trans E2
  have B12 := B1.ext E2
  have b1 := B12.cell
  obtain ⟨gr, hg⟩ : ∃ r, greatB (qs.map (·.1)) bs.length = r := ⟨_, rfl⟩
  have GR := great_is (B := B) (cb := cb) hg (hk.ext E12) hb.len
  obtain ⟨T, hT⟩ : ∃ T, w.heap.size = T := ⟨_, rfl⟩
  rw [hT] at B1 B2 B12
  have HT := Lib.hid hT
  have HZ1 := Lib.hid (show W1.heap.size = T + 1 by omega)
  have HZ2 := Lib.hid (show W2.heap.size = T + 2 by omega)
  clear hz1 hz2 hT
  cases gr
  rotate_left
  · clear hg
    go_enter Try.func5, Try.ntmps5
    go_wp2_with fail
    rw [HT.out]
    refine GR.mono ?_
    rintro e W4 ⟨rfl, E4⟩
    go_wp2_with fail
    go_ret
    exact ⟨rfl, E12.trans E4⟩
  obtain ⟨-, hn45, -⟩ := greatB_kinds hg
  have HK := Lib.hid (fun W (E : Ext w W) => hk.ext E)
  have HB := Lib.hid (fun W (E : Ext w W) => hb.ext E)
  have HBy := Lib.hid hb.2
  have OV := Lib.hid (fun W (E : Ext w W) A cap (h : Bricks W A cap bs) => overlaps_c qs QA qc bs A cap W (hk.ext E) h)
  have RO := Lib.hid (fun W (E : Ext w W) => rOverlaps_c qs QA qc bs B cb W (hk.ext E) (hb.ext E))
  have CK := Lib.hid (fun W (E : Ext w W) A cap (h : Bricks W A cap bs) => checkM_c qs QA qc bs A cap W (hk.ext E) h)
  have RC := Lib.hid (fun W (E : Ext w W) => rCheck_c qs QA qc bs B cb W (hk.ext E) (hb.ext E))
  have BO := Lib.hid (fun W (E : Ext w W) A cap (h : Bricks W A cap bs) => bounds_c qs QA qc bs A cap W (hk.ext E) h)
  have RB := Lib.hid (fun W (E : Ext w W) => rBounds_c qs QA qc bs B cb W (hk.ext E) (hb.ext E))
  have MO := Lib.hid (fun W (E : Ext w W) A cap (h : Bricks W A cap bs) => move_c qs QA qc bs A cap turn sx sy sz W (hk.ext E) h)
  have RM := Lib.hid (fun W (E : Ext w W) => rMove_c qs QA qc bs B cb turn sx sy sz W (hk.ext E) (hb.ext E))
  have SP := Lib.hid (fun W A C ca cc (ha : Prs W A ca (ovRes (qs.map (·.1)) bs)) (hc : Prs W C cc (ovRes (qs.map (·.1)) bs)) => samePairs_c A C ca cc (ovRes (qs.map (·.1)) bs) W ha hc)
  have SM := Lib.hid (fun W A C ca cc (ha : Bricks W A ca (moveL (qs.map (·.1)) bs turn ⟨sx, sy, sz⟩)) (hc : Bricks W C cc (moveL (qs.map (·.1)) bs turn ⟨sx, sy, sz⟩)) => sameM_c A C ca cc (moveL (qs.map (·.1)) bs turn ⟨sx, sy, sz⟩) W ha hc)
  have SB := Lib.hid (fun W A ca (E : Ext w W) (ha : Bricks W A ca bs) => sameM_c A B ca cb bs W ha (hb.ext E))
  obtain ⟨pl, hpl⟩ : ∃ l, ovRes (qs.map (·.1)) bs = l := ⟨_, rfl⟩
  obtain ⟨pe, hpe⟩ : ∃ l, modelErr (qs.map (·.1)) bs = l := ⟨_, rfl⟩
  obtain ⟨ce, hce⟩ : ∃ l, checkErr (qs.map (·.1)) bs = l := ⟨_, rfl⟩
  obtain ⟨⟨⟨lx, ly, lz⟩, ⟨mx, my, mz⟩⟩, hsp⟩ : ∃ s, boundsV (qs.map (·.1)) bs = s := ⟨_, rfl⟩
  have hlm := moveL_len (qs.map (·.1)) bs turn ⟨sx, sy, sz⟩
  obtain ⟨ml, hml⟩ : ∃ l, moveL (qs.map (·.1)) bs turn ⟨sx, sy, sz⟩ = l := ⟨_, rfl⟩
  obtain ⟨me, hme⟩ : ∃ l, moveErr (qs.map (·.1)) bs turn ⟨sx, sy, sz⟩ = l := ⟨_, rfl⟩
  rw [hpl, hpe] at OV RO
  rw [hpl] at SP
  rw [hce] at CK RC
  rw [hsp, hce] at BO RB
  rw [hml, hme] at MO RM
  rw [hml] at SM hlm
  obtain ⟨nq, hnq⟩ : ∃ n, qs.length = n := ⟨_, rfl⟩
  rw [hnq] at GR OV RO CK RC BO RB MO RM ⊢
  have hsl := hb.1
  obtain ⟨nb, hnb⟩ : ∃ n, bs.length = n := ⟨_, rfl⟩
  rw [hnb] at hlm hn45 B1 B12 b1 GR OV RO CK RC BO RB MO RM SB hW1 hsl ⊢
  have Hnb := Lib.hid hnb
  have Hnil := Lib.hid hnil
  have Hsl := Lib.hid hsl
  obtain ⟨i9, hi9, hz9, hz91, hz92⟩ := info_parts infoBrick
  have spn := span_neq_same lx ly lz mx my mz
  clear hg hk hb hpl hpe hce hsp hml hme hnq hnb hsl hnil
  go_enter Try.func5, Try.ntmps5
  go_wp2_with fail
  rw [HT.out, HZ1.out]
  refine GR.mono ?_
  rintro e W3 ⟨rfl, E3⟩
  have E03 := E12.trans E3
  have B13 := B12.ext E3
  have B23 := B2.ext E3
  clear b1 hW1 hW2 GR B1 B12 B2 E1 E2 E3
  have b1 := B13.cell
  obtain ⟨S, hS⟩ : ∃ S, W3.heap.size = S := ⟨_, rfl⟩
  have HS := Lib.hid hS
  have hTS : T + 2 ≤ S := by have := B23.lt; omega
  have HTS := Lib.hid hTS
  have own0 := World.ownsRow_made (base := S) (size := 6) (e := 42) W3 #[] 0 (by omega) (by unfold maxLen; omega) (by simp)
  obtain ⟨W4, hW4, ha0, -, hz4⟩ := mk_ W3 #[] 42
  rw [hW4] at own0
  have hS0 : S ≤ W4.heap.size := by have := ha0.size; omega
  have b4 := (B13.ext ha0).cell
  clear hS hTS b1 hz4
  go_wp2_with (at_builtin; refine wpList_append_any rfl (.tmp 22) (.tmp 24) 44 rfl S 42 i9 _ 6 40 Try.underlying44 hi9 hz9 hz91 hz92 rfl (by decide) _ 0 [] rfl own0 B nb cb (bs.map Brk.cs) rfl (Hsl.out.ext (E03.trans ha0)) Hnil.out (brk_one bs) (by unfold maxLen; omega) (by omega) hS0 ?_; intro v6 w6 own6 hg6; rw [Nat.zero_add, List.nil_append] at own6; obtain ⟨OA, oc, rfl⟩ := ownForm own6; have hOB := own_bricks own6 Hnb.out HBy.out; have E06 := E03.trans (ha0.grown hg6 (fun k hk => by have := (own0.lt k hk).1; have := HS.out; omega)); obtain ⟨W7, hW7, E7, B7, hz7⟩ := mk_ w6 #[.slice OA nb oc] 46; have b7 := B7.cell; clear hz7)
  obtain ⟨G, hG⟩ : ∃ G, w6.heap.size = G := ⟨_, rfl⟩
  rw [hG] at B7 ⊢
  have E67 := (ha0.grown hg6 (fun k hk => by have := (own0.lt k hk).1; have := HS.out; omega)).trans E7
  have Bm := B13.ext E67
  have Bs := B23.ext E67
  have E := E06.trans E7
  have hO := hOB.ext E7
  have HG := Lib.hid (show S ≤ G by have := ha0.size; have := E06.size; have := HS.out; have h := (E06.size); have h2 := Ext.size (ha0.grown hg6 (fun k hk => by have := (own0.lt k hk).1; have := HS.out; omega)); omega)
  clear b7 hW7 hG own6 hg6 own0 ha0 hS0 b4 hW4 B13 B23 E67 E06 E7 hOB
  refine (OV.out W7 E OA oc hO).mono ?_
  rintro e W8 ⟨PA, pc, rfl, hP, E8⟩
  have b1 := (Bm.ext E8).cell
  go_wp2_with fail
  refine (RO.out W8 (E.trans E8)).mono ?_
  rintro e W9 ⟨PB, pd, rfl, hQ, E9⟩
  have E79 := E8.trans E9
  have SP' := Lib.hid (fun x => SP.out (grow W9 x) PA PB pc pd ((hP.ext E9).ext ((Ext.refl W9).grow x)) (hQ.ext ((Ext.refl W9).grow x)))
  have CK' := Lib.hid (fun x => CK.out (grow W9 x) ((E.trans E79).grow x) OA oc (hO.ext (E79.grow x)))
  have RC' := Lib.hid (fun x => RC.out (grow W9 x) ((E.trans E79).grow x))
  clear b1 hP hQ SP CK RC OV RO E8 E9
  have b1 := (Bm.ext E79).cell
  have b2 := (B7.ext E79).cell
  go_upto_region 6 with (fail)
  refine wp_region_grow (by kernel_rfl) (by kernel_rfl) ?_
  repeat (go_big_quiet_step ((first | (go_at_call 33; exact quiet_ext (SP'.out _)) | (go_at_call 34; exact quiet_ext (CK'.out _)) | (go_at_call 35; exact quiet_ext (RC'.out _)))))
  refine wpQuiet_nil ?_
  intro WA hWA
  have EA : Ext W9 WA := by
    obtain ⟨x, rfl⟩ := hWA
    exact (Ext.refl _).grow x
  clear hWA
  obtain ⟨hcWA, hfWA, hzWA⟩ := ext_facts EA
  clear hcWA hfWA hzWA SP' CK' RC' b1 b2
  have E7A := E79.trans EA
  have b2 := (B7.ext E7A).cell
  have b1 := (Bm.ext E7A).cell
  clear E79 EA
  go_wp2_with fail
  refine (BO.out WA (E.trans E7A) OA oc (hO.ext E7A)).mono ?_
  rintro e WB ⟨rfl, EB⟩
  unfold spC
  simp only
  obtain ⟨WC, hWC, EC, BC, hzC⟩ := mk_ WB #[.int .i64 lx, .int .i64 ly, .int .i64 lz, .int .i64 mx, .int .i64 my, .int .i64 mz] 84
  have E7C := (E7A.trans EB).trans EC
  clear b1 b2 hzC
  have b1 := (Bm.ext E7C).cell
  go_wp2_with fail
  refine (RB.out WC (E.trans E7C)).mono ?_
  rintro e WD ⟨rfl, ED⟩
  unfold spC
  simp only
  obtain ⟨WE, hWE, EE, BE, hzE⟩ := mk_ WD #[.int .i64 lx, .int .i64 ly, .int .i64 lz, .int .i64 mx, .int .i64 my, .int .i64 mz] 84
  have E7E := (E7C.trans ED).trans EE
  clear b1 hzE
  have b1 := (Bm.ext E7E).cell
  have b2 := (B7.ext E7E).cell
  have b3 := (Bs.ext E7E).cell
  have bC := ((BC.ext ED).ext EE).cell
  have bE := BE.cell
  go_wp2_with fail
  refine (MO.out WE (E.trans E7E) OA oc (hO.ext E7E)).mono ?_
  rintro e WF ⟨MA, mc, rfl, ownM, hMb, EF⟩
  obtain ⟨WG, hWG, EG, BG, hzG⟩ := mk_ WF #[.slice MA ml.length mc] 46
  have E7G := (E7E.trans EF).trans EG
  clear b1 b2 b3 bC bE hzG
  have b1 := (Bm.ext E7G).cell
  have b3 := (Bs.ext E7G).cell
  go_wp2_with fail
  refine (RM.out WG (E.trans E7G)).mono ?_
  rintro e WH ⟨NA, nc, rfl, hN, -, EH⟩
  obtain ⟨WI, hWI, EI, BI, hzI⟩ := mk_ WH #[.slice NA ml.length nc] 46
  have E7I := (E7G.trans EH).trans EI
  have EGI := EH.trans EI
  have ownI := own_ext ownM (EG.trans EGI)
  have SM' := SM.out WI MA NA mc nc (own_bricks ownI rfl hMb) (hN.ext EI)
  have hsE : WE.heap.size ≤ WI.heap.size := Ext.size (EF.trans (EG.trans EGI))
  have hW7E : W7.heap.size ≤ WE.heap.size := E7E.size
  have hFi := firsts_of ownI rfl
  clear b1 b3 hzI ownM ownI hMb hN SM MO RM BO RB
  have bg := (BG.ext EGI).cell
  have bi := BI.cell
  go_wp2_with fail
  refine SM'.mono ?_
  rintro e WJ ⟨rfl, EJ⟩
  have E7J := E7I.trans EJ
  have BGJ := (BG.ext EGI).ext EJ
  have hFJ : Firsts WJ MA ml.length WE.heap.size := fun h => by
    obtain ⟨g, cs, h1, h2, h3, h4⟩ := hFi h
    exact ⟨g, cs, h1, h2, h3.ext EJ, h4⟩
  have HSB := Lib.hid (fun W (EW : Ext W7 W) => SB.out W OA oc (E.trans EW) (hO.ext EW))
  obtain ⟨mn, hmn⟩ : ∃ n, ml.length = n := ⟨_, rfl⟩
  rw [hmn] at BGJ hFJ hlm ⊢
  obtain ⟨X, hX⟩ : ∃ X, WF.heap.size = X := ⟨_, rfl⟩
  rw [hX] at BGJ ⊢
  have hXE : WE.heap.size ≤ X := by rw [← hX]; exact EF.size
  have HXE := Lib.hid hXE
  have bg2 := BGJ.cell
  have HE7 := Lib.hid hW7E
  clear bg bi SM' hFi hsE hW7E hWC hWE hWG hWI BC BE BG BI EGI E7A E7C E7E E7G E7I EB EC ED EE EF EG EH EI EJ hX hXE SB hmn
  go_wp2_with fail
  go_loopw [105] (fun ii wr => ∃ (j : Nat), j ≤ mn ∧ ii = .int .i64 j ∧ Ext W7 wr ∧ Blk wr X 46 #[.slice MA mn mc] ∧ Firsts wr MA mn WE.heap.size) (fun ii _ => mn - (intOf ii).toNat)
  case atStart => exact ⟨0, by omega, rfl, E7J, BGJ, hFJ⟩
  case round =>
    clear E7J BGJ hFJ bg2
    obtain ⟨j, hj, rfl, Er, BX, hF⟩ := hrel
    have bx := BX.cell
    by_cases hlt : j < mn
    · obtain ⟨g, cs, rfl, hg, BC, hz⟩ := hF (by omega)
      obtain ⟨z0, hz0⟩ := hz j hlt
      have bc := BC.cell
      have fc := BC.frozen
      have x0 : wr.cell? ⟨g, j * 6, none⟩ = some (.int .i64 z0) := (bc _).trans hz0
      have Hz := Lib.hid hz
      have j1 : (0 : Int) ≤ j := by omega
      have j2 : (j : Int) < mn := by omega
      have hgX : X ≠ g := fun e => by
        subst e
        unfold Blk at BX BC
        rw [BX] at BC
        cases BC
      clear hz hF bc hz0
      go_wp2_with fail
      go_roundw
      case rel =>
        refine ⟨j + 1, by omega, by go_num, Er.setCell (by have := HE7.out; show W7.heap.size ≤ g; omega) _, BX.far hgX _, fun _ => ⟨g, _, rfl, hg, BC.set_ _ _, ?_⟩⟩
        intro i hi
        obtain ⟨y, hy⟩ := Hz.out i hi
        by_cases hik : j * 6 = i * 6
        · rw [hik, Array.getElem?_setIfInBounds_self_of_lt (Array.getElem?_eq_some_iff.1 hy).1]
          exact ⟨_, rfl⟩
        · rw [Array.getElem?_setIfInBounds_ne hik]
          exact ⟨y, hy⟩
      case measure => simp only [intOf]; omega
    · obtain rfl : j = mn := by omega
      have b1 := (Bm.ext Er).cell
      have b2 := (B7.ext Er).cell
      have SBB := HSB.out wr Er
      clear hF bx
      go_wp2_with fail
      refine SBB.mono ?_
      rintro e WZ ⟨rfl, EZ⟩
      go_wp2_with fail
      go_ret
      exact ⟨rfl, (E.trans Er).trans EZ⟩
end Go.Proofs.Ytenigkngmdofiaa
