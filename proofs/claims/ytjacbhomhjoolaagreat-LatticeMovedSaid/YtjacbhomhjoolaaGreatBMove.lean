/- Move of the program: the errors ahead of its loop. Move of the program at a valid model, turn and step. Move of the program, all cases. -/
import Derived.Test.YtjacbhomhjoolaaGreatBMoveR
namespace Go.Proofs.YtjacbhomhjoolaaGreat
open Go.RowKit

/-- What the program's Move hands back: a row of its own. -/
def MoveOwn (l : List Brk) (r : Int) (w : World) (e : Ending) (w' : World) : Prop := ∃ A cap, e = .returned (.tuple #[.agg #[.slice A l.length cap], .int .i64 r]) ∧ w'.ownsRow w.heap.size 51 6 (.slice A l.length cap) l.length (l.map Brk.cs).flatten ∧ (∀ b ∈ l, b.byte) ∧ Ext w w'
theorem moveNilO {r : Int} {w w' : World} (E : Ext w w') : MoveOwn [] r w (.returned (.tuple #[.agg #[.slice none 0 0], .int .i64 r])) w' := ⟨none, 0, rfl, World.ownsRow_nil _ _ _ _, (fun _ h => nomatch h), E⟩
set_option maxRecDepth 100000 in
set_option maxHeartbeats 4000000 in
theorem moveE_c (qs : List (Knd × KAt)) (QA : Option Addr) (qc : Nat) (bs : List Brk) (B : Option Addr) (cb : Nat) (turn sx sy sz : Int) (w : World) (hk : Kinds w QA qc qs) (hb : Bricks w B cb bs)
    (h : ¬ (checkErr (qs.map (·.1)) bs = 0 ∧ inB 0 23 turn = true ∧ nearB ⟨sx, sy, sz⟩ (-1000) 1000 = true)) :
    Calls Tryz.prog 8 #[.slice QA qs.length qc, .agg #[.slice B bs.length cb], .int .i64 turn, .agg #[.int .i64 sx, .int .i64 sy, .int .i64 sz]] w (MoveOwn (moveL (qs.map (·.1)) bs turn ⟨sx, sy, sz⟩) (moveErr (qs.map (·.1)) bs turn ⟨sx, sy, sz⟩) w) := by
  obtain ⟨W1, hW1, E1, B1, hz1⟩ := mk_ w #[.slice B bs.length cb] 25
  obtain ⟨W2, hW2, E2, B2, hz2⟩ := mk_ W1 #[.int .i64 sx, .int .i64 sy, .int .i64 sz] 27
  obtain ⟨W3, hW3, E3, B3, hz3⟩ := mk_ W2 #[.slice none 0 0] 25
  rw [hz1] at B2
  rw [hz2, hz1] at B3
  have E13 := (E1.trans E2).trans E3
  have b1 := ((B1.ext E2).ext E3).cell
  have CK := checkM_c qs QA qc bs B cb W3 (hk.ext E13) (hb.ext E13)
  obtain ⟨T, hT⟩ : ∃ T, w.heap.size = T := ⟨_, rfl⟩
  rw [hT] at B1 B2 B3
  have HT := Lib.hid hT
  have HE := Lib.hid E13
  have HZ1 := Lib.hid (show W1.heap.size = T + 1 by omega)
  have HZ2 := Lib.hid (show W2.heap.size = T + 1 + 1 by omega)
  clear hz1 hz2 hz3
  obtain ⟨r, hr⟩ : ∃ r, checkErr (qs.map (·.1)) bs = r := ⟨_, rfl⟩
  rw [hr] at CK h
  by_cases h0 : r = 0
  · subst h0
    have ha : ¬ (inB 0 23 turn = true ∧ nearB ⟨sx, sy, sz⟩ (-1000) 1000 = true) := fun k => h ⟨rfl, k⟩
    have he := moveErr_arg (turn := turn) (s := ⟨sx, sy, sz⟩) hr ha
    have hl := moveL_bad he (by decide)
    rw [he, hl]
    have RN := near_c sx sy sz (-1000) 1000
    clear he hl hr h hk hb hT
    obtain ⟨t1, ht1⟩ : ∃ t, inB 0 23 turn = t := ⟨_, rfl⟩
    obtain ⟨t2, ht2⟩ : ∃ t, nearB ⟨sx, sy, sz⟩ (-1000) 1000 = t := ⟨_, rfl⟩
    have RT := fun W => isTurn1_c W turn 3
    rw [ht1] at ha RT
    rw [ht2] at ha RN
    clear ht1 ht2
    cases t1
    · go_enter Tryz.func8, Tryz.ntmps8
      go_wp2_with fail
      rw [HT.out, HZ1.out, HZ2.out]
      refine CK.mono ?_
      rintro e W4 ⟨rfl, E4⟩
      go_wp2_with fail
      refine (RT _).mono ?_
      rintro e W5 ⟨rfl, h5⟩
      have E5 : Ext W4 W5 := h5 ▸ (Ext.refl W4).alloc _
      clear h5
      have B5 := ((B3.ext E4).ext E5)
      have c5 := B5.cell
      have f5 := B5.frozen
      obtain ⟨V, hV⟩ : ∃ V, W5.setCell ⟨T + 1 + 1, 0, none⟩ (.slice none 0 0) = V := ⟨_, rfl⟩
      have BV : Blk V (T + 1 + 1) 25 #[.slice none 0 0] := by rw [← hV]; exact B5.set_ 0 _
      have EV : Ext w V := by rw [← hV]; exact (HE.out.trans (E4.trans E5)).setCell (by have := HT.out; show w.heap.size ≤ T + 1 + 1; omega) _
      have cv := BV.cell
      go_wp2_with fail
      refine bodyPost_ret (v := .tuple #[.agg #[.slice none 0 0], .int .i64 2]) (by simp [results, Tryz.results8, go_sem, cv]) rfl (moveNilO EV)
    · cases t2
      · have BB2 := B2.ext E3
        go_enter Tryz.func8, Tryz.ntmps8
        go_wp2_with fail
        rw [HT.out, HZ1.out, HZ2.out]
        refine CK.mono ?_
        rintro e W4 ⟨rfl, E4⟩
        go_wp2_with fail
        refine (RT _).mono ?_
        rintro e W5 ⟨rfl, h5⟩
        have E5 : Ext W4 W5 := h5 ▸ (Ext.refl W4).alloc _
        clear h5
        have b2 := ((BB2.ext E4).ext E5).cell
        go_wp2_with fail
        refine (RN _).mono ?_
        rintro e W6 ⟨rfl, E6⟩
        have B5 := ((B3.ext (E4.trans E5)).ext E6)
        have c5 := B5.cell
        have f5 := B5.frozen
        obtain ⟨V, hV⟩ : ∃ V, W6.setCell ⟨T + 1 + 1, 0, none⟩ (.slice none 0 0) = V := ⟨_, rfl⟩
        have BV : Blk V (T + 1 + 1) 25 #[.slice none 0 0] := by rw [← hV]; exact B5.set_ 0 _
        have EV : Ext w V := by rw [← hV]; exact (HE.out.trans ((E4.trans E5).trans E6)).setCell (by have := HT.out; show w.heap.size ≤ T + 1 + 1; omega) _
        have cv := BV.cell
        go_wp2_with fail
        refine bodyPost_ret (v := .tuple #[.agg #[.slice none 0 0], .int .i64 2]) (by simp [results, Tryz.results8, go_sem, cv]) rfl (moveNilO EV)
      · exact absurd ⟨rfl, rfl⟩ ha
  · have he := moveErr_check (turn := turn) (s := ⟨sx, sy, sz⟩) hr h0
    have hl := moveL_bad he h0
    rw [he, hl]
    have h1 : (r != 0) = true := by simpa using h0
    clear he hl hr h0 h hk hb hT
    go_enter Tryz.func8, Tryz.ntmps8
    go_wp2_with fail
    rw [HT.out, HZ1.out, HZ2.out]
    refine CK.mono ?_
    rintro e W4 ⟨rfl, E4⟩
    have B4 := B3.ext E4
    have c4 := B4.cell
    have f4 := B4.frozen
    obtain ⟨V, hV⟩ : ∃ V, W4.setCell ⟨T + 1 + 1, 0, none⟩ (.slice none 0 0) = V := ⟨_, rfl⟩
    have BV : Blk V (T + 1 + 1) 25 #[.slice none 0 0] := by rw [← hV]; exact B4.set_ 0 _
    have EV : Ext w V := by rw [← hV]; exact (HE.out.trans E4).setCell (by have := HT.out; show w.heap.size ≤ T + 1 + 1; omega) _
    have cv := BV.cell
    go_wp2_with fail
    refine bodyPost_ret (v := .tuple #[.agg #[.slice none 0 0], .int .i64 r]) (by simp [results, Tryz.results8, go_sem, cv]) rfl (moveNilO EV)
end Go.Proofs.YtjacbhomhjoolaaGreat
namespace Go.Proofs.YtjacbhomhjoolaaGreat
open Go.RowKit

structure Mv10 (W0 : World) (G T1 : Nat) (i px py pz tb nx ny nz sx sy sz : Int) (tn nt : Nat) (cl : Int) (L : Nat → Bool) (us : Nat → Value) (w : World) : Prop where
  x : Ext W0 w
  g0 : Blk w T1 27 #[.int .i64 sx, .int .i64 sy, .int .i64 sz]
  g1 : L 13 = false → L 15 = false → Blk w G 51 #[.int .i64 i, .int .i64 px, .int .i64 py, .int .i64 pz, .int .u8 tb, .int .u8 cl]
  g2 : L 13 = true → L 15 = false → Blk w G 51 #[.int .i64 i, .int .i64 (nx + sx), .int .i64 (ny + sy), .int .i64 (nz + sz), .int .u8 tb, .int .u8 cl]
  g3 : L 15 = true → Blk w G 51 #[.int .i64 i, .int .i64 (nx + sx), .int .i64 (ny + sy), .int .i64 (nz + sz), .int .u8 (nt : Nat), .int .u8 cl]
  f0 : L 0 = true → us 0 = .pointer (some ⟨G, 1, none⟩)
  f1 : L 1 = true → us 1 = .agg #[.int .i64 px, .int .i64 py, .int .i64 pz]
  f2 : L 2 = true → us 2 = .int .i64 tn
  f3 : L 3 = true → us 3 = .agg #[.int .i64 nx, .int .i64 ny, .int .i64 nz]
  f4 : L 4 = true → us 4 = .agg #[.int .i64 sx, .int .i64 sy, .int .i64 sz]
  f5 : L 5 = true → us 5 = .agg #[.int .i64 (nx + sx), .int .i64 (ny + sy), .int .i64 (nz + sz)]
  f6 : L 6 = true → us 6 = .pointer (some ⟨G, 4, none⟩)
  f7 : L 7 = true → us 7 = .int .u8 tb
  f8 : L 8 = true → us 8 = .int .i64 tb
  f9 : L 9 = true → us 9 = .int .i64 tn
  f10 : L 10 = true → us 10 = .int .i64 nt
  f11 : L 11 = true → us 11 = .int .u8 nt
  f12 : L 12 = true → us 12 = .pointer (some ⟨G, 1, none⟩)
  f14 : L 14 = true → us 14 = .pointer (some ⟨G, 4, none⟩)
theorem three_set {w w0 : World} {g : Nat} {t : TypeId} {i x y z tb cl : Value} (h : Blk w g t #[i, x, y, z, tb, cl]) (E : Ext w0 w) (hg : w0.heap.size ≤ g) (a b c : Value) :
    ∃ V, ((w.setCell ⟨g, 1, none⟩ a).setCell ⟨g, 2, none⟩ b).setCell ⟨g, 3, none⟩ c = V ∧ Blk V g t #[i, a, b, c, tb, cl] ∧ Ext w0 V ∧ ∀ k t' cs', k ≠ g → Blk w k t' cs' → Blk V k t' cs' :=
  ⟨_, rfl, ((h.set_ 1 a).set_ 2 b).set_ 3 c, ((E.setCell hg a).setCell hg b).setCell hg c, fun _ _ _ hk hb => ((hb.far hk _).far hk _).far hk _⟩
set_option maxRecDepth 100000 in
set_option maxHeartbeats 16000000 in
theorem moveG_c (qs : List (Knd × KAt)) (QA : Option Addr) (qc : Nat) (bs : List Brk) (B : Option Addr) (cb : Nat) (tn : Nat) (sx sy sz : Int) (w : World) (hk : Kinds w QA qc qs) (hb : Bricks w B cb bs)
    (hr : checkErr (qs.map (·.1)) bs = 0) (ht : tn < 24) (hs : nearB ⟨sx, sy, sz⟩ (-1000) 1000 = true) (r : Int) (R : List Brk)
    (hA : askedErr (qs.map (·.1)) (movedL tn ⟨sx, sy, sz⟩ bs) = r) (hgood : r = 0 → R = movedL tn ⟨sx, sy, sz⟩ bs) (hbad : r ≠ 0 → R = []) :
    Calls Tryz.prog 8 #[.slice QA qs.length qc, .agg #[.slice B bs.length cb], .int .i64 tn, .agg #[.int .i64 sx, .int .i64 sy, .int .i64 sz]] w (MoveOwn R r w) := by
  obtain ⟨W1, hW1, E1, B1, hz1⟩ := mk_ w #[.slice B bs.length cb] 25
  obtain ⟨W2, hW2, E2, B2, hz2⟩ := mk_ W1 #[.int .i64 sx, .int .i64 sy, .int .i64 sz] 27
  obtain ⟨W3, hW3, E3, B3, hz3⟩ := mk_ W2 #[.slice none 0 0] 25
  rw [hz1] at B2
  rw [hz2, hz1] at B3
  have E13 := (E1.trans E2).trans E3
  have b1 := ((B1.ext E2).ext E3).cell
  have CK := checkM_c qs QA qc bs B cb W3 (hk.ext E13) (hb.ext E13)
  rw [hr] at CK
  obtain ⟨T, hT⟩ : ∃ T, w.heap.size = T := ⟨_, rfl⟩
  rw [hT] at B1 B2 B3
  have HT := Lib.hid hT
  have HE := Lib.hid E13
  have HZ1 := Lib.hid (show W1.heap.size = T + 1 by omega)
  have HZ2 := Lib.hid (show W2.heap.size = T + 1 + 1 by omega)
  clear hz1 hz2 hz3
  have RT := fun W => isTurn1_c W tn 3
  rw [show inB 0 23 (tn : Int) = true by rw [inB_iff]; omega] at RT
  have RN := near_c sx sy sz (-1000) 1000
  rw [hs] at RN
  have hbn := (mfine_of hk hb.2 (check_model hr)).n
  have sok := near_ok1 hs
  have hqn := hk.len
  have PL := Lib.hid (fun (b : Brk) (hm : b ∈ bs) => (mfine_of hk hb.2 (check_model hr)).b b hm)
  have CH := Lib.hid (fun W (E : Ext w W) A cap (h : Bricks W A cap (movedL tn ⟨sx, sy, sz⟩ bs)) => check_c qs QA qc (movedL tn ⟨sx, sy, sz⟩ bs) A cap W (hk.ext E) h)
  rw [hA, movedL_len] at CH
  have Hgood := Lib.hid hgood
  have Hbad := Lib.hid hbad
  have HB := Lib.hid hb
  have BB2 := B2.ext E3
  have b1m := (B1.ext E2).ext E3
  obtain ⟨i9, hi9, hz9, hz91, hz92⟩ := info_parts infoBrick
  clear hr hk hb hT hgood hbad hs hA
  go_enter Tryz.func8, Tryz.ntmps8
  go_wp2_with fail
  rw [HT.out, HZ1.out, HZ2.out]
  clear hW1 hW2 hW3 b1
  refine CK.mono ?_
  rintro e W4 ⟨rfl, E4⟩
  go_wp2_with fail
  refine (RT _).mono ?_
  rintro e W5 ⟨rfl, h5⟩
  have E5 : Ext W4 W5 := h5 ▸ (Ext.refl W4).alloc _
  clear h5
  have b2 := ((BB2.ext E4).ext E5).cell
  go_wp2_with fail
  refine (RN _).mono ?_
  rintro e W6 ⟨rfl, E6⟩
  obtain ⟨W7, hW7, E7, B7, hz7⟩ := mk_ W6 #[.slice none 0 0] 25
  obtain ⟨O, hO⟩ : ∃ O, W6.heap.size = O := ⟨_, rfl⟩
  rw [hO] at B7
  have HO := Lib.hid hO
  have E46 := (E4.trans E5).trans E6
  have BT6 := (BB2.ext E46)
  clear hO hz7 b2
  have b1 := (b1m.ext (E46.trans E7)).cell
  go_upto_region 6 with (fail)
  go_upto_region 7 with (fail)
  rw [HO.out]
  go_wp2_with fail
  clear b1
  go_loopw [35] (fun ii wr => ∃ (j : Nat) (v : Value), j ≤ bs.length ∧ ii = .int .i64 j ∧ Ext W6 wr ∧ Blk wr O 25 #[v] ∧ wr.ownsRow (O + 1) 51 6 v j (((movedL tn ⟨sx, sy, sz⟩ bs).take j).map Brk.cs).flatten) (fun ii _ => bs.length - (intOf ii).toNat)
  case atStart => exact ⟨0, _, by omega, rfl, E7, B7, World.ownsRow_nil _ _ _ _⟩
  case round =>
    clear B7 E7
    obtain ⟨j, v, hj, rfl, Er, BO, own⟩ := hrel
    by_cases hlt : j < bs.length
    · obtain ⟨g, off, ⟨kd, ⟨x, y, z⟩, t, cl⟩, rfl, hq, hby, hg, d0, d1, d2, d3, d4, d5⟩ := (((HB.out.ext HE.out).ext E46).ext Er).at_ (k := j) hlt
      obtain ⟨i, tb, kk, p, e1, e2, htb, hqi, hkf, hpt, -⟩ := PL.out _ (List.mem_of_getElem? hq)
      simp only at e1 e2 hpt d0 d1 d2 d3 d4 d5
      subst e1 e2
      have hpo : Pt.ok ⟨x, y, z⟩ := hpt.ok (by omega)
      have CT := Lib.hid (fun W => turn_c x y z tn W ht hpo)
      have hto := turnS_ok hpo tn
      have Hmb := Lib.hid (movedL_snoc (t := tn) (s := ⟨sx, sy, sz⟩) hq)
      unfold moveB addP at Hmb
      simp only at Hmb
      obtain ⟨⟨nx, ny, nz⟩, hn⟩ : ∃ q, turnS ⟨x, y, z⟩ tn = q := ⟨_, rfl⟩
      rw [hn] at CT hto Hmb
      have CP := Lib.hid (fun W => plus_c nx ny nz sx sy sz W hto sok)
      have CC := Lib.hid (fun W => compose_c tb tn htb ht W)
      have hcT := compT_in tb tn
      rw [Int.toNat_natCast] at Hmb
      obtain ⟨nt, hnt⟩ : ∃ q, compT tb tn = q := ⟨_, rfl⟩
      rw [hnt] at CC hcT Hmb
      have w1 := Lib.hid (show IntKind.i64.wrap (tb : Int) = tb from IntWalk.i64_in _ (by omega))
      have w2 := Lib.hid (show IntKind.u8.wrap (nt : Int) = nt from IntWalk.u8_in _ (by omega))
      obtain ⟨W8, hW8, E8, B8, hz8⟩ := mk_ wr #[.int .i64 i, .int .i64 x, .int .i64 y, .int .i64 z, .int .u8 tb, .int .u8 cl] 51
      obtain ⟨G, hG⟩ : ∃ G, wr.heap.size = G := ⟨_, rfl⟩
      rw [hG] at B8
      have HG := Lib.hid hG
      have j0 : (0 : Int) ≤ j := by omega
      have j1 : (j : Int) < bs.length := by omega
      have hTG : T + 1 ≠ G := by have := (BT6.ext Er).lt; omega
      have hOG : O ≠ G := by have := BO.lt; omega
      clear hz8 hG hqi hkf hpt hq hn hnt
      go_upto_region 10 with (fail)
      rw [HG.out]
      clear d0 d1 d2 d3 d4 d5
      have BT8 := (BT6.ext Er).ext E8
      have hGr : wr.heap.size ≤ G := Nat.le_of_eq HG.out
      have HTG := Lib.hid hTG
      clear hTG
      refine wp_region_by (Mv10 wr G (T + 1) i x y z tb nx ny nz sx sy sz tn nt cl) (by kernel_rfl) (by kernel_rfl) (by kernel_rfl) (fun us => ⟨E8.drew, BT8.drew, fun _ _ => B8.drew, (nofun), (nofun), (nofun), (nofun), (nofun), (nofun), (nofun), (nofun), (nofun), (nofun), (nofun), (nofun), (nofun), (nofun), (nofun), (nofun)⟩) ⟨?_, ?_, ?_, ?_, ?_, ?_, ?_, ?_, ?_, ?_, ?_, ?_, ?_, ?_, ?_, ?_, trivial⟩ ?_
      · intro L us wx K a ha hp hd hun hI hK
        have HX := hI.x
        clear hp HX
        replace hd := Lib.hid hd
        simp only [putAll, Act.put, List.setIfInBounds_toArray, List.set_cons_succ, List.set_cons_zero, Nat.reduceAdd] at ha
        subst ha
        simp only [Act.put, List.setIfInBounds_toArray, List.set_cons_succ, List.set_cons_zero] at hK
        go_simp
        refine hK _ _ ?_
        first
        | (refine ⟨hI.x, hI.g0, hI.g1, hI.g2, hI.g3, ?_, hI.f1, hI.f2, hI.f3, hI.f4, hI.f5, hI.f6, hI.f7, hI.f8, hI.f9, hI.f10, hI.f11, hI.f12, hI.f14⟩ <;> (first | exact fun _ => rfl | skip))
        | (refine ⟨?_, ?_, ?_, ?_, ?_, ?_, ?_, ?_, ?_, ?_, ?_, ?_, ?_, ?_, ?_, ?_, ?_, ?_, ?_⟩ <;> (first | exact hI.x | exact hI.g0 | exact hI.g1 | exact hI.g2 | exact hI.g3 | exact hI.f0 | exact hI.f1 | exact hI.f2 | exact hI.f3 | exact hI.f4 | exact hI.f5 | exact hI.f6 | exact hI.f7 | exact hI.f8 | exact hI.f9 | exact hI.f10 | exact hI.f11 | exact hI.f12 | exact hI.f14 | exact fun _ => rfl | skip))
      · intro L us wx K a ha hp hd hun hI hK
        have HX := hI.x
        have u0 := hI.f0 (hp 0 (by kernel_rfl))
        have h13 : L 13 = false := Bool.eq_false_iff.2 fun hl => absurd (hd 13 1 hl (by kernel_rfl)) (by rw [hun]; decide)
        have h15 : L 15 = false := Bool.eq_false_iff.2 fun hl => absurd (hd 15 1 hl (by kernel_rfl)) (by rw [hun]; decide)
        have bb := (hI.g1 h13 h15).cell
        clear hp HX
        replace hd := Lib.hid hd
        simp only [putAll, Act.put, List.setIfInBounds_toArray, List.set_cons_succ, List.set_cons_zero, Nat.reduceAdd, u0] at ha
        subst ha
        simp only [Act.put, List.setIfInBounds_toArray, List.set_cons_succ, List.set_cons_zero] at hK
        go_simp
        refine hK _ _ ?_
        first
        | (refine ⟨hI.x, hI.g0, hI.g1, hI.g2, hI.g3, hI.f0, ?_, hI.f2, hI.f3, hI.f4, hI.f5, hI.f6, hI.f7, hI.f8, hI.f9, hI.f10, hI.f11, hI.f12, hI.f14⟩ <;> (first | exact fun _ => rfl | skip))
        | (refine ⟨?_, ?_, ?_, ?_, ?_, ?_, ?_, ?_, ?_, ?_, ?_, ?_, ?_, ?_, ?_, ?_, ?_, ?_, ?_⟩ <;> (first | exact hI.x | exact hI.g0 | exact hI.g1 | exact hI.g2 | exact hI.g3 | exact hI.f0 | exact hI.f1 | exact hI.f2 | exact hI.f3 | exact hI.f4 | exact hI.f5 | exact hI.f6 | exact hI.f7 | exact hI.f8 | exact hI.f9 | exact hI.f10 | exact hI.f11 | exact hI.f12 | exact hI.f14 | exact fun _ => rfl | skip))
      · intro L us wx K a ha hp hd hun hI hK
        have HX := hI.x
        clear hp HX
        replace hd := Lib.hid hd
        simp only [putAll, Act.put, List.setIfInBounds_toArray, List.set_cons_succ, List.set_cons_zero, Nat.reduceAdd] at ha
        subst ha
        simp only [Act.put, List.setIfInBounds_toArray, List.set_cons_succ, List.set_cons_zero] at hK
        go_simp
        refine hK _ _ ?_
        first
        | (refine ⟨hI.x, hI.g0, hI.g1, hI.g2, hI.g3, hI.f0, hI.f1, ?_, hI.f3, hI.f4, hI.f5, hI.f6, hI.f7, hI.f8, hI.f9, hI.f10, hI.f11, hI.f12, hI.f14⟩ <;> (first | exact fun _ => rfl | skip))
        | (refine ⟨?_, ?_, ?_, ?_, ?_, ?_, ?_, ?_, ?_, ?_, ?_, ?_, ?_, ?_, ?_, ?_, ?_, ?_, ?_⟩ <;> (first | exact hI.x | exact hI.g0 | exact hI.g1 | exact hI.g2 | exact hI.g3 | exact hI.f0 | exact hI.f1 | exact hI.f2 | exact hI.f3 | exact hI.f4 | exact hI.f5 | exact hI.f6 | exact hI.f7 | exact hI.f8 | exact hI.f9 | exact hI.f10 | exact hI.f11 | exact hI.f12 | exact hI.f14 | exact fun _ => rfl | skip))
      · intro L us wx K a ha hp hd hun hI hK
        have HX := hI.x
        have u1 := hI.f1 (hp 1 (by kernel_rfl))
        have u2 := hI.f2 (hp 2 (by kernel_rfl))
        clear hp HX
        replace hd := Lib.hid hd
        simp only [putAll, Act.put, List.setIfInBounds_toArray, List.set_cons_succ, List.set_cons_zero, Nat.reduceAdd, u1, u2] at ha
        subst ha
        simp only [Act.put, List.setIfInBounds_toArray, List.set_cons_succ, List.set_cons_zero] at hK
        go_simp
        go_at_call 45
        refine (CT.out _).mono ?_
        rintro e wn ⟨rfl, En⟩
        go_simp
        refine hK _ _ ?_
        first
        | (refine ⟨hI.x.trans En, ?_, ?_, ?_, ?_, hI.f0, hI.f1, hI.f2, ?_, hI.f4, hI.f5, hI.f6, hI.f7, hI.f8, hI.f9, hI.f10, hI.f11, hI.f12, hI.f14⟩ <;> (first | exact hI.g0.ext En | exact fun h => (hI.g0 h).ext En | exact fun h h2 => (hI.g0 h h2).ext En | exact fun h => own_ext (hI.g0 h) En | exact hI.g0 | exact hI.g1.ext En | exact fun h => (hI.g1 h).ext En | exact fun h h2 => (hI.g1 h h2).ext En | exact fun h => own_ext (hI.g1 h) En | exact hI.g1 | exact hI.g2.ext En | exact fun h => (hI.g2 h).ext En | exact fun h h2 => (hI.g2 h h2).ext En | exact fun h => own_ext (hI.g2 h) En | exact hI.g2 | exact hI.g3.ext En | exact fun h => (hI.g3 h).ext En | exact fun h h2 => (hI.g3 h h2).ext En | exact fun h => own_ext (hI.g3 h) En | exact hI.g3 | exact fun _ => rfl | skip))
        | (refine ⟨hI.x.trans En, ?_, ?_, ?_, ?_, ?_, ?_, ?_, ?_, ?_, ?_, ?_, ?_, ?_, ?_, ?_, ?_, ?_, ?_⟩ <;> (first | exact hI.g0.ext En | exact fun h => (hI.g0 h).ext En | exact fun h h2 => (hI.g0 h h2).ext En | exact fun h => own_ext (hI.g0 h) En | exact hI.g0 | exact hI.g1.ext En | exact fun h => (hI.g1 h).ext En | exact fun h h2 => (hI.g1 h h2).ext En | exact fun h => own_ext (hI.g1 h) En | exact hI.g1 | exact hI.g2.ext En | exact fun h => (hI.g2 h).ext En | exact fun h h2 => (hI.g2 h h2).ext En | exact fun h => own_ext (hI.g2 h) En | exact hI.g2 | exact hI.g3.ext En | exact fun h => (hI.g3 h).ext En | exact fun h h2 => (hI.g3 h h2).ext En | exact fun h => own_ext (hI.g3 h) En | exact hI.g3 | exact hI.f0 | exact hI.f1 | exact hI.f2 | exact hI.f3 | exact hI.f4 | exact hI.f5 | exact hI.f6 | exact hI.f7 | exact hI.f8 | exact hI.f9 | exact hI.f10 | exact hI.f11 | exact hI.f12 | exact hI.f14 | exact fun _ => rfl | skip))
      · intro L us wx K a ha hp hd hun hI hK
        have HX := hI.x
        have bb := hI.g0.cell
        clear hp HX
        replace hd := Lib.hid hd
        simp only [putAll, Act.put, List.setIfInBounds_toArray, List.set_cons_succ, List.set_cons_zero, Nat.reduceAdd] at ha
        subst ha
        simp only [Act.put, List.setIfInBounds_toArray, List.set_cons_succ, List.set_cons_zero] at hK
        go_simp
        refine hK _ _ ?_
        first
        | (refine ⟨hI.x, hI.g0, hI.g1, hI.g2, hI.g3, hI.f0, hI.f1, hI.f2, hI.f3, ?_, hI.f5, hI.f6, hI.f7, hI.f8, hI.f9, hI.f10, hI.f11, hI.f12, hI.f14⟩ <;> (first | exact fun _ => rfl | skip))
        | (refine ⟨?_, ?_, ?_, ?_, ?_, ?_, ?_, ?_, ?_, ?_, ?_, ?_, ?_, ?_, ?_, ?_, ?_, ?_, ?_⟩ <;> (first | exact hI.x | exact hI.g0 | exact hI.g1 | exact hI.g2 | exact hI.g3 | exact hI.f0 | exact hI.f1 | exact hI.f2 | exact hI.f3 | exact hI.f4 | exact hI.f5 | exact hI.f6 | exact hI.f7 | exact hI.f8 | exact hI.f9 | exact hI.f10 | exact hI.f11 | exact hI.f12 | exact hI.f14 | exact fun _ => rfl | skip))
      · intro L us wx K a ha hp hd hun hI hK
        have HX := hI.x
        have u3 := hI.f3 (hp 3 (by kernel_rfl))
        have u4 := hI.f4 (hp 4 (by kernel_rfl))
        clear hp HX
        replace hd := Lib.hid hd
        simp only [putAll, Act.put, List.setIfInBounds_toArray, List.set_cons_succ, List.set_cons_zero, Nat.reduceAdd, u3, u4] at ha
        subst ha
        simp only [Act.put, List.setIfInBounds_toArray, List.set_cons_succ, List.set_cons_zero] at hK
        go_simp
        go_at_call 44
        refine (CP.out _).mono ?_
        rintro e wn ⟨rfl, En⟩
        go_simp
        refine hK _ _ ?_
        first
        | (refine ⟨hI.x.trans En, ?_, ?_, ?_, ?_, hI.f0, hI.f1, hI.f2, hI.f3, hI.f4, ?_, hI.f6, hI.f7, hI.f8, hI.f9, hI.f10, hI.f11, hI.f12, hI.f14⟩ <;> (first | exact hI.g0.ext En | exact fun h => (hI.g0 h).ext En | exact fun h h2 => (hI.g0 h h2).ext En | exact fun h => own_ext (hI.g0 h) En | exact hI.g0 | exact hI.g1.ext En | exact fun h => (hI.g1 h).ext En | exact fun h h2 => (hI.g1 h h2).ext En | exact fun h => own_ext (hI.g1 h) En | exact hI.g1 | exact hI.g2.ext En | exact fun h => (hI.g2 h).ext En | exact fun h h2 => (hI.g2 h h2).ext En | exact fun h => own_ext (hI.g2 h) En | exact hI.g2 | exact hI.g3.ext En | exact fun h => (hI.g3 h).ext En | exact fun h h2 => (hI.g3 h h2).ext En | exact fun h => own_ext (hI.g3 h) En | exact hI.g3 | exact fun _ => rfl | skip))
        | (refine ⟨hI.x.trans En, ?_, ?_, ?_, ?_, ?_, ?_, ?_, ?_, ?_, ?_, ?_, ?_, ?_, ?_, ?_, ?_, ?_, ?_⟩ <;> (first | exact hI.g0.ext En | exact fun h => (hI.g0 h).ext En | exact fun h h2 => (hI.g0 h h2).ext En | exact fun h => own_ext (hI.g0 h) En | exact hI.g0 | exact hI.g1.ext En | exact fun h => (hI.g1 h).ext En | exact fun h h2 => (hI.g1 h h2).ext En | exact fun h => own_ext (hI.g1 h) En | exact hI.g1 | exact hI.g2.ext En | exact fun h => (hI.g2 h).ext En | exact fun h h2 => (hI.g2 h h2).ext En | exact fun h => own_ext (hI.g2 h) En | exact hI.g2 | exact hI.g3.ext En | exact fun h => (hI.g3 h).ext En | exact fun h h2 => (hI.g3 h h2).ext En | exact fun h => own_ext (hI.g3 h) En | exact hI.g3 | exact hI.f0 | exact hI.f1 | exact hI.f2 | exact hI.f3 | exact hI.f4 | exact hI.f5 | exact hI.f6 | exact hI.f7 | exact hI.f8 | exact hI.f9 | exact hI.f10 | exact hI.f11 | exact hI.f12 | exact hI.f14 | exact fun _ => rfl | skip))
      · intro L us wx K a ha hp hd hun hI hK
        have HX := hI.x
        clear hp HX
        replace hd := Lib.hid hd
        simp only [putAll, Act.put, List.setIfInBounds_toArray, List.set_cons_succ, List.set_cons_zero, Nat.reduceAdd] at ha
        subst ha
        simp only [Act.put, List.setIfInBounds_toArray, List.set_cons_succ, List.set_cons_zero] at hK
        go_simp
        refine hK _ _ ?_
        first
        | (refine ⟨hI.x, hI.g0, hI.g1, hI.g2, hI.g3, hI.f0, hI.f1, hI.f2, hI.f3, hI.f4, hI.f5, ?_, hI.f7, hI.f8, hI.f9, hI.f10, hI.f11, hI.f12, hI.f14⟩ <;> (first | exact fun _ => rfl | skip))
        | (refine ⟨?_, ?_, ?_, ?_, ?_, ?_, ?_, ?_, ?_, ?_, ?_, ?_, ?_, ?_, ?_, ?_, ?_, ?_, ?_⟩ <;> (first | exact hI.x | exact hI.g0 | exact hI.g1 | exact hI.g2 | exact hI.g3 | exact hI.f0 | exact hI.f1 | exact hI.f2 | exact hI.f3 | exact hI.f4 | exact hI.f5 | exact hI.f6 | exact hI.f7 | exact hI.f8 | exact hI.f9 | exact hI.f10 | exact hI.f11 | exact hI.f12 | exact hI.f14 | exact fun _ => rfl | skip))
      · intro L us wx K a ha hp hd hun hI hK
        have HX := hI.x
        have u6 := hI.f6 (hp 6 (by kernel_rfl))
        have h13 : L 13 = false := Bool.eq_false_iff.2 fun hl => absurd (hd 13 7 hl (by kernel_rfl)) (by rw [hun]; decide)
        have h15 : L 15 = false := Bool.eq_false_iff.2 fun hl => absurd (hd 15 7 hl (by kernel_rfl)) (by rw [hun]; decide)
        have bb := (hI.g1 h13 h15).cell
        clear hp HX
        replace hd := Lib.hid hd
        simp only [putAll, Act.put, List.setIfInBounds_toArray, List.set_cons_succ, List.set_cons_zero, Nat.reduceAdd, u6] at ha
        subst ha
        simp only [Act.put, List.setIfInBounds_toArray, List.set_cons_succ, List.set_cons_zero] at hK
        go_simp
        refine hK _ _ ?_
        first
        | (refine ⟨hI.x, hI.g0, hI.g1, hI.g2, hI.g3, hI.f0, hI.f1, hI.f2, hI.f3, hI.f4, hI.f5, hI.f6, ?_, hI.f8, hI.f9, hI.f10, hI.f11, hI.f12, hI.f14⟩ <;> (first | exact fun _ => rfl | skip))
        | (refine ⟨?_, ?_, ?_, ?_, ?_, ?_, ?_, ?_, ?_, ?_, ?_, ?_, ?_, ?_, ?_, ?_, ?_, ?_, ?_⟩ <;> (first | exact hI.x | exact hI.g0 | exact hI.g1 | exact hI.g2 | exact hI.g3 | exact hI.f0 | exact hI.f1 | exact hI.f2 | exact hI.f3 | exact hI.f4 | exact hI.f5 | exact hI.f6 | exact hI.f7 | exact hI.f8 | exact hI.f9 | exact hI.f10 | exact hI.f11 | exact hI.f12 | exact hI.f14 | exact fun _ => rfl | skip))
      · intro L us wx K a ha hp hd hun hI hK
        have HX := hI.x
        have u7 := hI.f7 (hp 7 (by kernel_rfl))
        clear hp HX
        replace hd := Lib.hid hd
        simp only [putAll, Act.put, List.setIfInBounds_toArray, List.set_cons_succ, List.set_cons_zero, Nat.reduceAdd, u7] at ha
        subst ha
        simp only [Act.put, List.setIfInBounds_toArray, List.set_cons_succ, List.set_cons_zero] at hK
        go_simp
        refine hK _ _ ?_
        first
        | (refine ⟨hI.x, hI.g0, hI.g1, hI.g2, hI.g3, hI.f0, hI.f1, hI.f2, hI.f3, hI.f4, hI.f5, hI.f6, hI.f7, ?_, hI.f9, hI.f10, hI.f11, hI.f12, hI.f14⟩ <;> (first | exact fun _ => rfl | skip))
        | (refine ⟨?_, ?_, ?_, ?_, ?_, ?_, ?_, ?_, ?_, ?_, ?_, ?_, ?_, ?_, ?_, ?_, ?_, ?_, ?_⟩ <;> (first | exact hI.x | exact hI.g0 | exact hI.g1 | exact hI.g2 | exact hI.g3 | exact hI.f0 | exact hI.f1 | exact hI.f2 | exact hI.f3 | exact hI.f4 | exact hI.f5 | exact hI.f6 | exact hI.f7 | exact hI.f8 | exact hI.f9 | exact hI.f10 | exact hI.f11 | exact hI.f12 | exact hI.f14 | exact fun _ => rfl | skip))
        exact fun _ => congrArg (Value.int .i64) w1.out
      · intro L us wx K a ha hp hd hun hI hK
        have HX := hI.x
        clear hp HX
        replace hd := Lib.hid hd
        simp only [putAll, Act.put, List.setIfInBounds_toArray, List.set_cons_succ, List.set_cons_zero, Nat.reduceAdd] at ha
        subst ha
        simp only [Act.put, List.setIfInBounds_toArray, List.set_cons_succ, List.set_cons_zero] at hK
        go_simp
        refine hK _ _ ?_
        first
        | (refine ⟨hI.x, hI.g0, hI.g1, hI.g2, hI.g3, hI.f0, hI.f1, hI.f2, hI.f3, hI.f4, hI.f5, hI.f6, hI.f7, hI.f8, ?_, hI.f10, hI.f11, hI.f12, hI.f14⟩ <;> (first | exact fun _ => rfl | skip))
        | (refine ⟨?_, ?_, ?_, ?_, ?_, ?_, ?_, ?_, ?_, ?_, ?_, ?_, ?_, ?_, ?_, ?_, ?_, ?_, ?_⟩ <;> (first | exact hI.x | exact hI.g0 | exact hI.g1 | exact hI.g2 | exact hI.g3 | exact hI.f0 | exact hI.f1 | exact hI.f2 | exact hI.f3 | exact hI.f4 | exact hI.f5 | exact hI.f6 | exact hI.f7 | exact hI.f8 | exact hI.f9 | exact hI.f10 | exact hI.f11 | exact hI.f12 | exact hI.f14 | exact fun _ => rfl | skip))
      · intro L us wx K a ha hp hd hun hI hK
        have HX := hI.x
        have u8 := hI.f8 (hp 8 (by kernel_rfl))
        have u9 := hI.f9 (hp 9 (by kernel_rfl))
        clear hp HX
        replace hd := Lib.hid hd
        simp only [putAll, Act.put, List.setIfInBounds_toArray, List.set_cons_succ, List.set_cons_zero, Nat.reduceAdd, u8, u9] at ha
        subst ha
        simp only [Act.put, List.setIfInBounds_toArray, List.set_cons_succ, List.set_cons_zero] at hK
        go_simp
        go_at_call 46
        refine (CC.out _).mono ?_
        rintro e wn ⟨rfl, En⟩
        go_simp
        refine hK _ _ ?_
        first
        | (refine ⟨hI.x.trans En, ?_, ?_, ?_, ?_, hI.f0, hI.f1, hI.f2, hI.f3, hI.f4, hI.f5, hI.f6, hI.f7, hI.f8, hI.f9, ?_, hI.f11, hI.f12, hI.f14⟩ <;> (first | exact hI.g0.ext En | exact fun h => (hI.g0 h).ext En | exact fun h h2 => (hI.g0 h h2).ext En | exact fun h => own_ext (hI.g0 h) En | exact hI.g0 | exact hI.g1.ext En | exact fun h => (hI.g1 h).ext En | exact fun h h2 => (hI.g1 h h2).ext En | exact fun h => own_ext (hI.g1 h) En | exact hI.g1 | exact hI.g2.ext En | exact fun h => (hI.g2 h).ext En | exact fun h h2 => (hI.g2 h h2).ext En | exact fun h => own_ext (hI.g2 h) En | exact hI.g2 | exact hI.g3.ext En | exact fun h => (hI.g3 h).ext En | exact fun h h2 => (hI.g3 h h2).ext En | exact fun h => own_ext (hI.g3 h) En | exact hI.g3 | exact fun _ => rfl | skip))
        | (refine ⟨hI.x.trans En, ?_, ?_, ?_, ?_, ?_, ?_, ?_, ?_, ?_, ?_, ?_, ?_, ?_, ?_, ?_, ?_, ?_, ?_⟩ <;> (first | exact hI.g0.ext En | exact fun h => (hI.g0 h).ext En | exact fun h h2 => (hI.g0 h h2).ext En | exact fun h => own_ext (hI.g0 h) En | exact hI.g0 | exact hI.g1.ext En | exact fun h => (hI.g1 h).ext En | exact fun h h2 => (hI.g1 h h2).ext En | exact fun h => own_ext (hI.g1 h) En | exact hI.g1 | exact hI.g2.ext En | exact fun h => (hI.g2 h).ext En | exact fun h h2 => (hI.g2 h h2).ext En | exact fun h => own_ext (hI.g2 h) En | exact hI.g2 | exact hI.g3.ext En | exact fun h => (hI.g3 h).ext En | exact fun h h2 => (hI.g3 h h2).ext En | exact fun h => own_ext (hI.g3 h) En | exact hI.g3 | exact hI.f0 | exact hI.f1 | exact hI.f2 | exact hI.f3 | exact hI.f4 | exact hI.f5 | exact hI.f6 | exact hI.f7 | exact hI.f8 | exact hI.f9 | exact hI.f10 | exact hI.f11 | exact hI.f12 | exact hI.f14 | exact fun _ => rfl | skip))
      · intro L us wx K a ha hp hd hun hI hK
        have HX := hI.x
        have u10 := hI.f10 (hp 10 (by kernel_rfl))
        clear hp HX
        replace hd := Lib.hid hd
        simp only [putAll, Act.put, List.setIfInBounds_toArray, List.set_cons_succ, List.set_cons_zero, Nat.reduceAdd, u10] at ha
        subst ha
        simp only [Act.put, List.setIfInBounds_toArray, List.set_cons_succ, List.set_cons_zero] at hK
        go_simp
        refine hK _ _ ?_
        first
        | (refine ⟨hI.x, hI.g0, hI.g1, hI.g2, hI.g3, hI.f0, hI.f1, hI.f2, hI.f3, hI.f4, hI.f5, hI.f6, hI.f7, hI.f8, hI.f9, hI.f10, ?_, hI.f12, hI.f14⟩ <;> (first | exact fun _ => rfl | skip))
        | (refine ⟨?_, ?_, ?_, ?_, ?_, ?_, ?_, ?_, ?_, ?_, ?_, ?_, ?_, ?_, ?_, ?_, ?_, ?_, ?_⟩ <;> (first | exact hI.x | exact hI.g0 | exact hI.g1 | exact hI.g2 | exact hI.g3 | exact hI.f0 | exact hI.f1 | exact hI.f2 | exact hI.f3 | exact hI.f4 | exact hI.f5 | exact hI.f6 | exact hI.f7 | exact hI.f8 | exact hI.f9 | exact hI.f10 | exact hI.f11 | exact hI.f12 | exact hI.f14 | exact fun _ => rfl | skip))
        exact fun _ => congrArg (Value.int .u8) w2.out
      · intro L us wx K a ha hp hd hun hI hK
        have HX := hI.x
        clear hp HX
        replace hd := Lib.hid hd
        simp only [putAll, Act.put, List.setIfInBounds_toArray, List.set_cons_succ, List.set_cons_zero, Nat.reduceAdd] at ha
        subst ha
        simp only [Act.put, List.setIfInBounds_toArray, List.set_cons_succ, List.set_cons_zero] at hK
        go_simp
        refine hK _ _ ?_
        first
        | (refine ⟨hI.x, hI.g0, hI.g1, hI.g2, hI.g3, hI.f0, hI.f1, hI.f2, hI.f3, hI.f4, hI.f5, hI.f6, hI.f7, hI.f8, hI.f9, hI.f10, hI.f11, ?_, hI.f14⟩ <;> (first | exact fun _ => rfl | skip))
        | (refine ⟨?_, ?_, ?_, ?_, ?_, ?_, ?_, ?_, ?_, ?_, ?_, ?_, ?_, ?_, ?_, ?_, ?_, ?_, ?_⟩ <;> (first | exact hI.x | exact hI.g0 | exact hI.g1 | exact hI.g2 | exact hI.g3 | exact hI.f0 | exact hI.f1 | exact hI.f2 | exact hI.f3 | exact hI.f4 | exact hI.f5 | exact hI.f6 | exact hI.f7 | exact hI.f8 | exact hI.f9 | exact hI.f10 | exact hI.f11 | exact hI.f12 | exact hI.f14 | exact fun _ => rfl | skip))
      · intro L us wx K a ha hp hd hun hI hK
        have u5 := hI.f5 (hp 5 (by kernel_rfl))
        have u12 := hI.f12 (hp 12 (by kernel_rfl))
        have h15 : L 15 = false := Bool.eq_false_iff.2 fun hl => absurd (hd 15 13 hl (by kernel_rfl)) (by rw [hun]; decide)
        have BG := hI.g1 hun h15
        have bg := BG.cell
        have fg := BG.frozen
        obtain ⟨V, hV, BV, EV, FV⟩ := three_set BG hI.x hGr (.int .i64 (nx + sx)) (.int .i64 (ny + sy)) (.int .i64 (nz + sz))
        replace hd := Lib.hid hd
        simp only [putAll, Act.put, List.setIfInBounds_toArray, List.set_cons_succ, List.set_cons_zero, Nat.reduceAdd, u5, u12] at ha
        subst ha
        simp only [Act.put] at hK
        go_simp
        refine hK undef _ ?_
        refine ⟨EV, FV _ _ _ HTG.out hI.g0, (fun h => nomatch (show true = false from h)), (fun _ _ => BV), (fun h => absurd (show L 15 = true from h) (by rw [h15]; decide)), hI.f0, hI.f1, hI.f2, hI.f3, hI.f4, hI.f5, hI.f6, hI.f7, hI.f8, hI.f9, hI.f10, hI.f11, hI.f12, hI.f14⟩
      · intro L us wx K a ha hp hd hun hI hK
        have HX := hI.x
        clear hp HX
        replace hd := Lib.hid hd
        simp only [putAll, Act.put, List.setIfInBounds_toArray, List.set_cons_succ, List.set_cons_zero, Nat.reduceAdd] at ha
        subst ha
        simp only [Act.put, List.setIfInBounds_toArray, List.set_cons_succ, List.set_cons_zero] at hK
        go_simp
        refine hK _ _ ?_
        first
        | (refine ⟨hI.x, hI.g0, hI.g1, hI.g2, hI.g3, hI.f0, hI.f1, hI.f2, hI.f3, hI.f4, hI.f5, hI.f6, hI.f7, hI.f8, hI.f9, hI.f10, hI.f11, hI.f12, ?_⟩ <;> (first | exact fun _ => rfl | skip))
        | (refine ⟨?_, ?_, ?_, ?_, ?_, ?_, ?_, ?_, ?_, ?_, ?_, ?_, ?_, ?_, ?_, ?_, ?_, ?_, ?_⟩ <;> (first | exact hI.x | exact hI.g0 | exact hI.g1 | exact hI.g2 | exact hI.g3 | exact hI.f0 | exact hI.f1 | exact hI.f2 | exact hI.f3 | exact hI.f4 | exact hI.f5 | exact hI.f6 | exact hI.f7 | exact hI.f8 | exact hI.f9 | exact hI.f10 | exact hI.f11 | exact hI.f12 | exact hI.f14 | exact fun _ => rfl | skip))
      · intro L us wx K a ha hp hd hun hI hK
        have u11 := hI.f11 (hp 11 (by kernel_rfl))
        have u14 := hI.f14 (hp 14 (by kernel_rfl))
        have BG := hI.g2 (hp 13 (by kernel_rfl)) hun
        have bg := BG.cell
        have fg := BG.frozen
        replace hd := Lib.hid hd
        simp only [putAll, Act.put, List.setIfInBounds_toArray, List.set_cons_succ, List.set_cons_zero, Nat.reduceAdd, u11, u14] at ha
        subst ha
        simp only [Act.put] at hK
        go_simp
        refine hK undef _ ?_
        refine ⟨hI.x.setCell hGr _, hI.g0.far HTG.out _, (fun _ h => nomatch (show true = false from h)), (fun _ h => nomatch (show true = false from h)), (fun _ => BG.set_ 4 _), hI.f0, hI.f1, hI.f2, hI.f3, hI.f4, hI.f5, hI.f6, hI.f7, hI.f8, hI.f9, hI.f10, hI.f11, hI.f12, hI.f14⟩
      intro L us wx hall hI
      have EX := hI.x
      have BX := hI.g3 (hall 15 (by simp))
      simp only [putAll, Act.put, List.setIfInBounds_toArray, List.set_cons_succ, List.set_cons_zero, Nat.reduceAdd]
      clear hall hI CT CP CC E8 B8 hW8 BT8
      have own13 := own_ext own EX
      have BO13 := BO.ext EX
      have bo := BO13.cell
      have fo := BO13.frozen
      have bx := BX.cell
      have hxl : j + 1 ≤ maxLen := by unfold maxLen; omega
      have hxb : (j + 1) * 40 ≤ 140737488355328 := by omega
      have hOb : O + 1 ≤ wx.heap.size := BO13.lt
      have HO6 := Lib.hid (show W6.heap.size ≤ O from Nat.le_of_eq HO.out)
      go_wp2_with (at_builtin; refine wpList_append_one #[.int .i64 i, .int .i64 (nx + sx), .int .i64 (ny + sy), .int .i64 (nz + sz), .int .u8 nt, .int .u8 cl] rfl (.tmp 54) (.tmp 56) 23 rfl (O + 1) 51 51 i9 _ 6 40 Tryz.underlying23 hi9 hz9 hz91 hz92 rfl (by decide) _ _ _ _ rfl own13 rfl rfl (by simp [Value.oneCell']) hxl hxb hOb ?_; intro g8 cap8 w8 own8 hg8; have ownA := own_ext own13 ((Ext.refl wx).alloc (.cells #[.int .i64 i, .int .i64 (nx + sx), .int .i64 (ny + sy), .int .i64 (nz + sz), .int .u8 nt, .int .u8 cl] 51)); have BO8 := blkGrown (BO13.alloc (.cells #[.int .i64 i, .int .i64 (nx + sx), .int .i64 (ny + sy), .int .i64 (nz + sz), .int .u8 nt, .int .u8 cl] 51)) ownA hg8 (by decide); have bo8 := BO8.cell; have fo8 := BO8.frozen)
      go_roundw
      case rel =>
        refine ⟨j + 1, .slice (some ⟨g8, 0, none⟩) (j + 1) cap8, by omega, by go_num, (((Er.trans EX).alloc _).grown hg8 (fun k hk => by have := (ownA.lt k hk).1; have := HO6.out; omega)).setCell HO6.out _, BO8.set_ 0 _, own_setCell ?_ (Nat.lt_succ_self O) _⟩
        rw [Hmb.out, List.map_append, List.flatten_append]
        exact own8
      case measure => simp only [intOf]; omega
    · obtain rfl : j = bs.length := by omega
      have hOT : T + 1 + 1 < O := by
        have := B3.lt
        have := E46.size
        have := HO.out
        omega
      rw [show (movedL tn ⟨sx, sy, sz⟩ bs).take bs.length = movedL tn ⟨sx, sy, sz⟩ bs by rw [← movedL_len tn ⟨sx, sy, sz⟩ bs, List.take_length]] at own
      obtain ⟨A', cap', rfl⟩ := ownForm own
      obtain ⟨A, cap, he, hS, hAb⟩ := own_slice0 (rows := (movedL tn ⟨sx, sy, sz⟩ bs).map Brk.cs) (fun r hr => by obtain ⟨b, -, rfl⟩ := List.mem_map.1 hr; rfl) (by rw [List.length_map, movedL_len]) own
      cases he
      have hBk : Bricks wr A' cap' (movedL tn ⟨sx, sy, sz⟩ bs) := ⟨by rw [movedL_len]; exact hS, fun b hb => by
        obtain ⟨b0, hb0, rfl⟩ := List.mem_map.1 hb
        have h1 := (HB.out.2 b0 hb0).2
        have h2 := compT_in b0.turn.toNat tn
        exact ⟨⟨by show (0 : Int) ≤ (compT _ _ : Nat); omega, by show ((compT _ _ : Nat) : Int) ≤ 255; omega⟩, h1⟩⟩
      have CK' := CH.out wr ((HE.out.trans E46).trans Er) A' cap' hBk
      have HBk := Lib.hid hBk
      have HAb := Lib.hid hAb
      have HOT := Lib.hid hOT
      have Hown := Lib.hid own
      have bo := BO.cell
      clear own hOT hS hAb hBk CH
      go_wp2_with fail
      refine CK'.mono ?_
      rintro e W9 ⟨rfl, E9⟩
      have bo9 := (BO.ext E9).cell
      have B3r := ((B3.ext E46).ext Er).ext E9
      have c3 := B3r.cell
      have f3 := B3r.frozen
      by_cases h0 : r = 0
      · subst h0
        obtain rfl := Hgood.out rfl
        obtain ⟨V, hV⟩ : ∃ V, W9.setCell ⟨T + 1 + 1, 0, none⟩ (.slice A' bs.length cap') = V := ⟨_, rfl⟩
        have BV : Blk V (T + 1 + 1) 25 #[.slice A' bs.length cap'] := by rw [← hV]; exact B3r.set_ 0 _
        have EV : Ext w V := by rw [← hV]; exact (((HE.out.trans E46).trans Er).trans E9).setCell (by have := HT.out; show w.heap.size ≤ T + 1 + 1; omega) _
        have HBV := Lib.hid (show V.ownsRow w.heap.size 51 6 (.slice A' bs.length cap') bs.length ((movedL tn ⟨sx, sy, sz⟩ bs).map Brk.cs).flatten by
          have ownV := own_setCell (own_ext Hown.out E9) (p := ⟨T + 1 + 1, 0, none⟩) (by show T + 1 + 1 < O + 1; have := HOT.out; omega) (.slice A' bs.length cap')
          rw [hV] at ownV
          exact own_base ownV (by have := HOT.out; have := HT.out; omega))
        have cv := BV.cell
        go_wp2_with fail
        refine bodyPost_ret (v := .tuple #[.agg #[.slice A' bs.length cap'], .int .i64 0]) (by simp [results, Tryz.results8, go_sem, cv]) rfl ?_
        exact ⟨A', cap', by rw [movedL_len], by rw [movedL_len]; exact HBV.out, HBk.out.2, EV⟩
      · obtain rfl := Hbad.out h0
        have hb1 : (r != 0) = true := by simpa using h0
        obtain ⟨V, hV⟩ : ∃ V, W9.setCell ⟨T + 1 + 1, 0, none⟩ (.slice none 0 0) = V := ⟨_, rfl⟩
        have BV : Blk V (T + 1 + 1) 25 #[.slice none 0 0] := by rw [← hV]; exact B3r.set_ 0 _
        have EV : Ext w V := by rw [← hV]; exact (((HE.out.trans E46).trans Er).trans E9).setCell (by have := HT.out; show w.heap.size ≤ T + 1 + 1; omega) _
        have cv := BV.cell
        clear h0
        go_wp2_with fail
        refine bodyPost_ret (v := .tuple #[.agg #[.slice none 0 0], .int .i64 r]) (by simp [results, Tryz.results8, go_sem, cv]) rfl (moveNilO EV)
end Go.Proofs.YtjacbhomhjoolaaGreat
namespace Go.Proofs.YtjacbhomhjoolaaGreat
open Go.RowKit

theorem moved_asked {qs : List (Knd × KAt)} {bs : List Brk} (h : checkErr (qs.map (·.1)) bs = 0) (tn : Nat) (s : Pt) : askedErr (qs.map (·.1)) (movedL tn s bs) = if bricksB qs.length (movedL tn s bs) then 0 else 11 := by
  have hm := check_model h
  have h0 : kindsErr (qs.map (·.1)) = 0 := by
    by_cases h0 : kindsErr (qs.map (·.1)) = 0
    · exact h0
    · rw [modelErr_kinds h0] at hm
      exact hm
  rw [askedErr, if_pos h0, List.length_map]
theorem move_c (qs : List (Knd × KAt)) (QA : Option Addr) (qc : Nat) (bs : List Brk) (B : Option Addr) (cb : Nat) (turn sx sy sz : Int) (w : World) (hk : Kinds w QA qc qs) (hb : Bricks w B cb bs) :
    Calls Tryz.prog 8 #[.slice QA qs.length qc, .agg #[.slice B bs.length cb], .int .i64 turn, .agg #[.int .i64 sx, .int .i64 sy, .int .i64 sz]] w (MoveOwn (moveL (qs.map (·.1)) bs turn ⟨sx, sy, sz⟩) (moveErr (qs.map (·.1)) bs turn ⟨sx, sy, sz⟩) w) := by
  by_cases h : checkErr (qs.map (·.1)) bs = 0 ∧ inB 0 23 turn = true ∧ nearB ⟨sx, sy, sz⟩ (-1000) 1000 = true
  · obtain ⟨h1, h2, h3⟩ := h
    have h4 := inB_iff.1 h2
    obtain ⟨tn, rfl⟩ : ∃ n : Nat, turn = n := ⟨turn.toNat, by omega⟩
    have he := moveErr_brick h1 ⟨h2, h3⟩
    rw [Int.toNat_natCast, List.length_map] at he
    refine moveG_c qs QA qc bs B cb tn sx sy sz w hk hb h1 (by omega) h3 _ _ (by rw [moved_asked h1, he]) (fun h0 => ?_) (fun h0 => ?_)
    · rw [moveL, if_pos h0, Int.toNat_natCast]
    · exact if_neg h0
  · exact moveE_c qs QA qc bs B cb turn sx sy sz w hk hb h
end Go.Proofs.YtjacbhomhjoolaaGreat
