/- The given statement LatticeExamplesSaid: the law returns true. No conditions. -/
import Derived.Test.YtjacbhomhjoolaaGreatBAlive
import Derived.Test.YtjacbhomhjoolaaGreatBApi
import Derived.Test.YtjacbhomhjoolaaGreatBJointsP
import Derived.Test.YtjacbhomhjoolaaGreatBMoveR
import Derived.Test.YtjacbhomhjoolaaGreatBMove
import Derived.Test.YtjacbhomhjoolaaGreatBRKind
import Derived.Test.YtjacbhomhjoolaaGreatBOpen
namespace Go.Proofs.YtjacbhomhjoolaaGreat
open Go.RowKit

theorem exm_cells : sortP (placeP plateK.cells 1 ⟨5, 0, 0⟩) = [⟨5, 0, 0⟩, ⟨5, 1, 0⟩] := by
  rw [sortP_I]
  decide +kernel
theorem exm_asked : askedErr [plateK] [⟨0, ⟨5, 0, 0⟩, 1, 0⟩] = 0 := by decide +kernel
theorem exm_asked1 : askedErr [plateK] [⟨1, ⟨0, 0, 0⟩, 0, 0⟩] = 11 := by decide +kernel
theorem exm_model01 : modelErr [plateK] (twoB 0 1) = 0 := by decide +kernel
theorem exm_check01 : checkErr [plateK] (twoB 0 1) = 0 := checkErr_nil exm_model01 (by rw [show (twoB 0 1).length = 2 from rfl, overL_I]; decide +kernel)
theorem exm_joints : jointR [plateK] (twoB 0 1) = [⟨0, 1, 4, 0, false⟩] := by
  unfold jointR
  rw [if_pos exm_check01]
  decide +kernel
theorem exm_model30 : modelErr [plateK] (twoB 3 0) = 0 := by decide +kernel
theorem exm_check30 : checkErr [plateK] (twoB 3 0) = 0 := checkErr_nil exm_model30 (by rw [show (twoB 3 0).length = 2 from rfl, overL_I]; decide +kernel)
theorem exm_groups : groupR [plateK] (twoB 3 0) = [0, 1] := by
  unfold groupR
  rw [if_pos exm_check30]
  decide +kernel
theorem exm_model32 : modelErr [plateK] (twoB 3 2) = 0 := by decide +kernel
theorem exm_check32 : checkErr [plateK] (twoB 3 2) = 0 := checkErr_nil exm_model32 (by rw [show (twoB 3 2).length = 2 from rfl, overL_I]; decide +kernel)
def allCI (ks : List Knd) (bs : List Brk) (j : Nat) : List Pt := (List.range j).flatMap fun i => bcellsI ks (brkAt bs i)
theorem exm_bounds : boundsV [plateK] (twoB 3 2) = (⟨0, 0, 0⟩, ⟨4, 0, 2⟩) := by
  rw [bounds_ok exm_check32]
  have : allC [plateK] (twoB 3 2) (twoB 3 2).length = allCI [plateK] (twoB 3 2) 2 := by
    unfold allC allCI
    simp only [bcells_I]
    rfl
  rw [this]
  decide +kernel
theorem exm_check10 : checkErr [plateK] (twoB 1 0) = 12 := by
  unfold checkErr
  rw [if_pos check_10, show (twoB 1 0).length = 2 from rfl, over_10]
  rfl
theorem exm_move24 : moveErr [plateK] (twoB 1 1) 24 ⟨0, 0, 0⟩ = 2 := moveErr_arg check_11 (by decide)
theorem exm_moveZ : moveErr [plateK] (twoB 1 1) 0 ⟨0, 0, 1000⟩ = 11 := by
  rw [moveErr_brick check_11 (by decide)]
  decide +kernel
theorem exm_kind0 : kindErr ⟨[], [], 0⟩ = 10 := by decide +kernel
theorem infoKnd : (Tryz.prog.info? 72).map (fun i => (i.zero, i.size, i.bytes)) = some (some (.agg #[.slice none 0 0, .slice none 0 0, .int .i64 0]), 3, 56) := by kernel_rfl
def zKnd : List Value := [.slice none 0 0, .slice none 0 0, .int .i64 0]
theorem make_kinds (n : Nat) (hn : n ≤ 1000) (w : World) : (Instr.makeSlice 22 (.int .i64 (n : Int)) (.int .i64 (n : Int))).run Tryz.prog w = .ok (.slice (some ⟨w.heap.size, 0, none⟩) n n) (w.alloc (.cells (rowsA (List.replicate n zKnd)) 72)) := by
  obtain ⟨i0, hi, hz0, hz1, hz2⟩ := info_parts infoKnd
  have h := run_make (P := Tryz.prog) w 22 72 i0 (.agg #[.slice none 0 0, .slice none 0 0, .int .i64 0]) Tryz.underlying22 hi hz0 .i64 .i64 (n : Int) (n : Int) (by omega) (Int.le_refl _) (by rw [hz2]; omega) (by omega)
  rw [h]
  have e : madeCells (Value.cells (.agg #[.slice none 0 0, .slice none 0 0, .int .i64 0])) ((n : Int).toNat * i0.size) = rowsA (List.replicate n zKnd) := by
    rw [hz1, Int.toNat_natCast, rowsA_made (sz := 3) rfl (by omega)]
    rfl
  rw [e]
  simp
def many : List (Knd × KAt) := List.replicate 17 (⟨[], [], 0⟩, ⟨none, 0, none, 0⟩)
theorem many_err : kindsErr (many.map (·.1)) = 4 := by decide +kernel
theorem many_kinds {w : World} {g : Nat} (h : Blk w g 72 (rowsA (List.replicate 17 zKnd))) : Kinds w (some ⟨g, 0, none⟩) 17 many :=
  ⟨RowX.slice (rows := List.replicate 17 zKnd) (t := 72) (rowX_of_blk h) (by simp [zKnd]) rfl (Nat.le_refl _) (by unfold maxLen; omega), fun q hq => by
    obtain rfl := List.eq_of_mem_replicate hq
    exact ⟨⟨rfl, Nat.le_refl _, Nat.zero_le _, by simp, fun h => by cases h⟩, ⟨⟨rfl, Nat.le_refl _, Nat.zero_le _, by simp, fun h => by cases h⟩, by simp⟩⟩⟩
set_option maxRecDepth 100000 in
set_option maxHeartbeats 16000000 in
theorem exam_walk (w : World) : Calls Tryz.prog 4 #[] w fun e w' => e = .returned (.bool true) ∧ Ext w w' := by
  have D := Lib.hid (show ∀ w, Calls Tryz.prog 13 #[.int .i64 0, .int .i64 1] w fun e w' => e = .returned (.tuple #[.int .i64 2, .int .i64 0]) ∧ Ext w w' from fun w => by
    have := Direction_ok 0 1 w (by decide) (by decide)
    rw [show dirT 0 1 = 2 by decide +kernel] at this
    exact this)
  have C := Lib.hid (show ∀ w, Calls Tryz.prog 21 #[.int .i64 1, .int .i64 4] w fun e w' => e = .returned (.tuple #[.int .i64 5, .int .i64 0]) ∧ Ext w w' from fun w => by
    have := Compose_ok 1 4 (by decide) (by decide) w
    rw [show compT 1 4 = 5 by decide +kernel] at this
    exact this)
  have I := Lib.hid (show ∀ w, Calls Tryz.prog 22 #[.int .i64 1] w fun e w' => e = .returned (.tuple #[.int .i64 3, .int .i64 0]) ∧ Ext w w' from fun w => by
    have := Invert_ok 1 (by decide) w
    rw [show invT 1 = 3 by decide +kernel] at this
    exact this)
  go_enter Tryz.func4, Tryz.ntmps4
  go_wp2_with fail
  refine (D.out _).mono ?_
  rintro e w1 ⟨rfl, E⟩
  go_wp2_with fail
  refine (C.out _).mono ?_
  rintro e w2 ⟨rfl, E2⟩
  replace E := E.trans E2
  clear E2
  go_wp2_with fail
  refine (I.out _).mono ?_
  rintro e w3 ⟨rfl, E3⟩
  replace E := E.trans E3
  clear E3 D C I
  -- Cells
  go_wp2_with fail
  refine (plate_c _).mono ?_
  rintro e w4 ⟨QA, p, rfl, hk, E4⟩
  replace E := E.trans E4
  have CE := Cells_ok [(plateK, p)] QA 1 w4 hk 0 plateK p rfl plate_fine 5 0 0 0 1 (by unfold Brk.byte; simp) exm_asked (by omega) (by unfold Pt.ok CB; simp)
  rw [exm_cells] at CE
  clear hk E4
  go_wp2_with fail
  refine CE.mono ?_
  rintro e w5 ⟨g5, c5, -, rfl, hc5, hm5, R5, E5⟩
  replace E := E.trans E5
  have hC : Cells w5 (some ⟨g5, 0, none⟩) c5 [⟨5, 0, 0⟩, ⟨5, 1, 0⟩] := R5.slice (by simp [Pt.cs]) rfl hc5 hm5
  rw [show plateK.cells.length = 2 from rfl]
  clear CE E5 R5 hc5 hm5
  -- Joints
  go_wp2_with fail
  refine (plate_c _).mono ?_
  rintro e wp ⟨QA, p, rfl, hk, Ep⟩
  replace E := E.trans Ep
  replace hC := hC.ext Ep
  go_wp2_with fail
  refine (two_c 0 1 _).mono ?_
  rintro e wt ⟨g, rfl, hb, Et⟩
  replace hk := hk.ext Et
  replace E := E.trans Et
  replace hC := hC.ext Et
  clear Ep Et
  have JO := joints_c [(plateK, p)] QA 1 (twoB 0 1) (some ⟨g, 0, none⟩) 2 wt hk hb (fun h => links_few hk hb.2 h)
  simp only [List.map_cons, List.map_nil] at JO
  rw [exm_joints, exm_check01] at JO
  clear hk hb
  go_wp2_with fail
  refine JO.mono ?_
  rintro e w6 ⟨JA, jc, rfl, hJ, Ek⟩
  clear JO
  replace E := E.trans Ek
  replace hC := hC.ext Ek
  clear Ek
  go_wp2_with fail
  refine (alive_c _).mono ?_
  rintro e w7 ⟨rfl, Ek⟩
  replace E := E.trans Ek
  replace hC := hC.ext Ek; replace hJ := hJ.ext Ek
  clear Ek
  go_wp2_with fail
  refine (turns_c 4 (by omega) 1 (-3) 2 (by kernel_rfl) _).mono ?_
  rintro e w8 ⟨rfl, Ek⟩
  replace E := E.trans Ek
  replace hC := hC.ext Ek; replace hJ := hJ.ext Ek
  clear Ek
  go_wp2_with fail
  refine (turns_c 8 (by omega) 1 (-2) (-3) (by kernel_rfl) _).mono ?_
  rintro e w9 ⟨rfl, Ek⟩
  replace E := E.trans Ek
  replace hC := hC.ext Ek; replace hJ := hJ.ext Ek
  clear Ek
  go_wp2_with fail
  refine (turns_c 20 (by omega) (-3) (-1) 2 (by kernel_rfl) _).mono ?_
  rintro e w10 ⟨rfl, Ek⟩
  replace E := E.trans Ek
  replace hC := hC.ext Ek; replace hJ := hJ.ext Ek
  clear Ek
  obtain ⟨wF, hwF, Ek, BF, -⟩ := mk_ w10 #[.int .i64 5, .int .i64 0, .int .i64 0, .int .i64 5, .int .i64 1, .int .i64 0] 27
  have hCF : Cells wF (some ⟨w10.heap.size, 0, none⟩) 2 [⟨5, 0, 0⟩, ⟨5, 1, 0⟩] := cells_of_blk (l := [⟨5, 0, 0⟩, ⟨5, 1, 0⟩]) BF rfl (by omega)
  have SC := rSameCells_c (some ⟨g5, 0, none⟩) (some ⟨w10.heap.size, 0, none⟩) c5 2 _ _ wF (hC.ext Ek) hCF
  rw [eqC_iff.2 rfl] at SC
  replace E := E.trans Ek
  replace hJ := hJ.ext Ek
  clear Ek
  go_wp2_with fail
  refine SC.mono ?_
  rintro e w11 ⟨rfl, Ek⟩
  replace E := E.trans Ek
  replace hJ := hJ.ext Ek
  clear Ek
  clear hwF BF hCF SC hC
  obtain ⟨wH, hwH, Ek, BH, -⟩ := mk_ w11 #[.int .i64 0, .int .i64 1, .int .i64 4, .int .u8 0, .bool false] 44
  have hJH : Jnts wH (some ⟨w11.heap.size, 0, none⟩) 1 [⟨0, 1, 4, 0, false⟩] := Blk.slice (rows := [Jnt.cs ⟨0, 1, 4, 0, false⟩]) BH (jnt_wide [⟨0, 1, 4, 0, false⟩]) (by show 1 ≤ 100000; omega)
  have SJ := sameJoints_c JA (some ⟨w11.heap.size, 0, none⟩) jc 1 _ wH (hJ.ext Ek) hJH
  replace E := E.trans Ek
  skip
  clear Ek
  go_wp2_with fail
  refine SJ.mono ?_
  rintro e w12 ⟨rfl, Ek⟩
  replace E := E.trans Ek
  skip
  clear Ek
  clear hwH BH hJH SJ hJ
  -- Groups
  go_wp2_with fail
  refine (plate_c _).mono ?_
  rintro e wp ⟨QA, p, rfl, hk, Ep⟩
  replace E := E.trans Ep
  skip
  go_wp2_with fail
  refine (two_c 3 0 _).mono ?_
  rintro e wt ⟨g, rfl, hb, Et⟩
  replace hk := hk.ext Et
  replace E := E.trans Et
  skip
  clear Ep Et
  have GO := groups_c [(plateK, p)] QA 1 (twoB 3 0) (some ⟨g, 0, none⟩) 2 wt hk hb (fun h => links_few hk hb.2 h)
  simp only [List.map_cons, List.map_nil] at GO
  rw [exm_groups, exm_check30] at GO
  clear hk hb
  go_wp2_with fail
  refine GO.mono ?_
  rintro e w13 ⟨SA, sc, rfl, hS, Ek⟩
  clear GO
  replace E := E.trans Ek
  skip
  clear Ek
  -- Bounds
  go_wp2_with fail
  refine (plate_c _).mono ?_
  rintro e wp ⟨QA, p, rfl, hk, Ep⟩
  replace E := E.trans Ep
  replace hS := hS.ext Ep
  go_wp2_with fail
  refine (two_c 3 2 _).mono ?_
  rintro e wt ⟨g, rfl, hb, Et⟩
  replace hk := hk.ext Et
  replace E := E.trans Et
  replace hS := hS.ext Et
  clear Ep Et
  have BO := bounds_c [(plateK, p)] QA 1 (twoB 3 2) (some ⟨g, 0, none⟩) 2 wt hk hb
  simp only [List.map_cons, List.map_nil] at BO
  rw [exm_bounds, exm_check32] at BO
  unfold SpanRes spC at BO
  clear hk hb
  go_wp2_with fail
  refine BO.mono ?_
  rintro e w14 ⟨rfl, Ek⟩
  clear BO
  replace E := E.trans Ek
  replace hS := hS.ext Ek
  clear Ek
  obtain ⟨wB, hwB, Ek, BB, -⟩ := mk_ w14 #[.int .i64 0, .int .i64 0, .int .i64 0, .int .i64 4, .int .i64 0, .int .i64 2] 66
  have HwB := Lib.hid hwB
  obtain ⟨X, hX⟩ : ∃ X, w14.heap.size = X := ⟨_, rfl⟩
  have HX := Lib.hid hX
  rw [hX] at BB
  clear hwB hX
  replace E := E.trans Ek
  replace hS := hS.ext Ek
  clear Ek
  go_upto_region 10 with (fail)
  rw [HwB.out, HX.out]
  clear HwB HX
  -- Move
  go_wp2_with fail
  refine (plate_c _).mono ?_
  rintro e wp ⟨QA, p, rfl, hk, Ep⟩
  replace E := E.trans Ep
  replace hS := hS.ext Ep; replace BB := BB.ext Ep
  go_wp2_with fail
  refine (two_c 1 1 _).mono ?_
  rintro e wt ⟨g, rfl, hb, Et⟩
  replace hk := hk.ext Et
  replace E := E.trans Et
  replace hS := hS.ext Et; replace BB := BB.ext Et
  clear Ep Et
  have MO := move_c [(plateK, p)] QA 1 (twoB 1 1) (some ⟨g, 0, none⟩) 2 24 0 0 0 wt hk hb
  simp only [List.map_cons, List.map_nil] at MO
  rw [moveL_bad exm_move24 (by decide), exm_move24] at MO
  clear hk hb
  go_wp2_with fail
  refine MO.mono ?_
  rintro e w15 ⟨MA, mc, rfl, -, -, Ek⟩
  clear MO
  replace E := E.trans Ek
  replace hS := hS.ext Ek; replace BB := BB.ext Ek
  clear Ek
  go_wp2_with fail
  refine (plate_c _).mono ?_
  rintro e wp ⟨QA, p, rfl, hk, Ep⟩
  replace E := E.trans Ep
  replace hS := hS.ext Ep; replace BB := BB.ext Ep
  go_wp2_with fail
  refine (two_c 1 1 _).mono ?_
  rintro e wt ⟨g, rfl, hb, Et⟩
  replace hk := hk.ext Et
  replace E := E.trans Et
  replace hS := hS.ext Et; replace BB := BB.ext Et
  clear Ep Et
  have MO := move_c [(plateK, p)] QA 1 (twoB 1 1) (some ⟨g, 0, none⟩) 2 0 0 0 1000 wt hk hb
  simp only [List.map_cons, List.map_nil] at MO
  rw [moveL_bad exm_moveZ (by decide), exm_moveZ] at MO
  clear hk hb
  go_wp2_with fail
  refine MO.mono ?_
  rintro e w16 ⟨MB, md, rfl, -, -, Ek⟩
  clear MO
  replace E := E.trans Ek
  replace hS := hS.ext Ek; replace BB := BB.ext Ek
  clear Ek
  -- Cells of a kind that is not there
  go_wp2_with fail
  refine (plate_c _).mono ?_
  rintro e w17 ⟨QA, p, rfl, hk, Ek⟩
  have CE := Cells_bad [(plateK, p)] QA 1 w17 hk 1 0 0 0 0 0 11 (by unfold Brk.byte; simp) exm_asked1 (by decide)
  clear hk
  replace E := E.trans Ek
  replace hS := hS.ext Ek; replace BB := BB.ext Ek
  clear Ek
  go_wp2_with fail
  refine CE.mono ?_
  rintro e w18 ⟨rfl, Ek⟩
  clear CE
  replace E := E.trans Ek
  replace hS := hS.ext Ek; replace BB := BB.ext Ek
  clear Ek
  obtain ⟨wJ, hwJ, Ek, BJ, -⟩ := mk_ w18 #[.int .i64 0, .int .i64 1] 3
  have hSJ : IntsZ wJ (some ⟨w18.heap.size, 0, none⟩) 2 [0, 1] := Blk.slice (rows := [[.int .i64 0], [.int .i64 1]]) BJ (by simp) (by show 2 ≤ 100000; omega)
  have SI := rSameInts_c SA (some ⟨w18.heap.size, 0, none⟩) sc 2 [0, 1] [0, 1] wJ (hS.ext Ek) hSJ
  rw [eqI_iff.2 rfl] at SI
  replace E := E.trans Ek
  replace BB := BB.ext Ek
  clear Ek
  go_wp2_with fail
  refine SI.mono ?_
  rintro e w19 ⟨rfl, Ek⟩
  replace E := E.trans Ek
  replace BB := BB.ext Ek
  clear Ek
  clear hwJ BJ hSJ SI hS
  have bb := BB.cell
  -- Check
  go_wp2_with fail
  clear bb BB
  refine (plate_c _).mono ?_
  rintro e wp ⟨QA, p, rfl, hk, Ep⟩
  replace E := E.trans Ep
  clear Ep
  go_wp2_with fail
  refine (two_c 1 0 _).mono ?_
  rintro e wt ⟨g, rfl, hb, Et⟩
  replace hk := hk.ext Et
  replace E := E.trans Et
  clear Et
  have CK := checkM_c [(plateK, p)] QA 1 (twoB 1 0) (some ⟨g, 0, none⟩) 2 wt hk hb
  simp only [List.map_cons, List.map_nil] at CK
  rw [exm_check10] at CK
  clear hk hb
  go_wp2_with fail
  refine CK.mono ?_
  rintro e w20 ⟨rfl, Ek⟩
  replace E := E.trans Ek
  skip
  clear Ek
  clear CK
  have KZ := checkKind_c [] [] 0 none 0 none 0 w20 ⟨rfl, Nat.le_refl _, Nat.zero_le _, by simp, fun h => by cases h⟩ ⟨⟨rfl, Nat.le_refl _, Nat.zero_le _, by simp, fun h => by cases h⟩, by simp⟩
  rw [exm_kind0] at KZ
  go_wp2_with fail
  refine KZ.mono ?_
  rintro e w21 ⟨rfl, Ek⟩
  replace E := E.trans Ek
  skip
  clear Ek
  clear KZ
  have MK := (fun w => make_kinds 17 (by omega) w : ∀ w : World, (Instr.makeSlice 22 (.int .i64 17) (.int .i64 17)).run Tryz.prog w = .ok (.slice (some ⟨w.heap.size, 0, none⟩) 17 17) (w.alloc (.cells (rowsA (List.replicate 17 zKnd)) 72)))
  obtain ⟨wM, hwM, Ek, BM, -⟩ := mk_ w21 (rowsA (List.replicate 17 zKnd)) 72
  have KK := checkKinds_c many (some ⟨w21.heap.size, 0, none⟩) 17 wM (many_kinds BM)
  rw [many_err, show many.length = 17 from rfl] at KK
  have at17 : (Instr.makeSlice 22 (.int .i64 17) (.int .i64 17)).run Tryz.prog w21 = .ok (.slice (some ⟨w21.heap.size, 0, none⟩) 17 17) (w21.alloc (.cells (rowsA (List.replicate 17 zKnd)) 72)) := MK w21
  have MK1 := at17
  clear at17
  rw [hwM] at MK1
  clear MK hwM
  replace E := E.trans Ek
  skip
  clear Ek
  clear BM
  go_wp2_with fail
  refine KK.mono ?_
  rintro e w22 ⟨rfl, Ek⟩
  go_wp2_with fail
  go_ret
  exact ⟨rfl, E.trans Ek⟩
end Go.Proofs.YtjacbhomhjoolaaGreat
namespace Go.Proofs.YtjacbhomhjoolaaGreat
open Go.RowKit Go.ChangeShapes Go.WideShapes Go.ChangeAt Go.Deep Go.Joins

set_option maxRecDepth 100000 in
theorem latticeExamples_lifted (os : Os) (started : os.Started) (H : Type) (enc : TypeId × Value → H) :
    ReturnsInHanded {} Tryz.checked os 4 .any (Rows.latticeExamplesSpec.pre6 enc Tryz.prog Tryz.f4 Rows.latticeExamplesRow.domain false) (Rows.latticeExamplesSpec.post enc Tryz.prog Tryz.f4 false true false false) := by
  refine returnsInHanded_of_change (C := Tryz.checked) Tryz.own started (by kernel_rfl) Tryz.func4
    (ChangeSpec.witness6 (enc := enc) (C := Tryz.checked) false ⟨#[], #[], []⟩ 8 (by kernel_rfl) (by kernel_rfl) (by kernel_rfl) (by kernel_rfl)) ?_
  intro W base args ds gs before _ hW hcnd _
  have hW' := hW
  obtain ⟨p, q, hA0, hV, rfl, hfz, hnd⟩ := hW
  have hA : DataW.TrodAll enc Tryz.prog W 0 (fun _ => true) true Tryz.f4.params.toList args.toList ds p := hA0
  rw [Tryz.params4] at hA
  obtain ⟨rfl, rfl, rfl⟩ := trodAll_none hA
  obtain ⟨rfl, rfl⟩ := trodVars_none hV
  clear hA0
  simp only [List.append_nil] at hW'
  refine (exam_walk W).mono fun e W' ⟨he, hE⟩ => ?_
  subst he
  refine ⟨_, rfl, ?_⟩
  refine ⟨_, _, _, [], [], [], hW', ?_, ?_, rfl, hE.frame _, fun h => by cases h⟩
  · exact trodAll_mk1 (shut_bool Tryz.underlying4 true)
  · exact trodAll_mk0

theorem latticeExamples_holds : Rows.LatticeExamplesSaid :=
  OpenClaim.holds_of_wide 4 Tryz.f4 rfl rfl rfl rfl rfl rfl rfl ⟨rfl, rfl, rfl, rfl, rfl⟩ rfl rfl rfl rfl rfl (by kernel_rfl) Tryz.func4 (by kernel_rfl)
    (of_decide_eq_true (by kernel_rfl)) (by unfold Func.isWrapper; rw [if_neg (of_decide_eq_false (by kernel_rfl))]; exact ⟨rfl, rfl⟩)
    (fun os started H enc _ => latticeExamples_lifted os started H enc)
#print axioms latticeExamples_holds
end Go.Proofs.YtjacbhomhjoolaaGreat
