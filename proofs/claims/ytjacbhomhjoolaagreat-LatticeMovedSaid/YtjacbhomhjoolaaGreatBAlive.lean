/- alive of the law: some of the chapter's examples. -/
import Derived.Test.YtjacbhomhjoolaaGreatBPlate
import Derived.Test.YtjacbhomhjoolaaGreatBJointsP
import Derived.Test.YtjacbhomhjoolaaGreatBLinks
import Derived.Test.YtjacbhomhjoolaaGreatBLinkS
import Derived.Test.YtjacbhomhjoolaaGreatBSame
import Derived.Test.YtjacbhomhjoolaaGreatBPairs
import Derived.Test.YtjacbhomhjoolaaGreatBApi
import Derived.Test.YtjacbhomhjoolaaGreatBTurnB
import Derived.Test.YtjacbhomhjoolaaGreatBOvWalk
namespace Go.Proofs.YtjacbhomhjoolaaGreat
open Go.RowKit

theorem link11R : linkR [plateK] (twoB 1 1) = [⟨0, 1, 2, 1, 1⟩] := by
  unfold linkR
  rw [if_pos check_11, links_11]
theorem joint11R : jointR [plateK] (twoB 1 1) = [⟨0, 1, 2, 3, false⟩] := by
  unfold jointR
  rw [if_pos check_11, joints_11]
theorem over10R : ovRes [plateK] (twoB 1 0) = [(0, 1)] := by
  unfold ovRes
  rw [if_pos check_10]
  exact over_10
theorem plate_fine : plateK.Fine := Knd.fine_of plate_valid plate_byte
theorem plate_syms : symsOf plateK (upto 24) = [.int .i64 0, .int .i64 2] := by
  have h : (upto 24).filter (fun x => likeI plateK 0 ⟨0, 0, 0⟩ x.val) = [0, 2] := by decide +kernel
  rw [symsOf_I, h]
  rfl
theorem plate_symn : symN plateK (upto 24) = 2 := by
  rw [symN_I]
  decide +kernel
theorem plate_norm : (normQ plateK 2 ⟨5, 0, 0⟩).1.x = 4 ∧ (normQ plateK 2 ⟨5, 0, 0⟩).1.y = 0 ∧ (normQ plateK 2 ⟨5, 0, 0⟩).1.z = 0 ∧ (normQ plateK 2 ⟨5, 0, 0⟩).2 = 0 := by
  rw [normQ_I]
  decide +kernel
theorem plate_asked : askedErr [plateK] [⟨0, ⟨5, 0, 0⟩, 2, 0⟩] = 0 := by decide +kernel
theorem plate_cells {w : World} {QA : Option Addr} {p : KAt} (hk : Kinds w QA 1 [(plateK, p)]) : ∃ q : Nat × Nat, QA = some ⟨q.1, q.2, none⟩ ∧ w.cell? ⟨q.1, q.2, none⟩ = some (.slice p.A 2 p.ca) ∧ w.cell? ⟨q.1, q.2 + 1, none⟩ = some (.slice p.B 4 p.cb) ∧ w.cell? ⟨q.1, q.2 + 2, none⟩ = some (.int .i64 2) := by
  obtain ⟨b, off, k, p', hQ, hq, -, -, c0, c1, c2⟩ := hk.at_ (i := 0) (by show 0 < 1; omega)
  cases hq
  rw [Nat.zero_mul, Nat.add_zero] at c0 c1 c2
  exact ⟨(b, off), hQ, c0, c1, c2⟩
def PSymPost (w : World) (e : Ending) (w' : World) : Prop := ∃ A cap, e = .returned (.tuple #[.slice A 2 cap, .int .i64 0]) ∧ IntsZ w' A cap [0, 2] ∧ Ext w w'
theorem plate_sym_c (p : KAt) (w : World) (hc : Cells w p.A p.ca plateK.cells) (hn : Knobs w p.B p.cb plateK.knobs) : Calls Tryz.prog 38 #[.agg #[.slice p.A 2 p.ca, .slice p.B 4 p.cb, .int .i64 2]] w (PSymPost w) := by
  have h := Symmetries_ok plateK.cells plateK.knobs 2 p.A p.ca p.B p.cb w hc hn (kindErr_good plate_valid) plate_fine
  refine Calls.mono h ?_
  rintro e w' ⟨A, cap, he, hs, E⟩
  have e1 : symN ⟨plateK.cells, plateK.knobs, 2⟩ (upto 24) = 2 := plate_symn
  have e2 : symsOf ⟨plateK.cells, plateK.knobs, 2⟩ (upto 24) = [.int .i64 0, .int .i64 2] := plate_syms
  rw [e1] at he hs
  rw [e2] at hs
  exact ⟨A, cap, he, hs, E⟩
theorem plate_norm_c (p : KAt) (QA : Option Addr) (w : World) (hk : Kinds w QA 1 [(plateK, p)]) : Calls Tryz.prog 39 #[.slice QA 1 1, .agg #[.int .i64 0, .int .i64 5, .int .i64 0, .int .i64 0, .int .u8 2, .int .u8 0]] w fun e w' => e = .returned (.tuple #[.agg #[.int .i64 0, .int .i64 4, .int .i64 0, .int .i64 0, .int .u8 0, .int .u8 0], .int .i64 0]) ∧ Ext w w' := by
  have h := Normal_ok [(plateK, p)] QA 1 w hk 0 plateK p rfl plate_fine 5 0 0 0 2 (by unfold Brk.byte; simp) plate_asked (by omega) (by unfold Pt.in_; simp)
  rw [plate_norm.1, plate_norm.2.1, plate_norm.2.2.1, plate_norm.2.2.2] at h
  exact h
set_option maxRecDepth 100000 in
set_option maxHeartbeats 16000000 in
theorem alive_c (w : World) : Calls Tryz.prog 6 #[] w fun e w' => e = .returned (.bool true) ∧ Ext w w' := by
  have D := Lib.hid (show ∀ w, Calls Tryz.prog 13 #[.int .i64 4, .int .i64 4] w fun e w' => e = .returned (.tuple #[.int .i64 3, .int .i64 0]) ∧ Ext w w' from fun w => by
    have := Direction_ok 4 4 w (by decide) (by decide)
    rw [show dirT 4 4 = 3 by decide +kernel] at this
    exact this)
  have C := Lib.hid (show ∀ w, Calls Tryz.prog 21 #[.int .i64 4, .int .i64 1] w fun e w' => e = .returned (.tuple #[.int .i64 16, .int .i64 0]) ∧ Ext w w' from fun w => by
    have := Compose_ok 4 1 (by decide) (by decide) w
    rw [show compT 4 1 = 16 by decide +kernel] at this
    exact this)
  go_enter Tryz.func6, Tryz.ntmps6
  go_wp2_with fail
  refine (D.out _).mono ?_
  rintro e w1 ⟨rfl, E⟩
  go_wp2_with fail
  refine (C.out _).mono ?_
  rintro e w2 ⟨rfl, E2⟩
  replace E := E.trans E2
  clear E2
  -- Links
  go_wp2_with fail
  refine (plate_c _).mono ?_
  rintro e wp ⟨QA, p, rfl, hk, Ep⟩
  replace E := E.trans Ep
  skip
  go_wp2_with fail
  refine (two_c 1 1 _).mono ?_
  rintro e wt ⟨g, rfl, hb, Et⟩
  replace hk := hk.ext Et
  replace E := E.trans Et
  skip
  clear Ep Et
  have LK := linksA_c [(plateK, p)] QA 1 (twoB 1 1) (some ⟨g, 0, none⟩) 2 wt hk hb
  simp only [List.map_cons, List.map_nil] at LK
  rw [link11R, check_11] at LK
  clear hk hb
  go_wp2_with fail
  refine LK.mono ?_
  rintro e w5 ⟨LA, lc, rfl, hL, E5⟩
  replace E := E.trans E5
  clear LK E5
  -- Joints
  go_wp2_with fail
  refine (plate_c _).mono ?_
  rintro e wp ⟨QA, p, rfl, hk, Ep⟩
  replace E := E.trans Ep
  replace hL := hL.ext Ep
  go_wp2_with fail
  refine (two_c 1 1 _).mono ?_
  rintro e wt ⟨g, rfl, hb, Et⟩
  replace hk := hk.ext Et
  replace E := E.trans Et
  replace hL := hL.ext Et
  clear Ep Et
  have JO := joints_c [(plateK, p)] QA 1 (twoB 1 1) (some ⟨g, 0, none⟩) 2 wt hk hb (fun h => links_few hk hb.2 h)
  simp only [List.map_cons, List.map_nil] at JO
  rw [joint11R, check_11] at JO
  clear hk hb
  go_wp2_with fail
  refine JO.mono ?_
  rintro e w6 ⟨JA, jc, rfl, hJ, E6⟩
  replace E := E.trans E6
  replace hL := hL.ext E6
  clear JO E6
  -- Symmetries
  go_wp2_with fail
  refine (plate_c _).mono ?_
  rintro e w7 ⟨QA, p, rfl, hk, E7⟩
  replace E := E.trans E7
  replace hL := hL.ext E7
  replace hJ := hJ.ext E7
  obtain ⟨S7, hS7, k0, k1, k2⟩ := plate_cells hk
  subst hS7
  have SY := plate_sym_c p _ (hk.k _ (List.mem_singleton.2 rfl)).c (hk.k _ (List.mem_singleton.2 rfl)).n
  clear E7 hk
  go_wp2_with fail
  refine SY.mono ?_
  rintro e w8 ⟨SA, sc, rfl, hS, E8⟩
  replace E := E.trans E8
  replace hL := hL.ext E8
  replace hJ := hJ.ext E8
  clear SY E8 k0 k1 k2
  -- Normal
  go_wp2_with fail
  refine (plate_c _).mono ?_
  rintro e w9 ⟨QA, p, rfl, hk, E9⟩
  replace E := E.trans E9
  replace hL := hL.ext E9
  replace hJ := hJ.ext E9
  replace hS := hS.ext E9
  have NO := plate_norm_c p QA w9 hk
  clear E9 hk
  go_wp2_with fail
  refine NO.mono ?_
  rintro e wA ⟨rfl, EA⟩
  obtain ⟨wB, hwB, EB, BB, hzB⟩ := mk_ wA #[.int .i64 0, .int .i64 4, .int .i64 0, .int .i64 0, .int .u8 0, .int .u8 0] 51
  have HwB := Lib.hid hwB
  obtain ⟨X, hX⟩ : ∃ X, wA.heap.size = X := ⟨_, rfl⟩
  have HX := Lib.hid hX
  rw [hX] at BB
  replace E := E.trans (EA.trans EB)
  replace hL := hL.ext (EA.trans EB)
  replace hJ := hJ.ext (EA.trans EB)
  replace hS := hS.ext (EA.trans EB)
  clear NO hwB EA EB hzB hX
  go_upto_region 7 with (fail)
  rw [HwB.out, HX.out]
  -- Overlaps
  go_wp2_with fail
  refine (plate_c _).mono ?_
  rintro e wp ⟨QA, p, rfl, hk, Ep⟩
  replace E := E.trans Ep
  replace hL := hL.ext Ep; replace hJ := hJ.ext Ep; replace hS := hS.ext Ep; replace BB := BB.ext Ep
  go_wp2_with fail
  refine (two_c 1 0 _).mono ?_
  rintro e wt ⟨g, rfl, hb, Et⟩
  replace hk := hk.ext Et
  replace E := E.trans Et
  replace hL := hL.ext Et; replace hJ := hJ.ext Et; replace hS := hS.ext Et; replace BB := BB.ext Et
  clear Ep Et
  have OV := overlaps_c [(plateK, p)] QA 1 (twoB 1 0) (some ⟨g, 0, none⟩) 2 wt hk hb
  simp only [List.map_cons, List.map_nil] at OV
  rw [over10R, check_10] at OV
  clear hk hb
  go_wp2_with fail
  refine OV.mono ?_
  rintro e wC ⟨OA, oc, rfl, hO, E6⟩
  replace E := E.trans E6
  replace hL := hL.ext E6
  replace hJ := hJ.ext E6
  replace hS := hS.ext E6
  replace BB := BB.ext E6
  clear OV E6
  go_wp2_with fail
  refine (turns_c 1 (by omega) (-2) 1 3 (by kernel_rfl) _).mono ?_
  rintro e wD ⟨rfl, Ek⟩
  replace E := E.trans Ek
  replace hL := hL.ext Ek
  replace hJ := hJ.ext Ek
  replace hS := hS.ext Ek
  replace hO := hO.ext Ek
  replace BB := BB.ext Ek
  clear Ek
  go_wp2_with fail
  refine (turns_c 16 (by omega) 3 1 2 (by kernel_rfl) _).mono ?_
  rintro e wE ⟨rfl, Ek⟩
  replace E := E.trans Ek
  replace hL := hL.ext Ek
  replace hJ := hJ.ext Ek
  replace hS := hS.ext Ek
  replace hO := hO.ext Ek
  replace BB := BB.ext Ek
  clear Ek
  obtain ⟨wF, hwF, Ek, BF, -⟩ := mk_ wE #[.int .i64 0, .int .i64 1, .int .i64 2, .int .i64 1, .int .u8 1] 95
  have hLF : Links wF (some ⟨wE.heap.size, 0, none⟩) 1 [⟨0, 1, 2, 1, 1⟩] := Blk.slice (rows := [Lnk.cs ⟨0, 1, 2, 1, 1⟩]) BF (lnk_wide [⟨0, 1, 2, 1, 1⟩]) (by show 1 ≤ 100000; omega)
  have SL := sameLinks_c LA (some ⟨wE.heap.size, 0, none⟩) lc 1 _ wF (hL.ext Ek) hLF
  replace E := E.trans Ek
  replace hL := hL.ext Ek
  replace hJ := hJ.ext Ek
  replace hS := hS.ext Ek
  replace hO := hO.ext Ek
  replace BB := BB.ext Ek
  clear Ek
  go_wp2_with fail
  refine SL.mono ?_
  rintro e wG ⟨rfl, Ek⟩
  replace E := E.trans Ek
  replace hL := hL.ext Ek
  replace hJ := hJ.ext Ek
  replace hS := hS.ext Ek
  replace hO := hO.ext Ek
  replace BB := BB.ext Ek
  clear Ek
  clear hwF BF hLF SL
  obtain ⟨wH, hwH, Ek, BH, -⟩ := mk_ wG #[.int .i64 0, .int .i64 1, .int .i64 2, .int .u8 3, .bool false] 44
  have hJH : Jnts wH (some ⟨wG.heap.size, 0, none⟩) 1 [⟨0, 1, 2, 3, false⟩] := Blk.slice (rows := [Jnt.cs ⟨0, 1, 2, 3, false⟩]) BH (jnt_wide [⟨0, 1, 2, 3, false⟩]) (by show 1 ≤ 100000; omega)
  have SJ := sameJoints_c JA (some ⟨wG.heap.size, 0, none⟩) jc 1 _ wH (hJ.ext Ek) hJH
  replace E := E.trans Ek
  replace hL := hL.ext Ek
  replace hJ := hJ.ext Ek
  replace hS := hS.ext Ek
  replace hO := hO.ext Ek
  replace BB := BB.ext Ek
  clear Ek
  go_wp2_with fail
  refine SJ.mono ?_
  rintro e wI ⟨rfl, Ek⟩
  replace E := E.trans Ek
  replace hL := hL.ext Ek
  replace hJ := hJ.ext Ek
  replace hS := hS.ext Ek
  replace hO := hO.ext Ek
  replace BB := BB.ext Ek
  clear Ek
  clear hwH BH hJH SJ
  obtain ⟨wJ, hwJ, Ek, BJ, -⟩ := mk_ wI #[.int .i64 0, .int .i64 2] 3
  have hSJ : IntsZ wJ (some ⟨wI.heap.size, 0, none⟩) 2 [0, 2] := Blk.slice (rows := [[.int .i64 0], [.int .i64 2]]) BJ (by simp) (by show 2 ≤ 100000; omega)
  have SI := rSameInts_c SA (some ⟨wI.heap.size, 0, none⟩) sc 2 [0, 2] [0, 2] wJ (hS.ext Ek) hSJ
  rw [eqI_iff.2 rfl] at SI
  replace E := E.trans Ek
  replace hL := hL.ext Ek
  replace hJ := hJ.ext Ek
  replace hS := hS.ext Ek
  replace hO := hO.ext Ek
  replace BB := BB.ext Ek
  clear Ek
  have bb := BB.cell
  go_wp2_with fail
  refine SI.mono ?_
  rintro e wK ⟨rfl, Ek⟩
  clear bb
  replace E := E.trans Ek
  replace hL := hL.ext Ek
  replace hJ := hJ.ext Ek
  replace hS := hS.ext Ek
  replace hO := hO.ext Ek
  replace BB := BB.ext Ek
  clear Ek
  clear hwJ BJ hSJ SI
  have bb := BB.cell
  obtain ⟨wL, hwL, Ek, BL, -⟩ := mk_ wK #[.int .i64 0, .int .i64 1] 97
  have hOL : Prs wL (some ⟨wK.heap.size, 0, none⟩) 1 [(0, 1)] := Blk.slice (rows := [[.int .i64 0, .int .i64 1]]) BL (by simp) (by show 1 ≤ 100000; omega)
  have SP := samePairs_c OA (some ⟨wK.heap.size, 0, none⟩) oc 1 [(0, 1)] wL (hO.ext Ek) hOL
  replace E := E.trans Ek
  replace hL := hL.ext Ek
  replace hJ := hJ.ext Ek
  replace hS := hS.ext Ek
  replace hO := hO.ext Ek
  replace BB := BB.ext Ek
  clear Ek
  go_wp2_with fail
  refine SP.mono ?_
  rintro e wM ⟨rfl, Ek⟩
  go_wp2_with fail
  go_ret
  exact ⟨rfl, E.trans Ek⟩
end Go.Proofs.YtjacbhomhjoolaaGreat
