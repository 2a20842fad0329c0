/- ValidKind and CheckKind of the reference: whether a kind is valid. No conditions. ValidKind, CheckKind and CheckKinds of the reference; CheckKinds of the program. No conditions. Bricks: which are valid for how many kinds; the errors of kinds and bricks, in the program (check) and the reference (asked). No conditions. -/
import Derived.Test.YtenigkngmdofiaaLm2

namespace Go.Proofs.Ytenigkngmdofiaa
open Go.RowKit

theorem rnear_is {x y z lo hi : Int} {r : Bool} (h : nearB ⟨x, y, z⟩ lo hi = r) (w : World) :
    Calls Try.prog 44 #[.agg #[.int .i64 x, .int .i64 y, .int .i64 z], .int .i64 lo, .int .i64 hi] w fun e w' => e = .returned (.bool r) ∧ Ext w w' := by
  subst h
  exact rnear_c _ _ _ _ _ _
theorem within_is {n lo hi : Int} {r : Bool} (h : inB lo hi n = r) (w : World) :
    Calls Try.prog 49 #[.int .i64 n, .int .i64 lo, .int .i64 hi] w fun e w' => e = .returned (.bool r) ∧ w = w' := by
  subst h
  exact within_c _ _ _ _
theorem rBefore_is {a b c d e f : Int} {r : Bool} (h : ltP ⟨a, b, c⟩ ⟨d, e, f⟩ = r) (w : World) :
    Calls Try.prog 86 #[.agg #[.int .i64 a, .int .i64 b, .int .i64 c], .agg #[.int .i64 d, .int .i64 e, .int .i64 f]] w fun v w' => v = .returned (.bool r) ∧ Ext w w' := by
  subst h
  exact rBefore_c _ _ _ _ _ _ _
theorem cells_ok {cells : List Pt} (h : cellsB cells = true) {p : Pt} (hp : p ∈ cells) : p.ok := by
  obtain ⟨i, hi⟩ := List.getElem?_of_mem hp
  have hil : i < cells.length := (List.getElem?_eq_some_iff.1 hi).1
  have := allR_at h hil
  rw [cellOk, ptAt_eq hi, Bool.and_eq_true] at this
  exact pt_near this.1
set_option maxRecDepth 100000 in
set_option maxHeartbeats 16000000 in
theorem knobbed_c (cells : List Pt) (knobs : List Knb) (wt : Int) (A : Option Addr) (ca : Nat) (B : Option Addr) (cb : Nat) (w : World) (hc : Cells w A ca cells) (hn : Knobs w B cb knobs) (hcb : cellsB cells = true) :
    Calls Try.prog 87 #[.agg #[.slice A cells.length ca, .slice B knobs.length cb, .int .i64 wt]] w fun e w' => e = .returned (.bool (decide (knobs.length ≤ 48) && knobsB cells knobs)) ∧ Ext w w' := by
  have hl1 : cells.length ≤ 9223372036854775807 := by have := hc.len; unfold maxLen at this; omega
  have hl2 : knobs.length ≤ 9223372036854775807 := by have := hn.len; unfold maxLen at this; omega
  have Hcb := Lib.hid hcb
  clear hcb
  obtain ⟨W1, hW1, E1, B1, hz1⟩ := mk_ w #[.slice A cells.length ca, .slice B knobs.length cb, .int .i64 wt] 39
  have b1 := B1.cell
  by_cases a3 : (48 : Int) < knobs.length
  · have Hb := Lib.hid (show (decide (knobs.length ≤ 48) && knobsB cells knobs) = false by rw [decide_eq_false (by omega)]; rfl)
    go_enter Try.func87, Try.ntmps87
    go_wp2_with fail
    go_ret
    exact ⟨by rw [Hb.out]; rfl, E1⟩
  have H48 := Lib.hid (show decide (knobs.length ≤ 48) = true by rw [decide_eq_true_eq]; omega)
  go_enter Try.func87, Try.ntmps87
  go_wp2_with fail
  clear hW1 hz1 b1
  go_loopw [3] (fun i wr => ∃ j : Nat, j ≤ knobs.length ∧ i = .int .i64 j ∧ Ext w wr ∧ Blk wr w.heap.size 39 #[.slice A cells.length ca, .slice B knobs.length cb, .int .i64 wt] ∧ Hid (∀ i, i < j → knobOk cells knobs i = true)) (fun i _ => knobs.length - (intOf i).toNat)
  case atStart => exact ⟨0, by omega, rfl, E1, B1, Lib.hid (fun i hi => by omega)⟩
  case round =>
    clear E1 B1
    obtain ⟨j, hj, rfl, E, BK, Hj⟩ := hrel
    have b1 := BK.cell
    by_cases hlt : j < knobs.length
    · obtain ⟨g, off, ⟨⟨x, y, z⟩, dir, sort⟩, rfl, hq, ⟨⟨hd0, hd1⟩, hs0, hs1⟩, hg, c0, c1, c2, c3, c4⟩ := hn.at_ hlt
      simp only at c0 c1 c2 c3 c4 hd0 hd1 hs0 hs1
      obtain ⟨d, rfl⟩ : ∃ d : Nat, dir = d := ⟨dir.toNat, by omega⟩
      have d0 := E.cell c0
      have d1 := E.cell c1
      have d2 := E.cell c2
      have d3 := E.cell c3
      have d4 := E.cell c4
      clear c0 c1 c2 c3 c4
      have Hq := Lib.hid hq
      clear hq
      have i1 : (0 : Int) ≤ j := by omega
      have i2 : (j : Int) < knobs.length := by omega
      obtain ⟨W4, hW4, E4, B4, hz4⟩ := mk_ wr #[.int .i64 x, .int .i64 y, .int .i64 z, .int .u8 d, .int .u8 sort] 68
      have b4 := B4.cell
      have b1' := (BK.ext E4).cell
      have EE := E.trans E4
      have f1 : IntKind.i64.wrap (d : Int) = d := IntWalk.i64_in _ (by omega)
      cases hh : hasP cells ⟨x, y, z⟩
      · have Hb := Lib.hid (show (decide (knobs.length ≤ 48) && knobsB cells knobs) = false by
          rw [show knobsB cells knobs = false from allR_bad hlt (knobOk_bad Hq.out (by
            rw [← Bool.not_eq_true, Knb.one_iff]
            exact fun h => by rw [h.2.2.1] at hh; cases hh)), Bool.and_false])
        go_upto_region 7 with (fail)
        refine wp_region_grow (by kernel_rfl) (by kernel_rfl) ?_
        repeat (go_big_quiet_step (((go_at_call 104; exact quiet_ext (rHas_c A ca cells _ _ _ _ (hc.ext (EE.grow _)))))))
        refine wpQuiet_nil ?_
        intro W5 hW5
        have E5 : Ext W4 W5 := by
          obtain ⟨x, rfl⟩ := hW5
          exact (Ext.refl _).grow x
        clear hW5
        obtain ⟨hcW5, hfW5, hzW5⟩ := ext_facts E5
        go_wp2_with fail
        go_ret
        exact ⟨by rw [Hb.out]; rfl, EE.trans E5⟩
      have Hok1 := Lib.hid (cells_ok Hcb.out (hasP_iff.1 hh))
      by_cases a1 : (5 : Int) < d
      · have Hb := Lib.hid (show (decide (knobs.length ≤ 48) && knobsB cells knobs) = false by
          rw [show knobsB cells knobs = false from allR_bad hlt (knobOk_bad Hq.out (by
            rw [← Bool.not_eq_true, Knb.one_iff]
            exact fun h => by have : (d : Int) ≤ 5 := h.1; omega)), Bool.and_false])
        go_upto_region 7 with (fail)
        refine wp_region_grow (by kernel_rfl) (by kernel_rfl) ?_
        repeat (go_big_quiet_step (((go_at_call 104; exact quiet_ext (rHas_c A ca cells _ _ _ _ (hc.ext (EE.grow _)))))))
        refine wpQuiet_nil ?_
        intro W5 hW5
        have E5 : Ext W4 W5 := by
          obtain ⟨x, rfl⟩ := hW5
          exact (Ext.refl _).grow x
        clear hW5
        obtain ⟨hcW5, hfW5, hzW5⟩ := ext_facts E5
        go_wp2_with fail
        go_ret
        exact ⟨by rw [Hb.out]; rfl, EE.trans E5⟩
      cases hh2 : hasP cells ⟨x + (stepS d).x, y + (stepS d).y, z + (stepS d).z⟩
      rotate_left
      · have Hb := Lib.hid (show (decide (knobs.length ≤ 48) && knobsB cells knobs) = false by
          rw [show knobsB cells knobs = false from allR_bad hlt (knobOk_bad Hq.out (by
            rw [← Bool.not_eq_true, Knb.one_iff]
            exact fun h => by rw [show hasP cells (addP ⟨x, y, z⟩ (stepS (d : Int).toNat)) = true from hh2] at h; cases h.2.2.2)), Bool.and_false])
        go_upto_region 7 with (fail)
        refine wp_region_grow (by kernel_rfl) (by kernel_rfl) ?_
        repeat (go_big_quiet_step ((first | (go_at_call 104; exact quiet_ext (rHas_c A ca cells _ _ _ _ (hc.ext (EE.grow _)))) | (go_at_call 81; exact quiet_ext (rstep_c d (by omega) _)) | (go_at_call 76; exact quiet_ext (rPlus_c _ _ _ _ _ _ _ Hok1.out (stepS_ok d))))))
        refine wpQuiet_nil ?_
        intro W5 hW5
        have E5 : Ext W4 W5 := by
          obtain ⟨x, rfl⟩ := hW5
          exact (Ext.refl _).grow x
        clear hW5
        obtain ⟨hcW5, hfW5, hzW5⟩ := ext_facts E5
        go_wp2_with fail
        go_ret
        exact ⟨by rw [Hb.out]; rfl, EE.trans E5⟩
      by_cases a2 : sort < 1
      · have Hb := Lib.hid (show (decide (knobs.length ≤ 48) && knobsB cells knobs) = false by
          rw [show knobsB cells knobs = false from allR_bad hlt (knobOk_bad Hq.out (by
            rw [← Bool.not_eq_true, Knb.one_iff]
            exact fun h => by have : 1 ≤ sort := h.2.1.1; omega)), Bool.and_false])
        go_upto_region 7 with (fail)
        refine wp_region_grow (by kernel_rfl) (by kernel_rfl) ?_
        repeat (go_big_quiet_step ((first | (go_at_call 104; exact quiet_ext (rHas_c A ca cells _ _ _ _ (hc.ext (EE.grow _)))) | (go_at_call 81; exact quiet_ext (rstep_c d (by omega) _)) | (go_at_call 76; exact quiet_ext (rPlus_c _ _ _ _ _ _ _ Hok1.out (stepS_ok d))))))
        refine wpQuiet_nil ?_
        intro W5 hW5
        have E5 : Ext W4 W5 := by
          obtain ⟨x, rfl⟩ := hW5
          exact (Ext.refl _).grow x
        clear hW5
        obtain ⟨hcW5, hfW5, hzW5⟩ := ext_facts E5
        go_wp2_with fail
        go_ret
        exact ⟨by rw [Hb.out]; rfl, EE.trans E5⟩
      by_cases a3 : 6 < sort
      · have Hb := Lib.hid (show (decide (knobs.length ≤ 48) && knobsB cells knobs) = false by
          rw [show knobsB cells knobs = false from allR_bad hlt (knobOk_bad Hq.out (by
            rw [← Bool.not_eq_true, Knb.one_iff]
            exact fun h => by have : sort ≤ 6 := h.2.1.2; omega)), Bool.and_false])
        go_upto_region 7 with (fail)
        refine wp_region_grow (by kernel_rfl) (by kernel_rfl) ?_
        repeat (go_big_quiet_step ((first | (go_at_call 104; exact quiet_ext (rHas_c A ca cells _ _ _ _ (hc.ext (EE.grow _)))) | (go_at_call 81; exact quiet_ext (rstep_c d (by omega) _)) | (go_at_call 76; exact quiet_ext (rPlus_c _ _ _ _ _ _ _ Hok1.out (stepS_ok d))))))
        refine wpQuiet_nil ?_
        intro W5 hW5
        have E5 : Ext W4 W5 := by
          obtain ⟨x, rfl⟩ := hW5
          exact (Ext.refl _).grow x
        clear hW5
        obtain ⟨hcW5, hfW5, hzW5⟩ := ext_facts E5
        go_wp2_with fail
        go_ret
        exact ⟨by rw [Hb.out]; rfl, EE.trans E5⟩
      have Hone := Lib.hid ((Knb.one_iff (cs := cells) (x := ⟨⟨x, y, z⟩, d, sort⟩)).2 ⟨by show (d : Int) ≤ 5; omega, ⟨by show 1 ≤ sort; omega, by show sort ≤ 6; omega⟩, hh, hh2⟩)
      by_cases hj0 : j = 0
      · have z1 : decide ((0 : Int) < (j : Int)) = false := by simp; omega
        have z2 : decide (0 < j) = false := by simp; omega
        have hok : ∀ i, i < j + 1 → knobOk cells knobs i = true := fun i hi => by
          obtain rfl : i = 0 := by omega
          subst hj0
          rw [knobOk_zero Hq.out]
          exact Hone.out
        have Hok := Lib.hid hok
        clear hok hj0
        go_upto_region 7 with (fail)
        refine wp_region_grow (by kernel_rfl) (by kernel_rfl) ?_
        repeat (go_big_quiet_step ((first | (go_at_call 104; exact quiet_ext (rHas_c A ca cells _ _ _ _ (hc.ext (EE.grow _)))) | (go_at_call 81; exact quiet_ext (rstep_c d (by omega) _)) | (go_at_call 76; exact quiet_ext (rPlus_c _ _ _ _ _ _ _ Hok1.out (stepS_ok d))))))
        refine wpQuiet_nil ?_
        intro W5 hW5
        have E5 : Ext W4 W5 := by
          obtain ⟨x, rfl⟩ := hW5
          exact (Ext.refl _).grow x
        clear hW5
        obtain ⟨hcW5, hfW5, hzW5⟩ := ext_facts E5
        go_wp2_with fail
        go_roundw
        case rel => exact ⟨j + 1, by omega, by go_num, EE.trans E5, (BK.ext E4).ext E5, Hok⟩
        case measure => simp only [intOf]; omega
      · obtain ⟨g', off', ⟨⟨rx, ry, rz⟩, rdir, rsort⟩, hA', hr, -, hg', p0, p1, p2, p3, p4⟩ := (hn.ext EE).at_ (k := j - 1) (by omega)
        cases hA'
        simp only at p0 p1 p2 p3 p4
        have Hr := Lib.hid hr
        clear hr
        have z1 : decide ((0 : Int) < (j : Int)) = true := by simp; omega
        have z2 : decide (0 < j) = true := by simp; omega
        have hkc : (((j - 1 : Nat) : Nat) : Int) = (j : Int) - 1 := by omega
        have ht : ((j : Int) - 1).toNat = j - 1 := by omega
        have hk1 : (1 : Int) ≤ j := by omega
        have hok : knobOk cells knobs j = Knb.lt ⟨⟨rx, ry, rz⟩, rdir, rsort⟩ ⟨⟨x, y, z⟩, d, sort⟩ := by rw [knobOk_next Hq.out hj0 Hr.out, Hone.out, Bool.true_and]
        have Hok := Lib.hid hok
        clear hok
        go_upto_region 7 with (fail)
        refine wp_region_grow (by kernel_rfl) (by kernel_rfl) ?_
        repeat (go_big_quiet_step ((first | (go_at_call 104; exact quiet_ext (rHas_c A ca cells _ _ _ _ (hc.ext (EE.grow _)))) | (go_at_call 81; exact quiet_ext (rstep_c d (by omega) _)) | (go_at_call 76; exact quiet_ext (rPlus_c _ _ _ _ _ _ _ Hok1.out (stepS_ok d))))))
        refine wpQuiet_nil ?_
        intro W5 hW5
        have E5 : Ext W4 W5 := by
          obtain ⟨x, rfl⟩ := hW5
          exact (Ext.refl _).grow x
        clear hW5
        obtain ⟨hcW5, hfW5, hzW5⟩ := ext_facts E5
        obtain ⟨W6, hW6, E6, B6, hz6⟩ := mk_ W5 #[.int .i64 rx, .int .i64 ry, .int .i64 rz, .int .u8 rdir, .int .u8 rsort] 68
        have b6 := B6.cell
        have b4'' := ((B4.ext E5).ext E6).cell
        have b1'' := (((BK.ext E4).ext E5).ext E6).cell
        have hne := pt_neq
        have EF := (EE.trans E5).trans E6
        cases hlp : ltP ⟨rx, ry, rz⟩ ⟨x, y, z⟩
        · cases heq : Pt.eqB ⟨rx, ry, rz⟩ ⟨x, y, z⟩
          · have Hv := Lib.hid (show Knb.lt ⟨⟨rx, ry, rz⟩, rdir, rsort⟩ ⟨⟨x, y, z⟩, d, sort⟩ = false by simp [Knb.lt, hlp, heq])
            go_wp2_with fail
            refine (rBefore_is hlp _).mono ?_
            rintro v w7 ⟨rfl, E7⟩
            obtain ⟨hcW7, hfW7, hzW7⟩ := ext_facts E7
            have Hb := Lib.hid (show (decide (knobs.length ≤ 48) && knobsB cells knobs) = false by
              rw [show knobsB cells knobs = false from allR_bad hlt (by rw [Hok.out, Hv.out]), Bool.and_false])
            go_wp2_with fail
            go_ret
            exact ⟨by rw [Hb.out]; rfl, EF.trans E7⟩
          · by_cases hdd : rdir < d
            · have Hv := Lib.hid (show Knb.lt ⟨⟨rx, ry, rz⟩, rdir, rsort⟩ ⟨⟨x, y, z⟩, d, sort⟩ = true by simp [Knb.lt, hlp, heq, hdd])
              have hd2 : decide ((d : Int) ≤ rdir) = false := by simp; omega
              go_wp2_with fail
              refine (rBefore_is hlp _).mono ?_
              rintro v w7 ⟨rfl, E7⟩
              obtain ⟨hcW7, hfW7, hzW7⟩ := ext_facts E7
              go_wp2_with fail
              go_roundw
              case rel => exact ⟨j + 1, by omega, by go_num, EF.trans E7, (((BK.ext E4).ext E5).ext E6).ext E7, Lib.hid (fun i hi => by
                rcases Nat.lt_or_ge i j with h' | h'
                · exact Hj.out i h'
                · obtain rfl : i = j := by omega
                  rw [Hok.out, Hv.out])⟩
              case measure => simp only [intOf]; omega
            · have Hv := Lib.hid (show Knb.lt ⟨⟨rx, ry, rz⟩, rdir, rsort⟩ ⟨⟨x, y, z⟩, d, sort⟩ = false by simp [Knb.lt, hlp, hdd])
              have hd2 : decide ((d : Int) ≤ rdir) = true := by simp; omega
              go_wp2_with fail
              refine (rBefore_is hlp _).mono ?_
              rintro v w7 ⟨rfl, E7⟩
              obtain ⟨hcW7, hfW7, hzW7⟩ := ext_facts E7
              have Hb := Lib.hid (show (decide (knobs.length ≤ 48) && knobsB cells knobs) = false by
                rw [show knobsB cells knobs = false from allR_bad hlt (by rw [Hok.out, Hv.out]), Bool.and_false])
              go_wp2_with fail
              go_ret
              exact ⟨by rw [Hb.out]; rfl, EF.trans E7⟩
        · have Hv := Lib.hid (show Knb.lt ⟨⟨rx, ry, rz⟩, rdir, rsort⟩ ⟨⟨x, y, z⟩, d, sort⟩ = true by simp [Knb.lt, hlp])
          go_wp2_with fail
          refine (rBefore_is hlp _).mono ?_
          rintro v w7 ⟨rfl, E7⟩
          obtain ⟨hcW7, hfW7, hzW7⟩ := ext_facts E7
          go_wp2_with fail
          go_roundw
          case rel => exact ⟨j + 1, by omega, by go_num, EF.trans E7, (((BK.ext E4).ext E5).ext E6).ext E7, Lib.hid (fun i hi => by
            rcases Nat.lt_or_ge i j with h' | h'
            · exact Hj.out i h'
            · obtain rfl : i = j := by omega
              rw [Hok.out, Hv.out])⟩
          case measure => simp only [intOf]; omega
    · obtain rfl : knobs.length = j := by omega
      have Hg := Lib.hid (show (decide (knobs.length ≤ 48) && knobsB cells knobs) = true by rw [H48.out, show knobsB cells knobs = true from allR_good Hj.out]; rfl)
      go_wp2_with fail
      go_ret
      exact ⟨by rw [Hg.out]; rfl, E⟩
end Go.Proofs.Ytenigkngmdofiaa

namespace Go.Proofs.Ytenigkngmdofiaa
open Go.RowKit

set_option maxRecDepth 100000 in
set_option maxHeartbeats 16000000 in
theorem validKind_c (cells : List Pt) (knobs : List Knb) (wt : Int) (A : Option Addr) (ca : Nat) (B : Option Addr) (cb : Nat) (w : World) (hc : Cells w A ca cells) (hn : Knobs w B cb knobs) :
    Calls Try.prog 60 #[.agg #[.slice A cells.length ca, .slice B knobs.length cb, .int .i64 wt]] w fun e w' => e = .returned (.bool (Knd.valid ⟨cells, knobs, wt⟩)) ∧ Ext w w' := by
  have hl1 : cells.length ≤ 9223372036854775807 := by have := hc.len; unfold maxLen at this; omega
  obtain ⟨W1, hW1, E1, B1, hz1⟩ := mk_ w #[.slice A cells.length ca, .slice B knobs.length cb, .int .i64 wt] 39
  have b1 := B1.cell
  by_cases a1 : (cells.length : Int) < 1
  · have Hb := Lib.hid (valid_bad0 (k := ⟨cells, knobs, wt⟩) (by
      rw [← Bool.not_eq_true, sized_iff]
      show ¬ ((1 ≤ cells.length ∧ cells.length ≤ 24) ∧ knobs.length ≤ 48 ∧ 1 ≤ wt ∧ wt ≤ 100)
      omega))
    go_enter Try.func60, Try.ntmps60
    go_wp2_with fail
    go_ret
    exact ⟨by rw [Hb.out]; rfl, E1⟩
  by_cases a2 : (24 : Int) < cells.length
  · have Hb := Lib.hid (valid_bad0 (k := ⟨cells, knobs, wt⟩) (by
      rw [← Bool.not_eq_true, sized_iff]
      show ¬ ((1 ≤ cells.length ∧ cells.length ≤ 24) ∧ knobs.length ≤ 48 ∧ 1 ≤ wt ∧ wt ≤ 100)
      omega))
    go_enter Try.func60, Try.ntmps60
    go_wp2_with fail
    go_ret
    exact ⟨by rw [Hb.out]; rfl, E1⟩
  cases hwt : inB 1 100 wt
  · have Hb := Lib.hid (valid_bad0 (k := ⟨cells, knobs, wt⟩) (by
      rw [← Bool.not_eq_true, sized_iff]
      show ¬ ((1 ≤ cells.length ∧ cells.length ≤ 24) ∧ knobs.length ≤ 48 ∧ 1 ≤ wt ∧ wt ≤ 100)
      have := inB_not.1 hwt
      omega))
    go_enter Try.func60, Try.ntmps60
    go_wp2_with fail
    refine (within_is hwt _).mono ?_
    rintro v w2 ⟨rfl, rfl⟩
    go_wp2_with fail
    go_ret
    exact ⟨by rw [Hb.out]; rfl, E1⟩
  go_enter Try.func60, Try.ntmps60
  go_wp2_with fail
  refine (within_is hwt _).mono ?_
  rintro v w2 ⟨rfl, rfl⟩
  have Hwt := Lib.hid hwt
  clear hwt
  go_wp2_with fail
  clear hW1 hz1 b1
  go_loopw [3] (fun i wr => ∃ j : Nat, j ≤ cells.length ∧ i = .int .i64 j ∧ Ext w wr ∧ Blk wr w.heap.size 39 #[.slice A cells.length ca, .slice B knobs.length cb, .int .i64 wt] ∧ Hid (∀ i, i < j → cellOk cells i = true)) (fun i _ => cells.length - (intOf i).toNat)
  case atStart => exact ⟨0, by omega, rfl, E1, B1, Lib.hid (fun i hi => by omega)⟩
  case round =>
    clear E1 B1
    obtain ⟨j, hj, rfl, E, BK, Hj⟩ := hrel
    have b1 := BK.cell
    by_cases hlt : j < cells.length
    · obtain ⟨g, off, q, rfl, hq, hg, c0, c1, c2⟩ := hc.at_ hlt
      have d0 := E.cell c0
      have d1 := E.cell c1
      have d2 := E.cell c2
      clear c0 c1 c2
      have Hq := Lib.hid hq
      clear hq
      have i1 : (0 : Int) ≤ j := by omega
      have i2 : (j : Int) < cells.length := by omega
      cases hnr : nearB ⟨q.x, q.y, q.z⟩ 0 15
      · have Hb := Lib.hid (valid_bad1 (k := ⟨cells, knobs, wt⟩) (allR_bad hlt (cellOk_near Hq.out hnr)))
        have N := fun W => rnear_is hnr W
        clear hnr
        go_upto_region 6 with (fail)
        refine wp_region_grow (by kernel_rfl) (by kernel_rfl) ?_
        repeat (go_big_quiet_step (((go_at_call 44; exact quiet_ext (N _)))))
        refine wpQuiet_nil ?_
        intro W5 hW5
        have E5 : Ext wr W5 := by
          obtain ⟨x, rfl⟩ := hW5
          exact (Ext.refl _).grow x
        clear hW5
        obtain ⟨hcW5, hfW5, hzW5⟩ := ext_facts E5
        go_wp2_with fail
        go_ret
        exact ⟨by rw [Hb.out]; rfl, E.trans E5⟩
      · have N := fun W => rnear_is hnr W
        have Hnr := Lib.hid hnr
        clear hnr
        by_cases hj0 : j = 0
        · have z1 : decide ((0 : Int) < (j : Int)) = false := by simp; omega
          have z2 : decide (0 < j) = false := by simp; omega
          have hok : ∀ i, i < j + 1 → cellOk cells i = true := fun i hi => by
            obtain rfl : i = 0 := by omega
            subst hj0
            exact cellOk_zero Hq.out Hnr.out
          have Hok := Lib.hid hok
          clear hok hj0
          go_upto_region 6 with (fail)
          refine wp_region_grow (by kernel_rfl) (by kernel_rfl) ?_
          repeat (go_big_quiet_step (((go_at_call 44; exact quiet_ext (N _)))))
          refine wpQuiet_nil ?_
          intro W5 hW5
          have E5 : Ext wr W5 := by
            obtain ⟨x, rfl⟩ := hW5
            exact (Ext.refl _).grow x
          clear hW5
          obtain ⟨hcW5, hfW5, hzW5⟩ := ext_facts E5
          go_wp2_with fail
          go_roundw
          case rel => exact ⟨j + 1, by omega, by go_num, E.trans E5, BK.ext E5, Hok⟩
          case measure => simp only [intOf]; omega
        · obtain ⟨g', off', r, hA', hr, hg', p0, p1, p2⟩ := (hc.ext E).at_ (k := j - 1) (by omega)
          cases hA'
          have Hr := Lib.hid hr
          clear hr
          have z1 : decide ((0 : Int) < (j : Int)) = true := by simp; omega
          have z2 : decide (0 < j) = true := by simp; omega
          have hkc : (((j - 1 : Nat) : Nat) : Int) = (j : Int) - 1 := by omega
          have ht : ((j : Int) - 1).toNat = j - 1 := by omega
          have hk1 : (1 : Int) ≤ j := by omega
          have hok : cellOk cells j = ltP r q := cellOk_next Hq.out Hnr.out hj0 Hr.out
          have Hok := Lib.hid hok
          clear hok
          cases hlp : ltP ⟨r.x, r.y, r.z⟩ ⟨q.x, q.y, q.z⟩
          · have O := fun W => rBefore_is hlp W
            have Hb := Lib.hid (valid_bad1 (k := ⟨cells, knobs, wt⟩) (allR_bad hlt (by rw [Hok.out]; exact hlp)))
            clear hlp
            go_upto_region 6 with (fail)
            refine wp_region_grow (by kernel_rfl) (by kernel_rfl) ?_
            repeat (go_big_quiet_step ((first | (go_at_call 44; exact quiet_ext (N _)) | (go_at_call 86; exact quiet_ext (O _)))))
            refine wpQuiet_nil ?_
            intro W5 hW5
            have E5 : Ext wr W5 := by
              obtain ⟨x, rfl⟩ := hW5
              exact (Ext.refl _).grow x
            clear hW5
            obtain ⟨hcW5, hfW5, hzW5⟩ := ext_facts E5
            go_wp2_with fail
            go_ret
            exact ⟨by rw [Hb.out]; rfl, E.trans E5⟩
          · have O := fun W => rBefore_is hlp W
            have Hl := Lib.hid hlp
            clear hlp
            go_upto_region 6 with (fail)
            refine wp_region_grow (by kernel_rfl) (by kernel_rfl) ?_
            repeat (go_big_quiet_step ((first | (go_at_call 44; exact quiet_ext (N _)) | (go_at_call 86; exact quiet_ext (O _)))))
            refine wpQuiet_nil ?_
            intro W5 hW5
            have E5 : Ext wr W5 := by
              obtain ⟨x, rfl⟩ := hW5
              exact (Ext.refl _).grow x
            clear hW5
            obtain ⟨hcW5, hfW5, hzW5⟩ := ext_facts E5
            go_wp2_with fail
            go_roundw
            case rel => exact ⟨j + 1, by omega, by go_num, E.trans E5, BK.ext E5, Lib.hid (fun i hi => by
              rcases Nat.lt_or_ge i j with h' | h'
              · exact Hj.out i h'
              · obtain rfl : i = j := by omega
                rw [Hok.out]
                exact Hl.out)⟩
            case measure => simp only [intOf]; omega
    · obtain rfl : cells.length = j := by omega
      have Hcells := Lib.hid (allR_good Hj.out)
      have hv : Knd.valid ⟨cells, knobs, wt⟩ = (decide (knobs.length ≤ 48) && knobsB cells knobs) := by
        have h1 : cellsB cells = true := Hcells.out
        unfold Knd.valid Knd.sized
        rw [h1, Hwt.out, inB_iff.2 ⟨by show (1 : Int) ≤ cells.length; omega, by show (cells.length : Int) ≤ 24; omega⟩, Bool.true_and, Bool.true_and, Bool.and_true]
      have Hv := Lib.hid hv
      clear hv
      go_wp2_with fail
      refine (knobbed_c cells knobs wt A ca B cb _ (hc.ext E) (hn.ext E) Hcells.out).mono ?_
      rintro v w2 ⟨rfl, E2⟩
      go_wp2_with fail
      go_ret
      exact ⟨by rw [Hv.out]; rfl, E.trans E2⟩
theorem validKind_is {cells : List Pt} {knobs : List Knb} {wt : Int} {r : Bool} (h : Knd.valid ⟨cells, knobs, wt⟩ = r) {A : Option Addr} {ca : Nat} {B : Option Addr} {cb : Nat} {w : World} (hc : Cells w A ca cells) (hn : Knobs w B cb knobs) :
    Calls Try.prog 60 #[.agg #[.slice A cells.length ca, .slice B knobs.length cb, .int .i64 wt]] w fun e w' => e = .returned (.bool r) ∧ Ext w w' := by
  subst h
  exact validKind_c _ _ _ _ _ _ _ _ hc hn
set_option maxHeartbeats 1600000 in
theorem rCheckKind_c (cells : List Pt) (knobs : List Knb) (wt : Int) (A : Option Addr) (ca : Nat) (B : Option Addr) (cb : Nat) (w : World) (hc : Cells w A ca cells) (hn : Knobs w B cb knobs) :
    Calls Try.prog 17 #[.agg #[.slice A cells.length ca, .slice B knobs.length cb, .int .i64 wt]] w fun e w' => e = .returned (.int .i64 (kindErr ⟨cells, knobs, wt⟩)) ∧ Ext w w' := by
  obtain ⟨W1, hW1, E1, B1, hz1⟩ := mk_ w #[.slice A cells.length ca, .slice B knobs.length cb, .int .i64 wt] 39
  have b1 := B1.cell
  cases hv : Knd.valid ⟨cells, knobs, wt⟩
  · have Hb := Lib.hid (kindErr_bad hv)
    have V := fun W (EW : Ext w W) => validKind_is hv (hc.ext EW) (hn.ext EW)
    have HV := Lib.hid V
    clear V hv
    go_enter Try.func17, Try.ntmps17
    go_wp2_with fail
    refine (HV.out _ E1).mono ?_
    rintro v w2 ⟨rfl, E2⟩
    go_wp2_with fail
    go_ret
    exact ⟨by rw [Hb.out]; rfl, E1.trans E2⟩
  · have Hb := Lib.hid (kindErr_good hv)
    have V := fun W (EW : Ext w W) => validKind_is hv (hc.ext EW) (hn.ext EW)
    have HV := Lib.hid V
    clear V hv
    go_enter Try.func17, Try.ntmps17
    go_wp2_with fail
    refine (HV.out _ E1).mono ?_
    rintro v w2 ⟨rfl, E2⟩
    go_wp2_with fail
    go_ret
    exact ⟨by rw [Hb.out]; rfl, E1.trans E2⟩
theorem checkKind_is {cells : List Pt} {knobs : List Knb} {wt r : Int} (h : kindErr ⟨cells, knobs, wt⟩ = r) {A : Option Addr} {ca : Nat} {B : Option Addr} {cb : Nat} {w : World} (hc : Cells w A ca cells) (hn : Knobs w B cb knobs) :
    Calls Try.prog 16 #[.agg #[.slice A cells.length ca, .slice B knobs.length cb, .int .i64 wt]] w fun e w' => e = .returned (.int .i64 r) ∧ Ext w w' := by
  subst h
  exact checkKind_c _ _ _ _ _ _ _ _ hc hn

/-! Lists of kinds. -/
theorem kindAt_eq {qs : List (Knd × KAt)} {j : Nat} {k : Knd} {p : KAt} (h : qs[j]? = some (k, p)) : kindAt (qs.map (·.1)) j = k := by simp [kindAt, h]
theorem kindsErr_bad {l : List Knd} {j : Nat} (hl : ¬ 16 < l.length) (hj : j < l.length) (h : (kindAt l j).valid = false) : kindsErr l = 10 := by
  rw [kindsErr, if_neg hl, allR_bad hj h]
  rfl
theorem kindsErr_good {l : List Knd} (hl : ¬ 16 < l.length) (h : ∀ j, j < l.length → (kindAt l j).valid = true) : kindsErr l = 0 := by
  rw [kindsErr, if_neg hl, allR_good h]
  rfl
set_option maxHeartbeats 3200000 in
theorem checkKinds_c (qs : List (Knd × KAt)) (A : Option Addr) (cap : Nat) (w : World) (hk : Kinds w A cap qs) :
    Calls Try.prog 18 #[.slice A qs.length cap] w fun e w' => e = .returned (.int .i64 (kindsErr (qs.map (·.1)))) ∧ Ext w w' := by
  have hl1 : qs.length ≤ 9223372036854775807 := by have := hk.len; unfold maxLen at this; omega
  have hml : (qs.map (·.1)).length = qs.length := List.length_map _
  by_cases a1 : (16 : Int) < qs.length
  · have Hb := Lib.hid (show kindsErr (qs.map (·.1)) = 4 by rw [kindsErr, if_pos (by rw [hml]; omega)])
    clear hml
    go_enter Try.func18, Try.ntmps18
    go_wp2_with fail
    go_ret
    exact ⟨by rw [Hb.out]; rfl, Ext.refl w⟩
  have Hml := Lib.hid hml
  clear hml
  go_enter Try.func18, Try.ntmps18
  go_wp2_with fail
  go_loopw [11] (fun i wr => ∃ j : Nat, j ≤ qs.length ∧ i = .int .i64 j ∧ Ext w wr ∧ Hid (∀ i, i < j → (kindAt (qs.map (·.1)) i).valid = true)) (fun i _ => qs.length - (intOf i).toNat)
  case atStart => exact ⟨0, by omega, rfl, Ext.refl w, Lib.hid (fun i hi => by omega)⟩
  case round =>
    obtain ⟨j, hj, rfl, E, Hj⟩ := hrel
    by_cases hlt : j < qs.length
    · obtain ⟨g, off, ⟨kc, kn, kw⟩, ⟨KA, kca, KB, kcb⟩, rfl, hq, ⟨hkc, hkn⟩, hg, c0, c1, c2⟩ := (hk.ext E).at_ hlt
      simp only at c0 c1 c2 hkc hkn
      have Hq := Lib.hid hq
      clear hq
      obtain ⟨W4, hW4, E4, B4, hz4⟩ := mk_ wr #[.slice KA kc.length kca, .slice KB kn.length kcb, .int .i64 kw] 39
      have b4 := B4.cell
      cases hv : Knd.valid ⟨kc, kn, kw⟩
      · have Hb := Lib.hid (kindsErr_bad (l := qs.map (·.1)) (by rw [Hml.out]; omega) (j := j) (by rw [Hml.out]; omega) (by rw [kindAt_eq Hq.out]; exact hv))
        have HV := Lib.hid (fun W (EW : Ext wr W) => checkKind_is (kindErr_bad hv) (hkc.ext EW) (hkn.ext EW))
        clear hv
        go_wp2_with fail
        refine (HV.out _ E4).mono ?_
        rintro v w2 ⟨rfl, E2⟩
        go_wp2_with fail
        go_ret
        exact ⟨by rw [Hb.out]; rfl, (E.trans E4).trans E2⟩
      · have hok : ∀ i, i < j + 1 → (kindAt (qs.map (·.1)) i).valid = true := fun i hi => by
          rcases Nat.lt_or_ge i j with h' | h'
          · exact Hj.out i h'
          · obtain rfl : i = j := by omega
            rw [kindAt_eq Hq.out]
            exact hv
        have Hok := Lib.hid hok
        have HV := Lib.hid (fun W (EW : Ext wr W) => checkKind_is (kindErr_good hv) (hkc.ext EW) (hkn.ext EW))
        clear hv hok
        go_wp2_with fail
        refine (HV.out _ E4).mono ?_
        rintro v w2 ⟨rfl, E2⟩
        go_wp2_with fail
        go_roundw
        case rel => exact ⟨j + 1, by omega, by go_num, (E.trans E4).trans E2, Hok⟩
        case measure => simp only [intOf]; omega
    · obtain rfl : qs.length = j := by omega
      have Hg := Lib.hid (kindsErr_good (l := qs.map (·.1)) (by rw [Hml.out]; omega) (by rw [Hml.out]; exact Hj.out))
      go_wp2_with fail
      go_ret
      exact ⟨by rw [Hg.out]; rfl, E⟩
set_option maxHeartbeats 3200000 in
theorem rCheckKinds_c (qs : List (Knd × KAt)) (A : Option Addr) (cap : Nat) (w : World) (hk : Kinds w A cap qs) :
    Calls Try.prog 19 #[.slice A qs.length cap] w fun e w' => e = .returned (.int .i64 (kindsErr (qs.map (·.1)))) ∧ Ext w w' := by
  have hl1 : qs.length ≤ 9223372036854775807 := by have := hk.len; unfold maxLen at this; omega
  have hml : (qs.map (·.1)).length = qs.length := List.length_map _
  by_cases a1 : (16 : Int) < qs.length
  · have Hb := Lib.hid (show kindsErr (qs.map (·.1)) = 4 by rw [kindsErr, if_pos (by rw [hml]; omega)])
    clear hml
    go_enter Try.func19, Try.ntmps19
    go_wp2_with fail
    go_ret
    exact ⟨by rw [Hb.out]; rfl, Ext.refl w⟩
  have Hml := Lib.hid hml
  clear hml
  go_enter Try.func19, Try.ntmps19
  go_wp2_with fail
  go_loopw [3] (fun i wr => ∃ j : Nat, j ≤ qs.length ∧ i = .int .i64 j ∧ Ext w wr ∧ Hid (∀ i, i < j → (kindAt (qs.map (·.1)) i).valid = true)) (fun i _ => qs.length - (intOf i).toNat)
  case atStart => exact ⟨0, by omega, rfl, Ext.refl w, Lib.hid (fun i hi => by omega)⟩
  case round =>
    obtain ⟨j, hj, rfl, E, Hj⟩ := hrel
    by_cases hlt : j < qs.length
    · obtain ⟨g, off, ⟨kc, kn, kw⟩, ⟨KA, kca, KB, kcb⟩, rfl, hq, ⟨hkc, hkn⟩, hg, c0, c1, c2⟩ := (hk.ext E).at_ hlt
      simp only at c0 c1 c2 hkc hkn
      have Hq := Lib.hid hq
      clear hq
      cases hv : Knd.valid ⟨kc, kn, kw⟩
      · have Hb := Lib.hid (kindsErr_bad (l := qs.map (·.1)) (by rw [Hml.out]; omega) (j := j) (by rw [Hml.out]; omega) (by rw [kindAt_eq Hq.out]; exact hv))
        have HV := Lib.hid (fun W (EW : Ext wr W) => validKind_is hv (hkc.ext EW) (hkn.ext EW))
        clear hv
        go_wp2_with fail
        refine (HV.out _ (Ext.refl _)).mono ?_
        rintro v w2 ⟨rfl, E2⟩
        go_wp2_with fail
        go_ret
        exact ⟨by rw [Hb.out]; rfl, E.trans E2⟩
      · have hok : ∀ i, i < j + 1 → (kindAt (qs.map (·.1)) i).valid = true := fun i hi => by
          rcases Nat.lt_or_ge i j with h' | h'
          · exact Hj.out i h'
          · obtain rfl : i = j := by omega
            rw [kindAt_eq Hq.out]
            exact hv
        have Hok := Lib.hid hok
        have HV := Lib.hid (fun W (EW : Ext wr W) => validKind_is hv (hkc.ext EW) (hkn.ext EW))
        clear hv hok
        go_wp2_with fail
        refine (HV.out _ (Ext.refl _)).mono ?_
        rintro v w2 ⟨rfl, E2⟩
        go_wp2_with fail
        go_roundw
        case rel => exact ⟨j + 1, by omega, by go_num, E.trans E2, Hok⟩
        case measure => simp only [intOf]; omega
    · obtain rfl : qs.length = j := by omega
      have Hg := Lib.hid (kindsErr_good (l := qs.map (·.1)) (by rw [Hml.out]; omega) (by rw [Hml.out]; exact Hj.out))
      go_wp2_with fail
      go_ret
      exact ⟨by rw [Hg.out]; rfl, E⟩
end Go.Proofs.Ytenigkngmdofiaa

namespace Go.Proofs.Ytenigkngmdofiaa
open Go.RowKit

structure Brk where
  kind : Int
  at_ : Pt
  turn : Int
  color : Int
def Brk.v (b : Brk) : Value := .agg #[.int .i64 b.kind, .int .i64 b.at_.x, .int .i64 b.at_.y, .int .i64 b.at_.z, .int .u8 b.turn, .int .u8 b.color]
def Brk.cs (b : Brk) : List Value := [.int .i64 b.kind, .int .i64 b.at_.x, .int .i64 b.at_.y, .int .i64 b.at_.z, .int .u8 b.turn, .int .u8 b.color]
def Brk.byte (b : Brk) : Prop := (0 ≤ b.turn ∧ b.turn ≤ 255) ∧ 0 ≤ b.color ∧ b.color ≤ 255
def Brk.ok (n : Nat) (b : Brk) : Bool := decide (0 ≤ b.kind) && (decide (b.kind < n) && (nearB b.at_ (-1000) 1000 && (decide (b.turn < 24) && decide (b.color ≤ 15))))
theorem Brk.ok_iff {n : Nat} {b : Brk} : b.ok n = true ↔ 0 ≤ b.kind ∧ b.kind < n ∧ nearB b.at_ (-1000) 1000 = true ∧ b.turn < 24 ∧ b.color ≤ 15 := by
  simp only [Brk.ok, Bool.and_eq_true, decide_eq_true_eq]
theorem Brk.ok_not {n : Nat} {b : Brk} (h : ¬ (0 ≤ b.kind ∧ b.kind < n ∧ nearB b.at_ (-1000) 1000 = true ∧ b.turn < 24 ∧ b.color ≤ 15)) : b.ok n = false := by
  rw [← Bool.not_eq_true, Brk.ok_iff]
  exact h
def Bricks (w : World) (A : Option Addr) (cap : Nat) (l : List Brk) : Prop := SliceIs w A l.length cap 6 (l.map Brk.cs) ∧ ∀ b ∈ l, b.byte
theorem Bricks.ext {w w' : World} {A : Option Addr} {cap : Nat} {l : List Brk} (h : Bricks w A cap l) (e : Ext w w') : Bricks w' A cap l := ⟨SliceIs.ext h.1 e, h.2⟩
theorem Bricks.len {w : World} {A : Option Addr} {cap : Nat} {l : List Brk} (h : Bricks w A cap l) : l.length ≤ maxLen := Nat.le_trans h.1.le h.1.small
theorem Bricks.at_ {w : World} {A : Option Addr} {cap : Nat} {l : List Brk} (h : Bricks w A cap l) {k : Nat} (hk : k < l.length) :
    ∃ b off p, A = some ⟨b, off, none⟩ ∧ l[k]? = some p ∧ p.byte ∧ b < w.heap.size ∧ w.cell? ⟨b, off + k * 6, none⟩ = some (.int .i64 p.kind) ∧ w.cell? ⟨b, off + k * 6 + 1, none⟩ = some (.int .i64 p.at_.x) ∧
      w.cell? ⟨b, off + k * 6 + 2, none⟩ = some (.int .i64 p.at_.y) ∧ w.cell? ⟨b, off + k * 6 + 3, none⟩ = some (.int .i64 p.at_.z) ∧ w.cell? ⟨b, off + k * 6 + 4, none⟩ = some (.int .u8 p.turn) ∧ w.cell? ⟨b, off + k * 6 + 5, none⟩ = some (.int .u8 p.color) := by
  obtain ⟨b, off, hA, hb, hc⟩ := SliceIs.cells h.1 (by omega)
  have hget : l[k]? = some l[k] := List.getElem?_eq_getElem hk
  have hr : (l.map Brk.cs)[k]? = some l[k].cs := by rw [List.getElem?_map, hget]; rfl
  exact ⟨b, off, l[k], hA, hget, h.2 _ (List.getElem_mem hk), hb, hc k _ hr 0 _ rfl, hc k _ hr 1 _ rfl, hc k _ hr 2 _ rfl, hc k _ hr 3 _ rfl, hc k _ hr 4 _ rfl, hc k _ hr 5 _ rfl⟩
set_option maxHeartbeats 1600000 in
theorem valid_c (n cap : Nat) (A : Option Addr) (k x y z t c : Int) (w : World) (hn0 : n ≤ maxLen) :
    Calls Try.prog 69 #[.slice A n cap, .agg #[.int .i64 k, .int .i64 x, .int .i64 y, .int .i64 z, .int .u8 t, .int .u8 c]] w fun e w' => e = .returned (.bool (Brk.ok n ⟨k, ⟨x, y, z⟩, t, c⟩)) ∧ Ext w w' := by
  have hn := hn0
  unfold maxLen at hn
  obtain ⟨W1, hW1, E1, B1, hz1⟩ := mk_ w #[.int .i64 k, .int .i64 x, .int .i64 y, .int .i64 z, .int .u8 t, .int .u8 c] 42
  have b1 := B1.cell
  by_cases a1 : 0 ≤ k
  rotate_left
  · have Hb := Lib.hid (show Brk.ok n ⟨k, ⟨x, y, z⟩, t, c⟩ = false from Brk.ok_not (by
      show ¬ (0 ≤ k ∧ k < n ∧ _ ∧ t < 24 ∧ c ≤ 15)
      omega))
    go_enter Try.func69, Try.ntmps69
    go_wp2_with fail
    go_ret
    exact ⟨by rw [Hb.out]; rfl, E1⟩
  by_cases a2 : k < n
  rotate_left
  · have Hb := Lib.hid (show Brk.ok n ⟨k, ⟨x, y, z⟩, t, c⟩ = false from Brk.ok_not (by
      show ¬ (0 ≤ k ∧ k < n ∧ _ ∧ t < 24 ∧ c ≤ 15)
      omega))
    go_enter Try.func69, Try.ntmps69
    go_wp2_with fail
    go_ret
    exact ⟨by rw [Hb.out]; rfl, E1⟩
  cases hr : nearB ⟨x, y, z⟩ (-1000) 1000
  · have Hb := Lib.hid (show Brk.ok n ⟨k, ⟨x, y, z⟩, t, c⟩ = false from Brk.ok_not (by
      rw [show (Brk.mk k ⟨x, y, z⟩ t c).at_ = ⟨x, y, z⟩ from rfl, hr]
      exact fun h => by cases h.2.2.1))
    go_enter Try.func69, Try.ntmps69
    go_wp2_with fail
    refine (near_is hr _).mono ?_
    rintro v w2 ⟨rfl, E2⟩
    go_wp2_with fail
    go_ret
    exact ⟨by rw [Hb.out]; rfl, E1.trans E2⟩
  by_cases a3 : t < 24
  rotate_left
  · have Hb := Lib.hid (show Brk.ok n ⟨k, ⟨x, y, z⟩, t, c⟩ = false from Brk.ok_not (by
      show ¬ (0 ≤ k ∧ k < n ∧ _ ∧ t < 24 ∧ c ≤ 15)
      omega))
    go_enter Try.func69, Try.ntmps69
    go_wp2_with fail
    refine (near_is hr _).mono ?_
    rintro v w2 ⟨rfl, E2⟩
    have b2 := (B1.ext E2).cell
    go_wp2_with fail
    go_ret
    exact ⟨by rw [Hb.out]; rfl, E1.trans E2⟩
  by_cases a4 : c ≤ 15
  rotate_left
  · have Hb := Lib.hid (show Brk.ok n ⟨k, ⟨x, y, z⟩, t, c⟩ = false from Brk.ok_not (by
      show ¬ (0 ≤ k ∧ k < n ∧ _ ∧ t < 24 ∧ c ≤ 15)
      omega))
    have d4 : decide (c ≤ 15) = false := by simp; omega
    go_enter Try.func69, Try.ntmps69
    go_wp2_with fail
    refine (near_is hr _).mono ?_
    rintro v w2 ⟨rfl, E2⟩
    have b2 := (B1.ext E2).cell
    go_wp2_with fail
    go_ret
    exact ⟨by rw [Hb.out]; rfl, E1.trans E2⟩
  · have Hb := Lib.hid (show Brk.ok n ⟨k, ⟨x, y, z⟩, t, c⟩ = true from Brk.ok_iff.2 ⟨a1, a2, hr, a3, a4⟩)
    go_enter Try.func69, Try.ntmps69
    go_wp2_with fail
    refine (near_is hr _).mono ?_
    rintro v w2 ⟨rfl, E2⟩
    have b2 := (B1.ext E2).cell
    go_wp2_with fail
    go_ret
    exact ⟨by rw [Hb.out]; rfl, E1.trans E2⟩
set_option maxHeartbeats 1600000 in
theorem rValidBrick_c (n cap : Nat) (A : Option Addr) (k x y z t c : Int) (w : World) (hn : n ≤ maxLen) :
    Calls Try.prog 77 #[.slice A n cap, .agg #[.int .i64 k, .int .i64 x, .int .i64 y, .int .i64 z, .int .u8 t, .int .u8 c]] w fun e w' => e = .returned (.bool (Brk.ok n ⟨k, ⟨x, y, z⟩, t, c⟩)) ∧ Ext w w' := by
  unfold maxLen at hn
  obtain ⟨W1, hW1, E1, B1, hz1⟩ := mk_ w #[.int .i64 k, .int .i64 x, .int .i64 y, .int .i64 z, .int .u8 t, .int .u8 c] 42
  have b1 := B1.cell
  have f1 : IntKind.i64.wrap ((n : Int) - 1) = (n : Int) - 1 := IntWalk.i64_in _ (by omega)
  cases hi : inB 0 ((n : Int) - 1) k
  · have Hb := Lib.hid (show Brk.ok n ⟨k, ⟨x, y, z⟩, t, c⟩ = false from Brk.ok_not (by
      have := inB_not.1 hi
      show ¬ (0 ≤ k ∧ k < n ∧ _ ∧ t < 24 ∧ c ≤ 15)
      omega))
    go_enter Try.func77, Try.ntmps77
    go_wp2_with fail
    refine (within_is hi _).mono ?_
    rintro v w2 ⟨rfl, rfl⟩
    go_wp2_with fail
    go_ret
    exact ⟨by rw [Hb.out]; rfl, E1⟩
  have hi2 := inB_iff.1 hi
  cases hr : nearB ⟨x, y, z⟩ (-1000) 1000
  · have Hb := Lib.hid (show Brk.ok n ⟨k, ⟨x, y, z⟩, t, c⟩ = false from Brk.ok_not (by
      rw [show (Brk.mk k ⟨x, y, z⟩ t c).at_ = ⟨x, y, z⟩ from rfl, hr]
      exact fun h => by cases h.2.2.1))
    go_enter Try.func77, Try.ntmps77
    go_wp2_with fail
    refine (within_is hi _).mono ?_
    rintro v w2 ⟨rfl, rfl⟩
    go_wp2_with fail
    refine (rnear_is hr _).mono ?_
    rintro v w2 ⟨rfl, E2⟩
    go_wp2_with fail
    go_ret
    exact ⟨by rw [Hb.out]; rfl, E1.trans E2⟩
  by_cases a3 : t < 24
  rotate_left
  · have Hb := Lib.hid (show Brk.ok n ⟨k, ⟨x, y, z⟩, t, c⟩ = false from Brk.ok_not (by
      show ¬ (0 ≤ k ∧ k < n ∧ _ ∧ t < 24 ∧ c ≤ 15)
      omega))
    go_enter Try.func77, Try.ntmps77
    go_wp2_with fail
    refine (within_is hi _).mono ?_
    rintro v w2 ⟨rfl, rfl⟩
    go_wp2_with fail
    refine (rnear_is hr _).mono ?_
    rintro v w2 ⟨rfl, E2⟩
    have b2 := (B1.ext E2).cell
    go_wp2_with fail
    go_ret
    exact ⟨by rw [Hb.out]; rfl, E1.trans E2⟩
  by_cases a4 : c ≤ 15
  rotate_left
  · have Hb := Lib.hid (show Brk.ok n ⟨k, ⟨x, y, z⟩, t, c⟩ = false from Brk.ok_not (by
      show ¬ (0 ≤ k ∧ k < n ∧ _ ∧ t < 24 ∧ c ≤ 15)
      omega))
    have d4 : decide (c ≤ 15) = false := by simp; omega
    go_enter Try.func77, Try.ntmps77
    go_wp2_with fail
    refine (within_is hi _).mono ?_
    rintro v w2 ⟨rfl, rfl⟩
    go_wp2_with fail
    refine (rnear_is hr _).mono ?_
    rintro v w2 ⟨rfl, E2⟩
    have b2 := (B1.ext E2).cell
    go_wp2_with fail
    go_ret
    exact ⟨by rw [Hb.out]; rfl, E1.trans E2⟩
  · have Hb := Lib.hid (show Brk.ok n ⟨k, ⟨x, y, z⟩, t, c⟩ = true from Brk.ok_iff.2 ⟨by show 0 ≤ k; omega, by show k < n; omega, hr, a3, a4⟩)
    go_enter Try.func77, Try.ntmps77
    go_wp2_with fail
    refine (within_is hi _).mono ?_
    rintro v w2 ⟨rfl, rfl⟩
    go_wp2_with fail
    refine (rnear_is hr _).mono ?_
    rintro v w2 ⟨rfl, E2⟩
    have b2 := (B1.ext E2).cell
    go_wp2_with fail
    go_ret
    exact ⟨by rw [Hb.out]; rfl, E1.trans E2⟩
theorem valid_is {n cap : Nat} {A : Option Addr} {k x y z t c : Int} {r : Bool} (h : Brk.ok n ⟨k, ⟨x, y, z⟩, t, c⟩ = r) (w : World) (hn : n ≤ maxLen) :
    Calls Try.prog 69 #[.slice A n cap, .agg #[.int .i64 k, .int .i64 x, .int .i64 y, .int .i64 z, .int .u8 t, .int .u8 c]] w fun e w' => e = .returned (.bool r) ∧ Ext w w' := by
  subst h
  exact valid_c _ _ _ _ _ _ _ _ _ _ hn
theorem rValidBrick_is {n cap : Nat} {A : Option Addr} {k x y z t c : Int} {r : Bool} (h : Brk.ok n ⟨k, ⟨x, y, z⟩, t, c⟩ = r) (w : World) (hn : n ≤ maxLen) :
    Calls Try.prog 77 #[.slice A n cap, .agg #[.int .i64 k, .int .i64 x, .int .i64 y, .int .i64 z, .int .u8 t, .int .u8 c]] w fun e w' => e = .returned (.bool r) ∧ Ext w w' := by
  subst h
  exact rValidBrick_c _ _ _ _ _ _ _ _ _ _ hn

/-! The error of kinds and bricks. -/
def brkAt (l : List Brk) (i : Nat) : Brk := l.getD i ⟨0, ⟨0, 0, 0⟩, 0, 0⟩
theorem brkAt_eq {l : List Brk} {k : Nat} {p : Brk} (h : l[k]? = some p) : brkAt l k = p := by simp [brkAt, h]
def bricksB (n : Nat) (bs : List Brk) : Bool := allR bs.length fun i => (brkAt bs i).ok n
def askedErr (ks : List Knd) (bs : List Brk) : Int := if kindsErr ks = 0 then (if bricksB ks.length bs then 0 else 11) else kindsErr ks
theorem askedErr_kinds {ks : List Knd} {bs : List Brk} (h : kindsErr ks ≠ 0) : askedErr ks bs = kindsErr ks := if_neg h
theorem askedErr_bad {ks : List Knd} {bs : List Brk} (h : kindsErr ks = 0) {j : Nat} (hj : j < bs.length) (hb : (brkAt bs j).ok ks.length = false) : askedErr ks bs = 11 := by
  rw [askedErr, if_pos h, bricksB, allR_bad hj hb]
  rfl
theorem askedErr_good {ks : List Knd} {bs : List Brk} (h : kindsErr ks = 0) (hb : ∀ j, j < bs.length → (brkAt bs j).ok ks.length = true) : askedErr ks bs = 0 := by
  rw [askedErr, if_pos h, bricksB, allR_good hb]
  rfl
theorem kindsErr_ge (l : List Knd) : kindsErr l = 0 ∨ kindsErr l = 4 ∨ kindsErr l = 10 := by
  unfold kindsErr
  split
  · exact Or.inr (Or.inl rfl)
  · split
    · exact Or.inl rfl
    · exact Or.inr (Or.inr rfl)
theorem checkKinds_is {qs : List (Knd × KAt)} {A : Option Addr} {cap : Nat} {r : Int} (h : kindsErr (qs.map (·.1)) = r) {w : World} (hk : Kinds w A cap qs) :
    Calls Try.prog 18 #[.slice A qs.length cap] w fun e w' => e = .returned (.int .i64 r) ∧ Ext w w' := by
  subst h
  exact checkKinds_c _ _ _ _ hk
theorem rCheckKinds_is {qs : List (Knd × KAt)} {A : Option Addr} {cap : Nat} {r : Int} (h : kindsErr (qs.map (·.1)) = r) {w : World} (hk : Kinds w A cap qs) :
    Calls Try.prog 19 #[.slice A qs.length cap] w fun e w' => e = .returned (.int .i64 r) ∧ Ext w w' := by
  subst h
  exact rCheckKinds_c _ _ _ _ hk
set_option maxHeartbeats 3200000 in
theorem check_c (qs : List (Knd × KAt)) (A : Option Addr) (cap : Nat) (bs : List Brk) (B : Option Addr) (cb : Nat) (w : World) (hk : Kinds w A cap qs) (hb : Bricks w B cb bs) :
    Calls Try.prog 63 #[.slice A qs.length cap, .slice B bs.length cb] w fun e w' => e = .returned (.int .i64 (askedErr (qs.map (·.1)) bs)) ∧ Ext w w' := by
  have hl1 : qs.length ≤ maxLen := hk.len
  have hl2 : bs.length ≤ 9223372036854775807 := by have := hb.len; unfold maxLen at this; omega
  obtain ⟨r, hr⟩ : ∃ r, kindsErr (qs.map (·.1)) = r := ⟨_, rfl⟩
  by_cases h0 : r = 0
  rotate_left
  · have Hb := Lib.hid (show askedErr (qs.map (·.1)) bs = r by rw [askedErr_kinds (by rw [hr]; exact h0), hr])
    have CK := checkKinds_is hr hk
    have h1 : (r != 0) = true := by simpa using h0
    clear hr h0
    go_enter Try.func63, Try.ntmps63
    go_wp2_with fail
    refine CK.mono ?_
    rintro v w2 ⟨rfl, E2⟩
    go_wp2_with fail
    go_ret
    exact ⟨by rw [Hb.out]; rfl, E2⟩
  subst h0
  have CK := checkKinds_is hr hk
  have Hr := Lib.hid hr
  clear hr
  have Hml := Lib.hid (show (qs.map (·.1)).length = qs.length from List.length_map _)
  go_enter Try.func63, Try.ntmps63
  go_wp2_with fail
  refine CK.mono ?_
  rintro v w2 ⟨rfl, E2⟩
  go_wp2_with fail
  go_loopw [15] (fun i wr => ∃ j : Nat, j ≤ bs.length ∧ i = .int .i64 j ∧ Ext w wr ∧ Hid (∀ i, i < j → (brkAt bs i).ok qs.length = true)) (fun i _ => bs.length - (intOf i).toNat)
  case atStart => exact ⟨0, by omega, rfl, E2, Lib.hid (fun i hi => by omega)⟩
  case round =>
    clear E2
    obtain ⟨j, hj, rfl, E, Hj⟩ := hrel
    by_cases hlt : j < bs.length
    · obtain ⟨g, off, ⟨k, ⟨x, y, z⟩, t, c⟩, rfl, hq, -, hg, c0, c1, c2, c3, c4, c5⟩ := (hb.ext E).at_ hlt
      simp only at c0 c1 c2 c3 c4 c5
      have Hq := Lib.hid hq
      clear hq
      obtain ⟨W4, hW4, E4, B4, hz4⟩ := mk_ wr #[.int .i64 k, .int .i64 x, .int .i64 y, .int .i64 z, .int .u8 t, .int .u8 c] 42
      have b4 := B4.cell
      cases hv : Brk.ok qs.length ⟨k, ⟨x, y, z⟩, t, c⟩
      · have Hb := Lib.hid (askedErr_bad (bs := bs) Hr.out hlt (by rw [brkAt_eq Hq.out, Hml.out]; exact hv))
        have HV := Lib.hid (fun W => valid_is (A := A) (cap := cap) hv W hl1)
        clear hv
        go_wp2_with fail
        refine (HV.out _).mono ?_
        rintro v w2 ⟨rfl, E2⟩
        go_wp2_with fail
        go_ret
        exact ⟨by rw [Hb.out]; rfl, (E.trans E4).trans E2⟩
      · have hok : ∀ i, i < j + 1 → (brkAt bs i).ok qs.length = true := fun i hi => by
          rcases Nat.lt_or_ge i j with h' | h'
          · exact Hj.out i h'
          · obtain rfl : i = j := by omega
            rw [brkAt_eq Hq.out]
            exact hv
        have Hok := Lib.hid hok
        have HV := Lib.hid (fun W => valid_is (A := A) (cap := cap) hv W hl1)
        clear hv hok
        go_wp2_with fail
        refine (HV.out _).mono ?_
        rintro v w2 ⟨rfl, E2⟩
        go_wp2_with fail
        go_roundw
        case rel => exact ⟨j + 1, by omega, by go_num, (E.trans E4).trans E2, Hok⟩
        case measure => simp only [intOf]; omega
    · obtain rfl : bs.length = j := by omega
      have Hg := Lib.hid (askedErr_good (bs := bs) Hr.out (by rw [Hml.out]; exact Hj.out))
      go_wp2_with fail
      go_ret
      exact ⟨by rw [Hg.out]; rfl, E⟩
/-- A brick in a new block, as a list of one. -/
theorem brick_new (w : World) (b : Brk) (hb : b.byte) (t : TypeId) : Bricks (w.alloc (.cells #[.int .i64 b.kind, .int .i64 b.at_.x, .int .i64 b.at_.y, .int .i64 b.at_.z, .int .u8 b.turn, .int .u8 b.color] t)) (some ⟨w.heap.size, 0, none⟩) 1 [b] := by
  refine ⟨⟨rfl, Nat.le_refl _, by unfold maxLen; omega, by simp [Brk.cs], fun _ => ⟨_, 0, rfl, by simp, fun i r hr j u hu => ?_⟩⟩, fun x hx => by rw [List.mem_singleton.1 hx]; exact hb⟩
  have hi : i = 0 := by
    rcases Nat.eq_zero_or_pos i with h | h
    · exact h
    · rw [List.getElem?_eq_none (by simp; omega)] at hr; cases hr
  subst hi
  simp only [List.map_cons, List.map_nil, List.getElem?_cons_zero, Option.some.injEq] at hr
  subst hr
  rw [cell_new]
  simpa [Brk.cs] using hu
theorem check1_c (qs : List (Knd × KAt)) (A : Option Addr) (cap : Nat) (k x y z t c : Int) (w : World) (hk : Kinds w A cap qs) (hb : Brk.byte ⟨k, ⟨x, y, z⟩, t, c⟩) (ty : TypeId) :
    Calls Try.prog 63 #[.slice A qs.length cap, .slice (some ⟨w.heap.size, 0, none⟩) 1 1] (w.alloc (.cells #[.int .i64 k, .int .i64 x, .int .i64 y, .int .i64 z, .int .u8 t, .int .u8 c] ty)) fun e w' => e = .returned (.int .i64 (askedErr (qs.map (·.1)) [⟨k, ⟨x, y, z⟩, t, c⟩])) ∧ Ext w w' :=
  (check_c qs A cap [⟨k, ⟨x, y, z⟩, t, c⟩] (some ⟨w.heap.size, 0, none⟩) 1 _ (hk.ext ((Ext.refl w).alloc _)) (brick_new w ⟨k, ⟨x, y, z⟩, t, c⟩ hb ty)).mono fun _ _ ⟨he, hE⟩ => ⟨he, ((Ext.refl w).alloc _).trans hE⟩
set_option maxHeartbeats 1600000 in
theorem rAsked_c (qs : List (Knd × KAt)) (A : Option Addr) (cap : Nat) (k x y z t c : Int) (w : World) (hk : Kinds w A cap qs) :
    Calls Try.prog 65 #[.slice A qs.length cap, .agg #[.int .i64 k, .int .i64 x, .int .i64 y, .int .i64 z, .int .u8 t, .int .u8 c]] w fun e w' => e = .returned (.int .i64 (askedErr (qs.map (·.1)) [⟨k, ⟨x, y, z⟩, t, c⟩])) ∧ Ext w w' := by
  have hl1 : qs.length ≤ maxLen := hk.len
  obtain ⟨W1, hW1, E1, B1, hz1⟩ := mk_ w #[.int .i64 k, .int .i64 x, .int .i64 y, .int .i64 z, .int .u8 t, .int .u8 c] 42
  have b1 := B1.cell
  obtain ⟨r, hr⟩ : ∃ r, kindsErr (qs.map (·.1)) = r := ⟨_, rfl⟩
  have CK := rCheckKinds_is hr (hk.ext E1)
  by_cases h0 : r = 0
  rotate_left
  · have Hb := Lib.hid (show askedErr (qs.map (·.1)) [⟨k, ⟨x, y, z⟩, t, c⟩] = r by rw [askedErr_kinds (by rw [hr]; exact h0), hr])
    have h1 : (r != 0) = true := by simpa using h0
    clear hr h0
    go_enter Try.func65, Try.ntmps65
    go_wp2_with fail
    refine CK.mono ?_
    rintro v w2 ⟨rfl, E2⟩
    go_wp2_with fail
    go_ret
    exact ⟨by rw [Hb.out]; rfl, E1.trans E2⟩
  subst h0
  have Hr := Lib.hid hr
  clear hr
  have Hml := Lib.hid (show (qs.map (·.1)).length = qs.length from List.length_map _)
  cases hv : Brk.ok qs.length ⟨k, ⟨x, y, z⟩, t, c⟩
  · have Hb := Lib.hid (askedErr_bad (bs := [⟨k, ⟨x, y, z⟩, t, c⟩]) Hr.out (j := 0) (by simp) (by rw [Hml.out]; exact hv))
    have HV := Lib.hid (fun W => rValidBrick_is (A := A) (cap := cap) hv W hl1)
    clear hv
    go_enter Try.func65, Try.ntmps65
    go_wp2_with fail
    refine CK.mono ?_
    rintro v w2 ⟨rfl, E2⟩
    have b2 := (B1.ext E2).cell
    go_wp2_with fail
    refine (HV.out _).mono ?_
    rintro v w3 ⟨rfl, E3⟩
    go_wp2_with fail
    go_ret
    exact ⟨by rw [Hb.out]; rfl, (E1.trans E2).trans E3⟩
  · have Hb := Lib.hid (askedErr_good (bs := [⟨k, ⟨x, y, z⟩, t, c⟩]) Hr.out (fun j hj => by
      obtain rfl : j = 0 := by simpa using hj
      rw [Hml.out]
      exact hv))
    have HV := Lib.hid (fun W => rValidBrick_is (A := A) (cap := cap) hv W hl1)
    clear hv
    go_enter Try.func65, Try.ntmps65
    go_wp2_with fail
    refine CK.mono ?_
    rintro v w2 ⟨rfl, E2⟩
    have b2 := (B1.ext E2).cell
    go_wp2_with fail
    refine (HV.out _).mono ?_
    rintro v w3 ⟨rfl, E3⟩
    go_wp2_with fail
    go_ret
    exact ⟨by rw [Hb.out]; rfl, (E1.trans E2).trans E3⟩
end Go.Proofs.Ytenigkngmdofiaa
