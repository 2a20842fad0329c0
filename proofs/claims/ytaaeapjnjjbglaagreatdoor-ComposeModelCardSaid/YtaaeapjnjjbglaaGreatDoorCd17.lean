/- Texts of another chapter in a namespace of their own (printed by lat.py). -/
import Derived.Test.YtaaeapjnjjbglaaGreatDoorCd16

-- holds: BrickB CellsP CheckKind Has KindS Near Ord RKind RSorted RValidKind SortC SortLaid Step Turn Turned Turners
namespace Go.Proofs.YtaaeapjnjjbglaaGreatDoor.Lat
open Go.RowKit

theorem near_is {x y z lo hi : Int} {r : Bool} (h : nearB ⟨x, y, z⟩ lo hi = r) (w : World) :
    Calls Tryz.prog 39 #[.agg #[.int .i64 x, .int .i64 y, .int .i64 z], .int .i64 lo, .int .i64 hi] w fun e w' => e = .returned (.bool r) ∧ Ext w w' := by
  subst h
  exact near_c _ _ _ _ _ _
theorem order_is {a b c d e f n : Int} (h : ordP ⟨a, b, c⟩ ⟨d, e, f⟩ = n) (w : World) :
    Calls Tryz.prog 48 #[.agg #[.int .i64 a, .int .i64 b, .int .i64 c], .agg #[.int .i64 d, .int .i64 e, .int .i64 f]] w fun v w' => v = .returned (.int .i64 n) ∧ Ext w w' := by
  subst h
  exact order_c _ _ _ _ _ _ _
theorem contains_is {A : Option Addr} {cap : Nat} {l : List Pt} {a b c : Int} {r : Bool} (h : hasP l ⟨a, b, c⟩ = r) {w : World} (hs : Cells w A cap l) :
    Calls Tryz.prog 49 #[.slice A l.length cap, .agg #[.int .i64 a, .int .i64 b, .int .i64 c]] w fun e w' => e = .returned (.bool r) ∧ Ext w w' := by
  subst h
  exact contains_c _ _ _ _ _ _ _ hs
theorem cellOk_near {l : List Pt} {j : Nat} {q : Pt} (hq : l[j]? = some q) (h : nearB q 0 15 = false) : cellOk l j = false := by
  rw [cellOk, ptAt_eq hq, h]
  rfl
theorem cellOk_zero {l : List Pt} {q : Pt} (hq : l[0]? = some q) (h : nearB q 0 15 = true) : cellOk l 0 = true := by
  rw [cellOk, ptAt_eq hq, h]
  rfl
theorem cellOk_next {l : List Pt} {j : Nat} {q r : Pt} (hq : l[j]? = some q) (h : nearB q 0 15 = true) (hj : j ≠ 0) (hr : l[j - 1]? = some r) : cellOk l j = ltP r q := by
  rw [cellOk, ptAt_eq hq, ptAt_eq hr, h, decide_eq_false hj]
  rfl
theorem pt_near {q : Pt} (h : nearB q 0 15 = true) : q.ok := by
  rw [nearB_iff] at h
  exact ⟨⟨by omega, by omega⟩, ⟨by omega, by omega⟩, ⟨by omega, by omega⟩⟩
theorem knobOk_zero {cs : List Pt} {l : List Knb} {q : Knb} (hq : l[0]? = some q) : knobOk cs l 0 = q.one cs := by
  rw [knobOk, knbAt_eq hq]
  simp
theorem knobOk_next {cs : List Pt} {l : List Knb} {j : Nat} {q r : Knb} (hq : l[j]? = some q) (hj : j ≠ 0) (hr : l[j - 1]? = some r) : knobOk cs l j = (q.one cs && r.lt q) := by
  rw [knobOk, knbAt_eq hq, knbAt_eq hr, decide_eq_false hj]
  rfl
theorem knobOk_bad {cs : List Pt} {l : List Knb} {j : Nat} {q : Knb} (hq : l[j]? = some q) (h : q.one cs = false) : knobOk cs l j = false := by
  rw [knobOk, knbAt_eq hq, h]
  rfl
theorem Knb.one_iff {cs : List Pt} {x : Knb} : x.one cs = true ↔ x.dir ≤ 5 ∧ (1 ≤ x.sort ∧ x.sort ≤ 6) ∧ hasP cs x.at_ = true ∧ hasP cs (addP x.at_ (stepS x.dir.toNat)) = false := by
  simp only [Knb.one, Bool.and_eq_true, decide_eq_true_eq, inB_iff, Bool.not_eq_true']
set_option maxRecDepth 100000 in
set_option maxHeartbeats 16000000 in
theorem checkKind_c (cells : List Pt) (knobs : List Knb) (wt : Int) (A : Option Addr) (ca : Nat) (B : Option Addr) (cb : Nat) (w : World) (hc : Cells w A ca cells) (hn : Knobs w B cb knobs) :
    Calls Tryz.prog 24 #[.agg #[.slice A cells.length ca, .slice B knobs.length cb, .int .i64 wt]] w fun e w' => e = .returned (.int .i64 (kindErr ⟨cells, knobs, wt⟩)) ∧ Ext w w' := by
  have hl1 : cells.length ≤ 9223372036854775807 := by have := hc.len; unfold maxLen at this; omega
  have hl2 : knobs.length ≤ 9223372036854775807 := by have := hn.len; unfold maxLen at this; omega
  obtain ⟨W1, hW1, E1, B1, hz1⟩ := mk_ w #[.slice A cells.length ca, .slice B knobs.length cb, .int .i64 wt] 74
  have b1 := B1.cell
  by_cases a1 : (cells.length : Int) < 1
  · have Hb := Lib.hid (kindErr_bad (k := ⟨cells, knobs, wt⟩) (valid_bad0 (by
      rw [← Bool.not_eq_true, sized_iff]
      show ¬ ((1 ≤ cells.length ∧ cells.length ≤ 24) ∧ knobs.length ≤ 48 ∧ 1 ≤ wt ∧ wt ≤ 100)
      omega)))
    go_enter Tryz.func24, Tryz.ntmps24
    go_wp2_with fail
    go_ret
    exact ⟨by rw [Hb.out]; rfl, E1⟩
  by_cases a2 : (24 : Int) < cells.length
  · have Hb := Lib.hid (kindErr_bad (k := ⟨cells, knobs, wt⟩) (valid_bad0 (by
      rw [← Bool.not_eq_true, sized_iff]
      show ¬ ((1 ≤ cells.length ∧ cells.length ≤ 24) ∧ knobs.length ≤ 48 ∧ 1 ≤ wt ∧ wt ≤ 100)
      omega)))
    go_enter Tryz.func24, Tryz.ntmps24
    go_wp2_with fail
    go_ret
    exact ⟨by rw [Hb.out]; rfl, E1⟩
  by_cases a3 : (48 : Int) < knobs.length
  · have Hb := Lib.hid (kindErr_bad (k := ⟨cells, knobs, wt⟩) (valid_bad0 (by
      rw [← Bool.not_eq_true, sized_iff]
      show ¬ ((1 ≤ cells.length ∧ cells.length ≤ 24) ∧ knobs.length ≤ 48 ∧ 1 ≤ wt ∧ wt ≤ 100)
      omega)))
    go_enter Tryz.func24, Tryz.ntmps24
    go_wp2_with fail
    go_ret
    exact ⟨by rw [Hb.out]; rfl, E1⟩
  by_cases a4 : wt < 1
  · have Hb := Lib.hid (kindErr_bad (k := ⟨cells, knobs, wt⟩) (valid_bad0 (by
      rw [← Bool.not_eq_true, sized_iff]
      show ¬ ((1 ≤ cells.length ∧ cells.length ≤ 24) ∧ knobs.length ≤ 48 ∧ 1 ≤ wt ∧ wt ≤ 100)
      omega)))
    go_enter Tryz.func24, Tryz.ntmps24
    go_wp2_with fail
    go_ret
    exact ⟨by rw [Hb.out]; rfl, E1⟩
  by_cases a5 : 100 < wt
  · have Hb := Lib.hid (kindErr_bad (k := ⟨cells, knobs, wt⟩) (valid_bad0 (by
      rw [← Bool.not_eq_true, sized_iff]
      show ¬ ((1 ≤ cells.length ∧ cells.length ≤ 24) ∧ knobs.length ≤ 48 ∧ 1 ≤ wt ∧ wt ≤ 100)
      omega)))
    go_enter Tryz.func24, Tryz.ntmps24
    go_wp2_with fail
    go_ret
    exact ⟨by rw [Hb.out]; rfl, E1⟩
  have Hs := Lib.hid ((sized_iff (k := ⟨cells, knobs, wt⟩)).2 ⟨⟨by show 1 ≤ cells.length; omega, by show cells.length ≤ 24; omega⟩, by show knobs.length ≤ 48; omega, by show 1 ≤ wt; omega, by show wt ≤ 100; omega⟩)
  go_enter Tryz.func24, Tryz.ntmps24
  go_wp2_with fail
  clear hW1 hz1 a1 a4 a5
  go_loopw [36] (fun i wr => ∃ j : Nat, j ≤ cells.length ∧ i = .int .i64 j ∧ Ext w wr ∧ Blk wr w.heap.size 74 #[.slice A cells.length ca, .slice B knobs.length cb, .int .i64 wt] ∧ Hid (∀ i, i < j → cellOk cells i = true)) (fun i _ => cells.length - (intOf i).toNat)
  case atStart => exact ⟨0, by omega, rfl, E1, B1, Lib.hid (fun i hi => by omega)⟩
  case round =>
    obtain ⟨j, hj, rfl, E, BK, Hj⟩ := hrel
    clear b1 B1 E1
    have b1 := BK.cell
    by_cases hlt : j < cells.length
    · obtain ⟨g, off, q, rfl, hq, hg, c0, c1, c2⟩ := hc.at_ hlt
      have d0 := E.cell c0
      have d1 := E.cell c1
      have d2 := E.cell c2
      clear c0 c1 c2
      have Hq := Lib.hid hq
      clear hq
      have i1 : (0 : Int) ≤ j := by omega
      have i2 : (j : Int) < cells.length := by omega
      obtain ⟨W4, hW4, E4, B4, hz4⟩ := mk_ wr #[.int .i64 q.x, .int .i64 q.y, .int .i64 q.z] 53
      have b4 := B4.cell
      cases hnr : nearB ⟨q.x, q.y, q.z⟩ 0 15
      · have Hb := Lib.hid (kindErr_bad (k := ⟨cells, knobs, wt⟩) (valid_bad1 (allR_bad hlt (cellOk_near Hq.out hnr))))
        have N := fun W => near_is hnr W
        clear hnr
        go_upto_region 6 with (fail)
        refine wp_region_grow (by kernel_rfl) (by kernel_rfl) ?_
        repeat (go_big_quiet_step (((go_at_call 39; exact quiet_ext (N _)))))
        refine wpQuiet_nil ?_
        intro W5 hW5
        have E5 : Ext W4 W5 := by
          obtain ⟨x, rfl⟩ := hW5
          exact (Ext.refl _).grow x
        clear hW5
        obtain ⟨hcW5, hfW5, hzW5⟩ := ext_facts E5
        go_wp2_with fail
        go_ret
        exact ⟨by rw [Hb.out]; rfl, (E.trans E4).trans E5⟩
      · have N := fun W => near_is hnr W
        have Hnr := Lib.hid hnr
        clear hnr
        by_cases hj0 : j = 0
        · have z1 : decide ((0 : Int) < (j : Int)) = false := by simp; omega
          have z2 : decide (0 < j) = false := by simp; omega
          have hok : ∀ i, i < j + 1 → cellOk cells i = true := fun i hi => by
            obtain rfl : i = 0 := by omega
            subst hj0
            exact cellOk_zero Hq.out Hnr.out
          have Hok := Lib.hid hok
          clear hok hj0
          go_upto_region 6 with (fail)
          refine wp_region_grow (by kernel_rfl) (by kernel_rfl) ?_
          repeat (go_big_quiet_step (((go_at_call 39; exact quiet_ext (N _)))))
          refine wpQuiet_nil ?_
          intro W5 hW5
          have E5 : Ext W4 W5 := by
            obtain ⟨x, rfl⟩ := hW5
            exact (Ext.refl _).grow x
          clear hW5
          obtain ⟨hcW5, hfW5, hzW5⟩ := ext_facts E5
          go_wp2_with fail
          go_roundw
          case rel => exact ⟨j + 1, by omega, by go_num, (E.trans E4).trans E5, (BK.ext E4).ext E5, Hok⟩
          case measure => simp only [intOf]; omega
        · obtain ⟨g', off', r, hA', hr, hg', p0, p1, p2⟩ := (hc.ext (E.trans E4)).at_ (k := j - 1) (by omega)
          cases hA'
          have Hr := Lib.hid hr
          clear hr
          have z1 : decide ((0 : Int) < (j : Int)) = true := by simp; omega
          have z2 : decide (0 < j) = true := by simp; omega
          have hkc : (((j - 1 : Nat) : Nat) : Int) = (j : Int) - 1 := by omega
          have ht : ((j : Int) - 1).toNat = j - 1 := by omega
          have hk1 : (1 : Int) ≤ j := by omega
          have b1' := (BK.ext E4).cell
          have hok : cellOk cells j = ltP r q := cellOk_next Hq.out Hnr.out hj0 Hr.out
          have Hok := Lib.hid hok
          clear hok
          rcases ordP_cases r q with ⟨hl, ho⟩ | ⟨hl, ho⟩ | ⟨hl, ho⟩
          · have Hl := Lib.hid hl
            clear hl
            have O := fun W => order_is (a := r.x) (b := r.y) (c := r.z) (d := q.x) (e := q.y) (f := q.z) ho W
            clear ho
            go_upto_region 6 with (fail)
            refine wp_region_grow (by kernel_rfl) (by kernel_rfl) ?_
            repeat (go_big_quiet_step ((first | (go_at_call 39; exact quiet_ext (N _)) | (go_at_call 48; exact quiet_ext (O _)))))
            refine wpQuiet_nil ?_
            intro W5 hW5
            have E5 : Ext W4 W5 := by
              obtain ⟨x, rfl⟩ := hW5
              exact (Ext.refl _).grow x
            clear hW5
            obtain ⟨hcW5, hfW5, hzW5⟩ := ext_facts E5
            go_wp2_with fail
            go_roundw
            case rel => exact ⟨j + 1, by omega, by go_num, (E.trans E4).trans E5, (BK.ext E4).ext E5, Lib.hid (fun i hi => by
              rcases Nat.lt_or_ge i j with h' | h'
              · exact Hj.out i h'
              · obtain rfl : i = j := by omega
                rw [Hok.out, Hl.out])⟩
            case measure => simp only [intOf]; omega
          · have Hb := Lib.hid (kindErr_bad (k := ⟨cells, knobs, wt⟩) (valid_bad1 (allR_bad hlt (by rw [Hok.out, hl, ltP_irrefl]))))
            clear hl
            have O := fun W => order_is (a := r.x) (b := r.y) (c := r.z) (d := q.x) (e := q.y) (f := q.z) ho W
            clear ho
            go_upto_region 6 with (fail)
            refine wp_region_grow (by kernel_rfl) (by kernel_rfl) ?_
            repeat (go_big_quiet_step ((first | (go_at_call 39; exact quiet_ext (N _)) | (go_at_call 48; exact quiet_ext (O _)))))
            refine wpQuiet_nil ?_
            intro W5 hW5
            have E5 : Ext W4 W5 := by
              obtain ⟨x, rfl⟩ := hW5
              exact (Ext.refl _).grow x
            clear hW5
            obtain ⟨hcW5, hfW5, hzW5⟩ := ext_facts E5
            go_wp2_with fail
            go_ret
            exact ⟨by rw [Hb.out]; rfl, (E.trans E4).trans E5⟩
          · have Hb := Lib.hid (kindErr_bad (k := ⟨cells, knobs, wt⟩) (valid_bad1 (allR_bad hlt (by rw [Hok.out, ltP_anti hl]))))
            clear hl
            have O := fun W => order_is (a := r.x) (b := r.y) (c := r.z) (d := q.x) (e := q.y) (f := q.z) ho W
            clear ho
            go_upto_region 6 with (fail)
            refine wp_region_grow (by kernel_rfl) (by kernel_rfl) ?_
            repeat (go_big_quiet_step ((first | (go_at_call 39; exact quiet_ext (N _)) | (go_at_call 48; exact quiet_ext (O _)))))
            refine wpQuiet_nil ?_
            intro W5 hW5
            have E5 : Ext W4 W5 := by
              obtain ⟨x, rfl⟩ := hW5
              exact (Ext.refl _).grow x
            clear hW5
            obtain ⟨hcW5, hfW5, hzW5⟩ := ext_facts E5
            go_wp2_with fail
            go_ret
            exact ⟨by rw [Hb.out]; rfl, (E.trans E4).trans E5⟩
    · obtain rfl : cells.length = j := by omega
      have Hcells := Lib.hid (allR_good Hj.out)
      clear Hj
      go_wp2_with fail
      clear hlt b1
      go_loopw [63] (fun i wr => ∃ j : Nat, j ≤ knobs.length ∧ i = .int .i64 j ∧ Ext w wr ∧ Blk wr w.heap.size 74 #[.slice A cells.length ca, .slice B knobs.length cb, .int .i64 wt] ∧ Hid (∀ i, i < j → knobOk cells knobs i = true)) (fun i _ => knobs.length - (intOf i).toNat)
      case atStart => exact ⟨0, by omega, rfl, E, BK, Lib.hid (fun i hi => by omega)⟩
      case round =>
        clear E BK
        obtain ⟨j, hj, rfl, E, BK, Hj⟩ := hrel
        have b1 := BK.cell
        by_cases hlt : j < knobs.length
        · obtain ⟨g, off, ⟨⟨x, y, z⟩, dir, sort⟩, rfl, hq, ⟨⟨hd0, hd1⟩, hs0, hs1⟩, hg, c0, c1, c2, c3, c4⟩ := hn.at_ hlt
          simp only at c0 c1 c2 c3 c4 hd0 hd1 hs0 hs1
          obtain ⟨d, rfl⟩ : ∃ d : Nat, dir = d := ⟨dir.toNat, by omega⟩
          have d0 := E.cell c0
          have d1 := E.cell c1
          have d2 := E.cell c2
          have d3 := E.cell c3
          have d4 := E.cell c4
          clear c0 c1 c2 c3 c4
          have Hq := Lib.hid hq
          clear hq
          have i1 : (0 : Int) ≤ j := by omega
          have i2 : (j : Int) < knobs.length := by omega
          obtain ⟨W4, hW4, E4, B4, hz4⟩ := mk_ wr #[.int .i64 x, .int .i64 y, .int .i64 z, .int .u8 d, .int .u8 sort] 76
          have b4 := B4.cell
          have b1' := (BK.ext E4).cell
          have EE := E.trans E4
          have f1 : IntKind.i64.wrap (d : Int) = d := IntWalk.i64_in _ (by omega)
          have Hok1 : Hid (hasP cells ⟨x, y, z⟩ = true → Pt.ok ⟨x, y, z⟩) := Lib.hid fun h => by
            obtain ⟨i, hi⟩ := List.getElem?_of_mem (hasP_iff.1 h)
            have hil : i < cells.length := (List.getElem?_eq_some_iff.1 hi).1
            have := allR_at Hcells.out hil
            rw [cellOk, ptAt_eq hi, Bool.and_eq_true] at this
            exact pt_near this.1
          by_cases a1 : (5 : Int) < d
          · have Hb := Lib.hid (kindErr_bad (k := ⟨cells, knobs, wt⟩) (valid_bad2 (allR_bad hlt (knobOk_bad Hq.out (by
              rw [← Bool.not_eq_true, Knb.one_iff]
              exact fun h => by have : (d:Int) ≤ 5 := h.1; omega)))))
            go_upto_region 12 with (fail)
            refine wp_region_grow (by kernel_rfl) (by kernel_rfl) ?_
            repeat (go_big_quiet_step (fail))
            refine wpQuiet_nil ?_
            intro W5 hW5
            have E5 : Ext W4 W5 := by
              obtain ⟨x, rfl⟩ := hW5
              exact (Ext.refl _).grow x
            clear hW5
            obtain ⟨hcW5, hfW5, hzW5⟩ := ext_facts E5
            go_wp2_with fail
            go_ret
            exact ⟨by rw [Hb.out]; rfl, EE.trans E5⟩
          by_cases a2 : sort < 1
          · have Hb := Lib.hid (kindErr_bad (k := ⟨cells, knobs, wt⟩) (valid_bad2 (allR_bad hlt (knobOk_bad Hq.out (by
              rw [← Bool.not_eq_true, Knb.one_iff]
              exact fun h => by have : 1 ≤ sort := h.2.1.1; omega)))))
            go_upto_region 12 with (fail)
            refine wp_region_grow (by kernel_rfl) (by kernel_rfl) ?_
            repeat (go_big_quiet_step (fail))
            refine wpQuiet_nil ?_
            intro W5 hW5
            have E5 : Ext W4 W5 := by
              obtain ⟨x, rfl⟩ := hW5
              exact (Ext.refl _).grow x
            clear hW5
            obtain ⟨hcW5, hfW5, hzW5⟩ := ext_facts E5
            go_wp2_with fail
            go_ret
            exact ⟨by rw [Hb.out]; rfl, EE.trans E5⟩
          by_cases a3 : 6 < sort
          · have Hb := Lib.hid (kindErr_bad (k := ⟨cells, knobs, wt⟩) (valid_bad2 (allR_bad hlt (knobOk_bad Hq.out (by
              rw [← Bool.not_eq_true, Knb.one_iff]
              exact fun h => by have : sort ≤ 6 := h.2.1.2; omega)))))
            go_upto_region 12 with (fail)
            refine wp_region_grow (by kernel_rfl) (by kernel_rfl) ?_
            repeat (go_big_quiet_step (fail))
            refine wpQuiet_nil ?_
            intro W5 hW5
            have E5 : Ext W4 W5 := by
              obtain ⟨x, rfl⟩ := hW5
              exact (Ext.refl _).grow x
            clear hW5
            obtain ⟨hcW5, hfW5, hzW5⟩ := ext_facts E5
            go_wp2_with fail
            go_ret
            exact ⟨by rw [Hb.out]; rfl, EE.trans E5⟩
          cases hh : hasP cells ⟨x, y, z⟩
          · have Hb := Lib.hid (kindErr_bad (k := ⟨cells, knobs, wt⟩) (valid_bad2 (allR_bad hlt (knobOk_bad Hq.out (by
              rw [← Bool.not_eq_true, Knb.one_iff]
              exact fun h => by rw [h.2.2.1] at hh; cases hh)))))
            go_upto_region 12 with (fail)
            refine wp_region_grow (by kernel_rfl) (by kernel_rfl) ?_
            repeat (go_big_quiet_step (((go_at_call 49; exact quiet_ext (contains_c A ca cells _ _ _ _ (hc.ext (EE.grow _)))))))
            refine wpQuiet_nil ?_
            intro W5 hW5
            have E5 : Ext W4 W5 := by
              obtain ⟨x, rfl⟩ := hW5
              exact (Ext.refl _).grow x
            clear hW5
            obtain ⟨hcW5, hfW5, hzW5⟩ := ext_facts E5
            go_wp2_with fail
            go_ret
            exact ⟨by rw [Hb.out]; rfl, EE.trans E5⟩
          have hok1 := Hok1.out hh
          have Hok1' := Lib.hid hok1
          clear hok1
          cases hh2 : hasP cells ⟨x + (stepS d).x, y + (stepS d).y, z + (stepS d).z⟩
          rotate_left
          · have Hb := Lib.hid (kindErr_bad (k := ⟨cells, knobs, wt⟩) (valid_bad2 (allR_bad hlt (knobOk_bad Hq.out (by
              rw [← Bool.not_eq_true, Knb.one_iff]
              exact fun h => by rw [show hasP cells (addP ⟨x,y,z⟩ (stepS (d:Int).toNat)) = true from hh2] at h; cases h.2.2.2)))))
            go_upto_region 12 with (fail)
            refine wp_region_grow (by kernel_rfl) (by kernel_rfl) ?_
            repeat (go_big_quiet_step ((first | (go_at_call 49; exact quiet_ext (contains_c A ca cells _ _ _ _ (hc.ext (EE.grow _)))) | (go_at_call 51; exact quiet_ext (step_c d (by omega) _)) | (go_at_call 50; exact quiet_ext (plus_c _ _ _ _ _ _ _ Hok1'.out (stepS_ok d))))))
            refine wpQuiet_nil ?_
            intro W5 hW5
            have E5 : Ext W4 W5 := by
              obtain ⟨x, rfl⟩ := hW5
              exact (Ext.refl _).grow x
            clear hW5
            obtain ⟨hcW5, hfW5, hzW5⟩ := ext_facts E5
            go_wp2_with fail
            go_ret
            exact ⟨by rw [Hb.out]; rfl, EE.trans E5⟩
          have Hone := Lib.hid ((Knb.one_iff (cs := cells) (x := ⟨⟨x, y, z⟩, d, sort⟩)).2 ⟨by show (d : Int) ≤ 5; omega, ⟨by show 1 ≤ sort; omega, by show sort ≤ 6; omega⟩, hh, hh2⟩)
          by_cases hj0 : j = 0
          · have z1 : decide ((0 : Int) < (j : Int)) = false := by simp; omega
            have z2 : decide (0 < j) = false := by simp; omega
            have hok : ∀ i, i < j + 1 → knobOk cells knobs i = true := fun i hi => by
              obtain rfl : i = 0 := by omega
              subst hj0
              rw [knobOk_zero Hq.out]
              exact Hone.out
            have Hok := Lib.hid hok
            clear hok hj0
            go_upto_region 12 with (fail)
            refine wp_region_grow (by kernel_rfl) (by kernel_rfl) ?_
            repeat (go_big_quiet_step ((first | (go_at_call 49; exact quiet_ext (contains_c A ca cells _ _ _ _ (hc.ext (EE.grow _)))) | (go_at_call 51; exact quiet_ext (step_c d (by omega) _)) | (go_at_call 50; exact quiet_ext (plus_c _ _ _ _ _ _ _ Hok1'.out (stepS_ok d))))))
            refine wpQuiet_nil ?_
            intro W5 hW5
            have E5 : Ext W4 W5 := by
              obtain ⟨x, rfl⟩ := hW5
              exact (Ext.refl _).grow x
            clear hW5
            obtain ⟨hcW5, hfW5, hzW5⟩ := ext_facts E5
            go_upto_region 14 with (fail)
            refine wp_region_tail 23 (by kernel_rfl) (by kernel_rfl) ?_
            simp only [List.take_succ_cons, List.take_zero, List.drop_succ_cons, List.drop_zero]
            repeat (go_big_quiet_step (fail))
            refine wpQuiet_nil ?_
            intro W6 hW6
            have E6 : Ext W5 W6 := by
              obtain ⟨x, rfl⟩ := hW6
              exact (Ext.refl _).grow x
            clear hW6
            obtain ⟨hcW6, hfW6, hzW6⟩ := ext_facts E6
            go_wp2_with fail
            go_roundw
            case rel => exact ⟨j + 1, by omega, by go_num, (EE.trans E5).trans E6, ((BK.ext E4).ext E5).ext E6, Hok⟩
            case measure => simp only [intOf]; omega
          · obtain ⟨g', off', ⟨⟨rx, ry, rz⟩, rdir, rsort⟩, hA', hr, -, hg', p0, p1, p2, p3, -⟩ := (hn.ext EE).at_ (k := j - 1) (by omega)
            cases hA'
            simp only at p0 p1 p2 p3
            have Hr := Lib.hid hr
            clear hr
            have z1 : decide ((0 : Int) < (j : Int)) = true := by simp; omega
            have z2 : decide (0 < j) = true := by simp; omega
            have hkc : (((j - 1 : Nat) : Nat) : Int) = (j : Int) - 1 := by omega
            have ht : ((j : Int) - 1).toNat = j - 1 := by omega
            have hk1 : (1 : Int) ≤ j := by omega
            have hok : knobOk cells knobs j = Knb.lt ⟨⟨rx, ry, rz⟩, rdir, rsort⟩ ⟨⟨x, y, z⟩, d, sort⟩ := by rw [knobOk_next Hq.out hj0 Hr.out, Hone.out, Bool.true_and]
            have Hok := Lib.hid hok
            clear hok
            obtain ⟨r, hr⟩ : ∃ r, Knb.lt ⟨⟨rx, ry, rz⟩, rdir, rsort⟩ ⟨⟨x, y, z⟩, d, sort⟩ = r := ⟨_, rfl⟩
            have ho := knobLt_or ⟨⟨rx, ry, rz⟩, rdir, rsort⟩ ⟨⟨x, y, z⟩, d, sort⟩
            rw [hr] at ho
            simp only at ho
            have Hr' := Lib.hid hr
            clear hr
            cases r
            · have Hb := Lib.hid (kindErr_bad (k := ⟨cells, knobs, wt⟩) (valid_bad2 (allR_bad hlt (by rw [Hok.out, Hr'.out]))))
              go_upto_region 12 with (fail)
              refine wp_region_grow (by kernel_rfl) (by kernel_rfl) ?_
              repeat (go_big_quiet_step ((first | (go_at_call 49; exact quiet_ext (contains_c A ca cells _ _ _ _ (hc.ext (EE.grow _)))) | (go_at_call 51; exact quiet_ext (step_c d (by omega) _)) | (go_at_call 50; exact quiet_ext (plus_c _ _ _ _ _ _ _ Hok1'.out (stepS_ok d))))))
              refine wpQuiet_nil ?_
              intro W5 hW5
              have E5 : Ext W4 W5 := by
                obtain ⟨x, rfl⟩ := hW5
                exact (Ext.refl _).grow x
              clear hW5
              obtain ⟨hcW5, hfW5, hzW5⟩ := ext_facts E5
              go_upto_region 14 with (fail)
              refine wp_region_tail 23 (by kernel_rfl) (by kernel_rfl) ?_
              simp only [List.take_succ_cons, List.take_zero, List.drop_succ_cons, List.drop_zero]
              repeat (go_big_quiet_step ((first | (go_at_call 48; exact quiet_ext (order_c _ _ _ _ _ _ _)) | (go_at_call 52; exact quiet_grow_same (cmpU_c _ _ _)))))
              refine wpQuiet_nil ?_
              intro W6 hW6
              have E6 : Ext W5 W6 := by
                obtain ⟨x, rfl⟩ := hW6
                exact (Ext.refl _).grow x
              clear hW6
              obtain ⟨hcW6, hfW6, hzW6⟩ := ext_facts E6
              go_wp2_with fail
              refine (or2_c _ _ _ _).mono ?_
              rintro v w4 ⟨rfl, rfl⟩
              go_wp2_with fail
              go_ret
              exact ⟨by rw [Hb.out]; rfl, ((EE.trans E5).trans E6).alloc _⟩
            · go_upto_region 12 with (fail)
              refine wp_region_grow (by kernel_rfl) (by kernel_rfl) ?_
              repeat (go_big_quiet_step ((first | (go_at_call 49; exact quiet_ext (contains_c A ca cells _ _ _ _ (hc.ext (EE.grow _)))) | (go_at_call 51; exact quiet_ext (step_c d (by omega) _)) | (go_at_call 50; exact quiet_ext (plus_c _ _ _ _ _ _ _ Hok1'.out (stepS_ok d))))))
              refine wpQuiet_nil ?_
              intro W5 hW5
              have E5 : Ext W4 W5 := by
                obtain ⟨x, rfl⟩ := hW5
                exact (Ext.refl _).grow x
              clear hW5
              obtain ⟨hcW5, hfW5, hzW5⟩ := ext_facts E5
              go_upto_region 14 with (fail)
              refine wp_region_tail 23 (by kernel_rfl) (by kernel_rfl) ?_
              simp only [List.take_succ_cons, List.take_zero, List.drop_succ_cons, List.drop_zero]
              repeat (go_big_quiet_step ((first | (go_at_call 48; exact quiet_ext (order_c _ _ _ _ _ _ _)) | (go_at_call 52; exact quiet_grow_same (cmpU_c _ _ _)))))
              refine wpQuiet_nil ?_
              intro W6 hW6
              have E6 : Ext W5 W6 := by
                obtain ⟨x, rfl⟩ := hW6
                exact (Ext.refl _).grow x
              clear hW6
              obtain ⟨hcW6, hfW6, hzW6⟩ := ext_facts E6
              go_wp2_with fail
              refine (or2_c _ _ _ _).mono ?_
              rintro v w4 ⟨rfl, rfl⟩
              go_wp2_with fail
              go_roundw
              case rel => exact ⟨j + 1, by omega, by go_num, ((EE.trans E5).trans E6).alloc _, (((BK.ext E4).ext E5).ext E6).alloc _, Lib.hid (fun i hi => by
                rcases Nat.lt_or_ge i j with h' | h'
                · exact Hj.out i h'
                · obtain rfl : i = j := by omega
                  rw [Hok.out, Hr'.out])⟩
              case measure => simp only [intOf]; omega
        · obtain rfl : knobs.length = j := by omega
          have Hg := Lib.hid (kindErr_good (valid_good (k := ⟨cells, knobs, wt⟩) Hs.out Hcells.out (allR_good Hj.out)))
          go_wp2_with fail
          go_ret
          exact ⟨by rw [Hg.out]; rfl, E⟩
end Go.Proofs.YtaaeapjnjjbglaaGreatDoor.Lat
namespace Go.Proofs.YtaaeapjnjjbglaaGreatDoor.Lat
open Go.RowKit

theorem cells_ok {cells : List Pt} (h : cellsB cells = true) {p : Pt} (hp : p ∈ cells) : p.ok := by
  obtain ⟨i, hi⟩ := List.getElem?_of_mem hp
  have hil : i < cells.length := (List.getElem?_eq_some_iff.1 hi).1
  have := allR_at h hil
  rw [cellOk, ptAt_eq hi, Bool.and_eq_true] at this
  exact pt_near this.1
end Go.Proofs.YtaaeapjnjjbglaaGreatDoor.Lat
namespace Go.Proofs.YtaaeapjnjjbglaaGreatDoor.Lat
open Go.RowKit

theorem checkKind_is {cells : List Pt} {knobs : List Knb} {wt r : Int} (h : kindErr ⟨cells, knobs, wt⟩ = r) {A : Option Addr} {ca : Nat} {B : Option Addr} {cb : Nat} {w : World} (hc : Cells w A ca cells) (hn : Knobs w B cb knobs) :
    Calls Tryz.prog 24 #[.agg #[.slice A cells.length ca, .slice B knobs.length cb, .int .i64 wt]] w fun e w' => e = .returned (.int .i64 r) ∧ Ext w w' := by
  subst h
  exact checkKind_c _ _ _ _ _ _ _ _ hc hn

/-! Lists of kinds. -/
theorem kindAt_eq {qs : List (Knd × KAt)} {j : Nat} {k : Knd} {p : KAt} (h : qs[j]? = some (k, p)) : kindAt (qs.map (·.1)) j = k := by simp [kindAt, h]
theorem kindsErr_bad {l : List Knd} {j : Nat} (hl : ¬ 16 < l.length) (hj : j < l.length) (h : (kindAt l j).valid = false) : kindsErr l = 10 := by
  rw [kindsErr, if_neg hl, allR_bad hj h]
  rfl
theorem kindsErr_good {l : List Knd} (hl : ¬ 16 < l.length) (h : ∀ j, j < l.length → (kindAt l j).valid = true) : kindsErr l = 0 := by
  rw [kindsErr, if_neg hl, allR_good h]
  rfl
set_option maxHeartbeats 3200000 in
theorem checkKinds_c (qs : List (Knd × KAt)) (A : Option Addr) (cap : Nat) (w : World) (hk : Kinds w A cap qs) :
    Calls Tryz.prog 9 #[.slice A qs.length cap] w fun e w' => e = .returned (.int .i64 (kindsErr (qs.map (·.1)))) ∧ Ext w w' := by
  have hl1 : qs.length ≤ 9223372036854775807 := by have := hk.len; unfold maxLen at this; omega
  have hml : (qs.map (·.1)).length = qs.length := List.length_map _
  by_cases a1 : (16 : Int) < qs.length
  · have Hb := Lib.hid (show kindsErr (qs.map (·.1)) = 4 by rw [kindsErr, if_pos (by rw [hml]; omega)])
    clear hml
    go_enter Tryz.func9, Tryz.ntmps9
    go_wp2_with fail
    go_ret
    exact ⟨by rw [Hb.out]; rfl, Ext.refl w⟩
  have Hml := Lib.hid hml
  clear hml
  go_enter Tryz.func9, Tryz.ntmps9
  go_wp2_with fail
  go_loopw [11] (fun i wr => ∃ j : Nat, j ≤ qs.length ∧ i = .int .i64 j ∧ Ext w wr ∧ Hid (∀ i, i < j → (kindAt (qs.map (·.1)) i).valid = true)) (fun i _ => qs.length - (intOf i).toNat)
  case atStart => exact ⟨0, by omega, rfl, Ext.refl w, Lib.hid (fun i hi => by omega)⟩
  case round =>
    obtain ⟨j, hj, rfl, E, Hj⟩ := hrel
    by_cases hlt : j < qs.length
    · obtain ⟨g, off, ⟨kc, kn, kw⟩, ⟨KA, kca, KB, kcb⟩, rfl, hq, ⟨hkc, hkn⟩, hg, c0, c1, c2⟩ := (hk.ext E).at_ hlt
      simp only at c0 c1 c2 hkc hkn
      have Hq := Lib.hid hq
      clear hq
      obtain ⟨W4, hW4, E4, B4, hz4⟩ := mk_ wr #[.slice KA kc.length kca, .slice KB kn.length kcb, .int .i64 kw] 74
      have b4 := B4.cell
      cases hv : Knd.valid ⟨kc, kn, kw⟩
      · have Hb := Lib.hid (kindsErr_bad (l := qs.map (·.1)) (by rw [Hml.out]; omega) (j := j) (by rw [Hml.out]; omega) (by rw [kindAt_eq Hq.out]; exact hv))
        have HV := Lib.hid (fun W (EW : Ext wr W) => checkKind_is (kindErr_bad hv) (hkc.ext EW) (hkn.ext EW))
        clear hv
        go_wp2_with fail
        refine (HV.out _ E4).mono ?_
        rintro v w2 ⟨rfl, E2⟩
        go_wp2_with fail
        go_ret
        exact ⟨by rw [Hb.out]; rfl, (E.trans E4).trans E2⟩
      · have hok : ∀ i, i < j + 1 → (kindAt (qs.map (·.1)) i).valid = true := fun i hi => by
          rcases Nat.lt_or_ge i j with h' | h'
          · exact Hj.out i h'
          · obtain rfl : i = j := by omega
            rw [kindAt_eq Hq.out]
            exact hv
        have Hok := Lib.hid hok
        have HV := Lib.hid (fun W (EW : Ext wr W) => checkKind_is (kindErr_good hv) (hkc.ext EW) (hkn.ext EW))
        clear hv hok
        go_wp2_with fail
        refine (HV.out _ E4).mono ?_
        rintro v w2 ⟨rfl, E2⟩
        go_wp2_with fail
        go_roundw
        case rel => exact ⟨j + 1, by omega, by go_num, (E.trans E4).trans E2, Hok⟩
        case measure => simp only [intOf]; omega
    · obtain rfl : qs.length = j := by omega
      have Hg := Lib.hid (kindsErr_good (l := qs.map (·.1)) (by rw [Hml.out]; omega) (by rw [Hml.out]; exact Hj.out))
      go_wp2_with fail
      go_ret
      exact ⟨by rw [Hg.out]; rfl, E⟩
end Go.Proofs.YtaaeapjnjjbglaaGreatDoor.Lat
namespace Go.Proofs.YtaaeapjnjjbglaaGreatDoor.Lat
open Go.RowKit

structure Brk where
  kind : Int
  at_ : Pt
  turn : Int
  color : Int
def Brk.v (b : Brk) : Value := .agg #[.int .i64 b.kind, .int .i64 b.at_.x, .int .i64 b.at_.y, .int .i64 b.at_.z, .int .u8 b.turn, .int .u8 b.color]
def Brk.cs (b : Brk) : List Value := [.int .i64 b.kind, .int .i64 b.at_.x, .int .i64 b.at_.y, .int .i64 b.at_.z, .int .u8 b.turn, .int .u8 b.color]
def Brk.byte (b : Brk) : Prop := (0 ≤ b.turn ∧ b.turn ≤ 255) ∧ 0 ≤ b.color ∧ b.color ≤ 255
def Brk.ok (n : Nat) (b : Brk) : Bool := decide (0 ≤ b.kind) && (decide (b.kind < n) && (nearB b.at_ (-1000) 1000 && (decide (b.turn < 24) && decide (b.color ≤ 15))))
theorem Brk.ok_iff {n : Nat} {b : Brk} : b.ok n = true ↔ 0 ≤ b.kind ∧ b.kind < n ∧ nearB b.at_ (-1000) 1000 = true ∧ b.turn < 24 ∧ b.color ≤ 15 := by
  simp only [Brk.ok, Bool.and_eq_true, decide_eq_true_eq]
theorem Brk.ok_not {n : Nat} {b : Brk} (h : ¬ (0 ≤ b.kind ∧ b.kind < n ∧ nearB b.at_ (-1000) 1000 = true ∧ b.turn < 24 ∧ b.color ≤ 15)) : b.ok n = false := by
  rw [← Bool.not_eq_true, Brk.ok_iff]
  exact h
def Bricks (w : World) (A : Option Addr) (cap : Nat) (l : List Brk) : Prop := SliceIs w A l.length cap 6 (l.map Brk.cs) ∧ ∀ b ∈ l, b.byte
theorem Bricks.ext {w w' : World} {A : Option Addr} {cap : Nat} {l : List Brk} (h : Bricks w A cap l) (e : Ext w w') : Bricks w' A cap l := ⟨SliceIs.ext h.1 e, h.2⟩
theorem Bricks.len {w : World} {A : Option Addr} {cap : Nat} {l : List Brk} (h : Bricks w A cap l) : l.length ≤ maxLen := Nat.le_trans h.1.le h.1.small
theorem Bricks.at_ {w : World} {A : Option Addr} {cap : Nat} {l : List Brk} (h : Bricks w A cap l) {k : Nat} (hk : k < l.length) :
    ∃ b off p, A = some ⟨b, off, none⟩ ∧ l[k]? = some p ∧ p.byte ∧ b < w.heap.size ∧ w.cell? ⟨b, off + k * 6, none⟩ = some (.int .i64 p.kind) ∧ w.cell? ⟨b, off + k * 6 + 1, none⟩ = some (.int .i64 p.at_.x) ∧
      w.cell? ⟨b, off + k * 6 + 2, none⟩ = some (.int .i64 p.at_.y) ∧ w.cell? ⟨b, off + k * 6 + 3, none⟩ = some (.int .i64 p.at_.z) ∧ w.cell? ⟨b, off + k * 6 + 4, none⟩ = some (.int .u8 p.turn) ∧ w.cell? ⟨b, off + k * 6 + 5, none⟩ = some (.int .u8 p.color) := by
  obtain ⟨b, off, hA, hb, hc⟩ := SliceIs.cells h.1 (by omega)
  have hget : l[k]? = some l[k] := List.getElem?_eq_getElem hk
  have hr : (l.map Brk.cs)[k]? = some l[k].cs := by rw [List.getElem?_map, hget]; rfl
  exact ⟨b, off, l[k], hA, hget, h.2 _ (List.getElem_mem hk), hb, hc k _ hr 0 _ rfl, hc k _ hr 1 _ rfl, hc k _ hr 2 _ rfl, hc k _ hr 3 _ rfl, hc k _ hr 4 _ rfl, hc k _ hr 5 _ rfl⟩
set_option maxHeartbeats 1600000 in
theorem valid_c (n cap : Nat) (A : Option Addr) (k x y z t c : Int) (w : World) (hn0 : n ≤ maxLen) :
    Calls Tryz.prog 78 #[.slice A n cap, .agg #[.int .i64 k, .int .i64 x, .int .i64 y, .int .i64 z, .int .u8 t, .int .u8 c]] w fun e w' => e = .returned (.bool (Brk.ok n ⟨k, ⟨x, y, z⟩, t, c⟩)) ∧ Ext w w' := by
  have hn := hn0
  unfold maxLen at hn
  obtain ⟨W1, hW1, E1, B1, hz1⟩ := mk_ w #[.int .i64 k, .int .i64 x, .int .i64 y, .int .i64 z, .int .u8 t, .int .u8 c] 60
  have b1 := B1.cell
  by_cases a1 : 0 ≤ k
  rotate_left
  · have Hb := Lib.hid (show Brk.ok n ⟨k, ⟨x, y, z⟩, t, c⟩ = false from Brk.ok_not (by
      show ¬ (0 ≤ k ∧ k < n ∧ _ ∧ t < 24 ∧ c ≤ 15)
      omega))
    go_enter Tryz.func78, Tryz.ntmps78
    go_wp2_with fail
    go_ret
    exact ⟨by rw [Hb.out]; rfl, E1⟩
  by_cases a2 : k < n
  rotate_left
  · have Hb := Lib.hid (show Brk.ok n ⟨k, ⟨x, y, z⟩, t, c⟩ = false from Brk.ok_not (by
      show ¬ (0 ≤ k ∧ k < n ∧ _ ∧ t < 24 ∧ c ≤ 15)
      omega))
    go_enter Tryz.func78, Tryz.ntmps78
    go_wp2_with fail
    go_ret
    exact ⟨by rw [Hb.out]; rfl, E1⟩
  cases hr : nearB ⟨x, y, z⟩ (-1000) 1000
  · have Hb := Lib.hid (show Brk.ok n ⟨k, ⟨x, y, z⟩, t, c⟩ = false from Brk.ok_not (by
      rw [show (Brk.mk k ⟨x, y, z⟩ t c).at_ = ⟨x, y, z⟩ from rfl, hr]
      exact fun h => by cases h.2.2.1))
    go_enter Tryz.func78, Tryz.ntmps78
    go_wp2_with fail
    refine (near_is hr _).mono ?_
    rintro v w2 ⟨rfl, E2⟩
    go_wp2_with fail
    go_ret
    exact ⟨by rw [Hb.out]; rfl, E1.trans E2⟩
  by_cases a3 : t < 24
  rotate_left
  · have Hb := Lib.hid (show Brk.ok n ⟨k, ⟨x, y, z⟩, t, c⟩ = false from Brk.ok_not (by
      show ¬ (0 ≤ k ∧ k < n ∧ _ ∧ t < 24 ∧ c ≤ 15)
      omega))
    go_enter Tryz.func78, Tryz.ntmps78
    go_wp2_with fail
    refine (near_is hr _).mono ?_
    rintro v w2 ⟨rfl, E2⟩
    have b2 := (B1.ext E2).cell
    go_wp2_with fail
    go_ret
    exact ⟨by rw [Hb.out]; rfl, E1.trans E2⟩
  by_cases a4 : c ≤ 15
  rotate_left
  · have Hb := Lib.hid (show Brk.ok n ⟨k, ⟨x, y, z⟩, t, c⟩ = false from Brk.ok_not (by
      show ¬ (0 ≤ k ∧ k < n ∧ _ ∧ t < 24 ∧ c ≤ 15)
      omega))
    have d4 : decide (c ≤ 15) = false := by simp; omega
    go_enter Tryz.func78, Tryz.ntmps78
    go_wp2_with fail
    refine (near_is hr _).mono ?_
    rintro v w2 ⟨rfl, E2⟩
    have b2 := (B1.ext E2).cell
    go_wp2_with fail
    go_ret
    exact ⟨by rw [Hb.out]; rfl, E1.trans E2⟩
  · have Hb := Lib.hid (show Brk.ok n ⟨k, ⟨x, y, z⟩, t, c⟩ = true from Brk.ok_iff.2 ⟨a1, a2, hr, a3, a4⟩)
    go_enter Tryz.func78, Tryz.ntmps78
    go_wp2_with fail
    refine (near_is hr _).mono ?_
    rintro v w2 ⟨rfl, E2⟩
    have b2 := (B1.ext E2).cell
    go_wp2_with fail
    go_ret
    exact ⟨by rw [Hb.out]; rfl, E1.trans E2⟩
theorem valid_is {n cap : Nat} {A : Option Addr} {k x y z t c : Int} {r : Bool} (h : Brk.ok n ⟨k, ⟨x, y, z⟩, t, c⟩ = r) (w : World) (hn : n ≤ maxLen) :
    Calls Tryz.prog 78 #[.slice A n cap, .agg #[.int .i64 k, .int .i64 x, .int .i64 y, .int .i64 z, .int .u8 t, .int .u8 c]] w fun e w' => e = .returned (.bool r) ∧ Ext w w' := by
  subst h
  exact valid_c _ _ _ _ _ _ _ _ _ _ hn
/-! The error of kinds and bricks. -/
def brkAt (l : List Brk) (i : Nat) : Brk := l.getD i ⟨0, ⟨0, 0, 0⟩, 0, 0⟩
theorem brkAt_eq {l : List Brk} {k : Nat} {p : Brk} (h : l[k]? = some p) : brkAt l k = p := by simp [brkAt, h]
def bricksB (n : Nat) (bs : List Brk) : Bool := allR bs.length fun i => (brkAt bs i).ok n
def askedErr (ks : List Knd) (bs : List Brk) : Int := if kindsErr ks = 0 then (if bricksB ks.length bs then 0 else 11) else kindsErr ks
theorem askedErr_kinds {ks : List Knd} {bs : List Brk} (h : kindsErr ks ≠ 0) : askedErr ks bs = kindsErr ks := if_neg h
theorem askedErr_bad {ks : List Knd} {bs : List Brk} (h : kindsErr ks = 0) {j : Nat} (hj : j < bs.length) (hb : (brkAt bs j).ok ks.length = false) : askedErr ks bs = 11 := by
  rw [askedErr, if_pos h, bricksB, allR_bad hj hb]
  rfl
theorem askedErr_good {ks : List Knd} {bs : List Brk} (h : kindsErr ks = 0) (hb : ∀ j, j < bs.length → (brkAt bs j).ok ks.length = true) : askedErr ks bs = 0 := by
  rw [askedErr, if_pos h, bricksB, allR_good hb]
  rfl
theorem kindsErr_ge (l : List Knd) : kindsErr l = 0 ∨ kindsErr l = 4 ∨ kindsErr l = 10 := by
  unfold kindsErr
  split
  · exact Or.inr (Or.inl rfl)
  · split
    · exact Or.inl rfl
    · exact Or.inr (Or.inr rfl)
theorem checkKinds_is {qs : List (Knd × KAt)} {A : Option Addr} {cap : Nat} {r : Int} (h : kindsErr (qs.map (·.1)) = r) {w : World} (hk : Kinds w A cap qs) :
    Calls Tryz.prog 9 #[.slice A qs.length cap] w fun e w' => e = .returned (.int .i64 r) ∧ Ext w w' := by
  subst h
  exact checkKinds_c _ _ _ _ hk
set_option maxHeartbeats 3200000 in
theorem check_c (qs : List (Knd × KAt)) (A : Option Addr) (cap : Nat) (bs : List Brk) (B : Option Addr) (cb : Nat) (w : World) (hk : Kinds w A cap qs) (hb : Bricks w B cb bs) :
    Calls Tryz.prog 56 #[.slice A qs.length cap, .slice B bs.length cb] w fun e w' => e = .returned (.int .i64 (askedErr (qs.map (·.1)) bs)) ∧ Ext w w' := by
  have hl1 : qs.length ≤ maxLen := hk.len
  have hl2 : bs.length ≤ 9223372036854775807 := by have := hb.len; unfold maxLen at this; omega
  obtain ⟨r, hr⟩ : ∃ r, kindsErr (qs.map (·.1)) = r := ⟨_, rfl⟩
  by_cases h0 : r = 0
  rotate_left
  · have Hb := Lib.hid (show askedErr (qs.map (·.1)) bs = r by rw [askedErr_kinds (by rw [hr]; exact h0), hr])
    have CK := checkKinds_is hr hk
    have h1 : (r != 0) = true := by simpa using h0
    clear hr h0
    go_enter Tryz.func56, Tryz.ntmps56
    go_wp2_with fail
    refine CK.mono ?_
    rintro v w2 ⟨rfl, E2⟩
    go_wp2_with fail
    go_ret
    exact ⟨by rw [Hb.out]; rfl, E2⟩
  subst h0
  have CK := checkKinds_is hr hk
  have Hr := Lib.hid hr
  clear hr
  have Hml := Lib.hid (show (qs.map (·.1)).length = qs.length from List.length_map _)
  go_enter Tryz.func56, Tryz.ntmps56
  go_wp2_with fail
  refine CK.mono ?_
  rintro v w2 ⟨rfl, E2⟩
  go_wp2_with fail
  go_loopw [15] (fun i wr => ∃ j : Nat, j ≤ bs.length ∧ i = .int .i64 j ∧ Ext w wr ∧ Hid (∀ i, i < j → (brkAt bs i).ok qs.length = true)) (fun i _ => bs.length - (intOf i).toNat)
  case atStart => exact ⟨0, by omega, rfl, E2, Lib.hid (fun i hi => by omega)⟩
  case round =>
    clear E2
    obtain ⟨j, hj, rfl, E, Hj⟩ := hrel
    by_cases hlt : j < bs.length
    · obtain ⟨g, off, ⟨k, ⟨x, y, z⟩, t, c⟩, rfl, hq, -, hg, c0, c1, c2, c3, c4, c5⟩ := (hb.ext E).at_ hlt
      simp only at c0 c1 c2 c3 c4 c5
      have Hq := Lib.hid hq
      clear hq
      obtain ⟨W4, hW4, E4, B4, hz4⟩ := mk_ wr #[.int .i64 k, .int .i64 x, .int .i64 y, .int .i64 z, .int .u8 t, .int .u8 c] 60
      have b4 := B4.cell
      cases hv : Brk.ok qs.length ⟨k, ⟨x, y, z⟩, t, c⟩
      · have Hb := Lib.hid (askedErr_bad (bs := bs) Hr.out hlt (by rw [brkAt_eq Hq.out, Hml.out]; exact hv))
        have HV := Lib.hid (fun W => valid_is (A := A) (cap := cap) hv W hl1)
        clear hv
        go_wp2_with fail
        refine (HV.out _).mono ?_
        rintro v w2 ⟨rfl, E2⟩
        go_wp2_with fail
        go_ret
        exact ⟨by rw [Hb.out]; rfl, (E.trans E4).trans E2⟩
      · have hok : ∀ i, i < j + 1 → (brkAt bs i).ok qs.length = true := fun i hi => by
          rcases Nat.lt_or_ge i j with h' | h'
          · exact Hj.out i h'
          · obtain rfl : i = j := by omega
            rw [brkAt_eq Hq.out]
            exact hv
        have Hok := Lib.hid hok
        have HV := Lib.hid (fun W => valid_is (A := A) (cap := cap) hv W hl1)
        clear hv hok
        go_wp2_with fail
        refine (HV.out _).mono ?_
        rintro v w2 ⟨rfl, E2⟩
        go_wp2_with fail
        go_roundw
        case rel => exact ⟨j + 1, by omega, by go_num, (E.trans E4).trans E2, Hok⟩
        case measure => simp only [intOf]; omega
    · obtain rfl : bs.length = j := by omega
      have Hg := Lib.hid (askedErr_good (bs := bs) Hr.out (by rw [Hml.out]; exact Hj.out))
      go_wp2_with fail
      go_ret
      exact ⟨by rw [Hg.out]; rfl, E⟩
/-- A brick in a new block, as a list of one. -/
theorem brick_new (w : World) (b : Brk) (hb : b.byte) (t : TypeId) : Bricks (w.alloc (.cells #[.int .i64 b.kind, .int .i64 b.at_.x, .int .i64 b.at_.y, .int .i64 b.at_.z, .int .u8 b.turn, .int .u8 b.color] t)) (some ⟨w.heap.size, 0, none⟩) 1 [b] := by
  refine ⟨⟨rfl, Nat.le_refl _, by unfold maxLen; omega, by simp [Brk.cs], fun _ => ⟨_, 0, rfl, by simp, fun i r hr j u hu => ?_⟩⟩, fun x hx => by rw [List.mem_singleton.1 hx]; exact hb⟩
  have hi : i = 0 := by
    rcases Nat.eq_zero_or_pos i with h | h
    · exact h
    · rw [List.getElem?_eq_none (by simp; omega)] at hr; cases hr
  subst hi
  simp only [List.map_cons, List.map_nil, List.getElem?_cons_zero, Option.some.injEq] at hr
  subst hr
  rw [cell_new]
  simpa [Brk.cs] using hu
theorem check1_c (qs : List (Knd × KAt)) (A : Option Addr) (cap : Nat) (k x y z t c : Int) (w : World) (hk : Kinds w A cap qs) (hb : Brk.byte ⟨k, ⟨x, y, z⟩, t, c⟩) (ty : TypeId) :
    Calls Tryz.prog 56 #[.slice A qs.length cap, .slice (some ⟨w.heap.size, 0, none⟩) 1 1] (w.alloc (.cells #[.int .i64 k, .int .i64 x, .int .i64 y, .int .i64 z, .int .u8 t, .int .u8 c] ty)) fun e w' => e = .returned (.int .i64 (askedErr (qs.map (·.1)) [⟨k, ⟨x, y, z⟩, t, c⟩])) ∧ Ext w w' :=
  (check_c qs A cap [⟨k, ⟨x, y, z⟩, t, c⟩] (some ⟨w.heap.size, 0, none⟩) 1 _ (hk.ext ((Ext.refl w).alloc _)) (brick_new w ⟨k, ⟨x, y, z⟩, t, c⟩ hb ty)).mono fun _ _ ⟨he, hE⟩ => ⟨he, ((Ext.refl w).alloc _).trans hE⟩
end Go.Proofs.YtaaeapjnjjbglaaGreatDoor.Lat
namespace Go.Proofs.YtaaeapjnjjbglaaGreatDoor.Lat
open Go.RowKit

def placeP (cells : List Pt) (n : Nat) (p : Pt) : List Pt := cells.map fun c => addP (turnS c n) p
theorem placeP_len (cells : List Pt) (n : Nat) (p : Pt) : (placeP cells n p).length = cells.length := List.length_map _
/-- The first j of a list, and the rest still at 0. -/
def partL {α : Type} (z : α) (l : List α) (j : Nat) : List α := l.take j ++ List.replicate (l.length - j) z
theorem partL_zero {α : Type} (z : α) (l : List α) : partL z l 0 = List.replicate l.length z := by simp [partL]
theorem partL_all {α : Type} (z : α) (l : List α) : partL z l l.length = l := by simp [partL]
theorem partL_len {α : Type} (z : α) (l : List α) {j : Nat} (hj : j ≤ l.length) : (partL z l j).length = l.length := by simp [partL]; omega
theorem partL_set {α : Type} (z : α) (l : List α) {j : Nat} {x : α} (hx : l[j]? = some x) : (partL z l j).set j x = partL z l (j + 1) := by
  have hj : j < l.length := (List.getElem?_eq_some_iff.1 hx).1
  unfold partL
  rw [List.take_add_one, hx, List.set_append_right _ _ (by rw [List.length_take]; omega)]
  have e : l.length - j = (l.length - (j + 1)) + 1 := by omega
  rw [e, List.replicate_succ]
  simp [Nat.min_eq_left (Nat.le_of_lt hj)]
theorem partL_at {α : Type} (z : α) (l : List α) {j : Nat} (hj : j < l.length) : (partL z l j)[j]? = some z := by
  unfold partL
  rw [List.getElem?_append_right (by rw [List.length_take]; omega), List.length_take, Nat.min_eq_left (Nat.le_of_lt hj), Nat.sub_self, List.getElem?_replicate, if_pos (by omega)]
theorem infoPt : (Tryz.prog.info? 53).map (fun i => (i.zero, i.size, i.bytes)) = some (some (.agg #[.int .i64 0, .int .i64 0, .int .i64 0]), 3, 24) := by kernel_rfl
theorem make_pts (n : Nat) (hn : n ≤ 1000) (w : World) : (Instr.makeSlice 71 (.int .i64 (n : Int)) (.int .i64 (n : Int))).run Tryz.prog w = .ok (.slice (some ⟨w.heap.size, 0, none⟩) n n) (w.alloc (.cells (ptsA (List.replicate n ⟨0, 0, 0⟩)) 53)) := by
  obtain ⟨i0, hi, hz0, hz1, hz2⟩ := info_parts infoPt
  have h := run_make (P := Tryz.prog) w 71 53 i0 (.agg #[.int .i64 0, .int .i64 0, .int .i64 0]) Tryz.underlying71 hi hz0 .i64 .i64 (n : Int) (n : Int) (by omega) (Int.le_refl _) (by rw [hz2]; omega) (by omega)
  rw [h]
  have e : madeCells (Value.cells (.agg #[.int .i64 0, .int .i64 0, .int .i64 0])) ((n : Int).toNat * i0.size) = ptsA (List.replicate n ⟨0, 0, 0⟩) := by
    rw [hz1, Int.toNat_natCast, rowsA_made (sz := 3) rfl (by omega)]
    unfold ptsA
    rw [List.map_replicate]
    rfl
  rw [e]
  simp
/-- New cells: a block that was not there. -/
def CellsPost (l : List Pt) (n : Nat) (w : World) (e : Ending) (w' : World) : Prop := ∃ g, w.heap.size ≤ g ∧ e = .returned (.slice (some ⟨g, 0, none⟩) n n) ∧ Blk w' g 53 (ptsA l) ∧ Ext w w'
set_option maxRecDepth 100000 in
set_option maxHeartbeats 8000000 in
theorem cells_c (cells : List Pt) (m cb : Nat) (wt : Int) (A : Option Addr) (ca : Nat) (B : Option Addr) (n : Nat) (x y z : Int) (w : World) (hc : Cells w A ca cells) (hl : cells.length ≤ 1000) (hok : ∀ p ∈ cells, p.ok) (hn : n < 24) (hp : Pt.ok ⟨x, y, z⟩) :
    Calls Tryz.prog 57 #[.agg #[.slice A cells.length ca, .slice B m cb, .int .i64 wt], .int .i64 n, .agg #[.int .i64 x, .int .i64 y, .int .i64 z]] w (CellsPost (sortP (placeP cells n ⟨x, y, z⟩)) cells.length w) := by
  have hmk := make_pts cells.length (by omega)
  obtain ⟨W1, hW1, E1, B1, hz1⟩ := mk_ w #[.slice A cells.length ca, .slice B m cb, .int .i64 wt] 74
  obtain ⟨W2, hW2, E2, B2, hz2⟩ := mk_ W1 #[.int .i64 x, .int .i64 y, .int .i64 z] 53
  obtain ⟨W3, hW3, E3, B3, hz3⟩ := mk_ W2 (ptsA (List.replicate cells.length ⟨0, 0, 0⟩)) 53
  rw [hz1] at B2
  rw [hz2, hz1] at B3
  have B1' := B1.ext E2
  have b1 := B1'.cell
  have b3 := (B1'.ext E3).cell
  have E13 := (E1.trans E2).trans E3
  go_enter Tryz.func57, Tryz.ntmps57
  go_wp2_with fail
  have BK := B1'.ext E3
  have BP := B2.ext E3
  rw [← placeP_len cells n ⟨x, y, z⟩, ← partL_zero] at B3
  clear hW1 hW2 hW3 hz1 hz2 hz3 b1 b3 B1 B1' B2 hmk E1 E2 E3
  have Hpl := Lib.hid (placeP_len cells n ⟨x, y, z⟩)
  obtain ⟨S, hS⟩ : ∃ S, w.heap.size = S := ⟨_, rfl⟩
  rw [hS] at B3 BK BP ⊢
  have HS := Lib.hid hS
  clear hS
  go_loopw [17] (fun i wr => ∃ j : Nat, j ≤ cells.length ∧ i = .int .i64 j ∧ Ext w wr ∧ Blk wr S 74 #[.slice A cells.length ca, .slice B m cb, .int .i64 wt] ∧ Blk wr (S + 1) 53 #[.int .i64 x, .int .i64 y, .int .i64 z] ∧ Blk wr (S + 1 + 1) 53 (ptsA (partL ⟨0, 0, 0⟩ (placeP cells n ⟨x, y, z⟩) j))) (fun i _ => cells.length - (intOf i).toNat)
  case atStart => exact ⟨0, by omega, rfl, E13, BK, BP, B3⟩
  case round =>
    clear B3 BK BP E13
    obtain ⟨j, hj, rfl, E, BK, BP, BO⟩ := hrel
    by_cases hlt : j < cells.length
    · obtain ⟨g, off, ⟨qx, qy, qz⟩, rfl, hq, hg, c0, c1, c2⟩ := hc.at_ hlt
      simp only at c0 c1 c2
      have d0 := E.cell c0
      have d1 := E.cell c1
      have d2 := E.cell c2
      clear c0 c1 c2
      have hqo := hok _ (List.mem_of_getElem? hq)
      have hset : (placeP cells n ⟨x, y, z⟩)[j]? = some (addP (turnS ⟨qx, qy, qz⟩ n) ⟨x, y, z⟩) := by
        unfold placeP
        rw [List.getElem?_map, hq]
        rfl
      have Hset := Lib.hid hset
      clear hq hset
      have i1 : (0 : Int) ≤ j := by omega
      have i2 : (j : Int) < cells.length := by omega
      obtain ⟨W4, hW4, E4, B4, hz4⟩ := mk_ wr #[.int .i64 qx, .int .i64 qy, .int .i64 qz] 53
      have b4 := B4.cell
      have b2 := (BP.ext E4).cell
      go_upto_region 5 with (fail)
      refine wp_region_tail 8 (by kernel_rfl) (by kernel_rfl) ?_
      simp only [List.take_succ_cons, List.take_zero, List.drop_succ_cons, List.drop_zero]
      repeat (go_big_quiet_step ((first | (go_at_call 41; exact quiet_ext (turn_c qx qy qz n _ hn hqo)) | (go_at_call 50; exact quiet_ext (plus_c _ _ _ _ _ _ _ (turnS_ok hqo n) hp)))))
      refine wpQuiet_nil ?_
      intro W5 hW5
      have E5 : Ext W4 W5 := by
        obtain ⟨x, rfl⟩ := hW5
        exact (Ext.refl _).grow x
      clear hW5
      obtain ⟨hcW5, hfW5, hzW5⟩ := ext_facts E5
      have BO' := (BO.ext E4).ext E5
      unfold ptsA at BO'
      obtain ⟨W6, hW6, B6, far6, ext6, hz6⟩ := BO'.row3 (pts_wide _) (k := j) (by rw [List.length_map, partL_len _ _ (by rw [Hpl.out]; omega), Hpl.out]; omega) (.int .i64 ((turnS ⟨qx, qy, qz⟩ n).x + x)) (.int .i64 ((turnS ⟨qx, qy, qz⟩ n).y + y)) (.int .i64 ((turnS ⟨qx, qy, qz⟩ n).z + z))
      have f6 := BO'.frozen
      have hz0 : ((partL (⟨0, 0, 0⟩ : Pt) (placeP cells n ⟨x, y, z⟩) j).map Pt.cs)[j]? = some (Pt.cs ⟨0, 0, 0⟩) := by rw [List.getElem?_map, partL_at _ _ (by rw [Hpl.out]; exact hlt)]; rfl
      have y0 := (BO'.cell (j * 3 + 0)).trans (rowsA_get (pts_wide _) hz0 (j := 0) rfl)
      have y1 := (BO'.cell (j * 3 + 1)).trans (rowsA_get (pts_wide _) hz0 (j := 1) rfl)
      have y2 := (BO'.cell (j * 3 + 2)).trans (rowsA_get (pts_wide _) hz0 (j := 2) rfl)
      simp only [Nat.add_zero] at y0
      clear hz0
      go_wp2_with fail
      go_roundw
      case rel => exact ⟨j + 1, by omega, by go_num, ext6 _ ((E.trans E4).trans E5) (by have := HS.out; omega), far6 _ _ _ (by omega) ((BK.ext E4).ext E5), far6 _ _ _ (by omega) ((BP.ext E4).ext E5), by
        rw [← partL_set _ _ Hset.out]
        unfold ptsA
        rw [List.map_set]
        exact B6⟩
      case measure => simp only [intOf]; omega
    · obtain rfl : cells.length = j := by omega
      have hpa : partL ⟨0, 0, 0⟩ (placeP cells n ⟨x, y, z⟩) cells.length = placeP cells n ⟨x, y, z⟩ := by
        have := partL_all ⟨0, 0, 0⟩ (placeP cells n ⟨x, y, z⟩)
        rwa [Hpl.out] at this
      rw [hpa] at BO
      have SF := sortFunc_c (placeP cells n ⟨x, y, z⟩) (S + 1 + 1) wr BO (by rw [Hpl.out]; omega)
      rw [Hpl.out] at SF
      clear hpa
      go_wp2_with fail
      refine SF.mono ?_
      rintro v w2 ⟨rfl, B2, G2⟩
      go_wp2_with fail
      go_ret
      exact ⟨S + 1 + 1, by have := HS.out; omega, rfl, B2, E.grown G2 (fun k hk => by cases hk; have := HS.out; omega)⟩
end Go.Proofs.YtaaeapjnjjbglaaGreatDoor.Lat
