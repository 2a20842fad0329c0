/- Texts of another chapter in a namespace of their own (printed by lat.py). The kinds and the bricks that chapter 7 makes, as the lattice reads them. Texts of another chapter in a namespace of their own (printed by lat.py). -/
import Derived.Test.YtaaeapjnjjbglaaDoorCc2

-- holds: BrickB CellsP CheckKind Has KindS Near Ord RKind RSorted RValidKind SortC SortLaid Step Turn Turned Turners
namespace Go.Proofs.YtaaeapjnjjbglaaDoor.Lat
open Go.RowKit

theorem near_is {x y z lo hi : Int} {r : Bool} (h : nearB ⟨x, y, z⟩ lo hi = r) (w : World) :
    Calls Tryd.prog 83 #[.agg #[.int .i64 x, .int .i64 y, .int .i64 z], .int .i64 lo, .int .i64 hi] w fun e w' => e = .returned (.bool r) ∧ Ext w w' := by
  subst h
  exact near_c _ _ _ _ _ _
theorem order_is {a b c d e f n : Int} (h : ordP ⟨a, b, c⟩ ⟨d, e, f⟩ = n) (w : World) :
    Calls Tryd.prog 88 #[.agg #[.int .i64 a, .int .i64 b, .int .i64 c], .agg #[.int .i64 d, .int .i64 e, .int .i64 f]] w fun v w' => v = .returned (.int .i64 n) ∧ Ext w w' := by
  subst h
  exact order_c _ _ _ _ _ _ _
theorem contains_is {A : Option Addr} {cap : Nat} {l : List Pt} {a b c : Int} {r : Bool} (h : hasP l ⟨a, b, c⟩ = r) {w : World} (hs : Cells w A cap l) :
    Calls Tryd.prog 89 #[.slice A l.length cap, .agg #[.int .i64 a, .int .i64 b, .int .i64 c]] w fun e w' => e = .returned (.bool r) ∧ Ext w w' := by
  subst h
  exact contains_c _ _ _ _ _ _ _ hs
theorem cellOk_near {l : List Pt} {j : Nat} {q : Pt} (hq : l[j]? = some q) (h : nearB q 0 15 = false) : cellOk l j = false := by
  rw [cellOk, ptAt_eq hq, h]
  rfl
theorem cellOk_zero {l : List Pt} {q : Pt} (hq : l[0]? = some q) (h : nearB q 0 15 = true) : cellOk l 0 = true := by
  rw [cellOk, ptAt_eq hq, h]
  rfl
theorem cellOk_next {l : List Pt} {j : Nat} {q r : Pt} (hq : l[j]? = some q) (h : nearB q 0 15 = true) (hj : j ≠ 0) (hr : l[j - 1]? = some r) : cellOk l j = ltP r q := by
  rw [cellOk, ptAt_eq hq, ptAt_eq hr, h, decide_eq_false hj]
  rfl
theorem pt_near {q : Pt} (h : nearB q 0 15 = true) : q.ok := by
  rw [nearB_iff] at h
  exact ⟨⟨by omega, by omega⟩, ⟨by omega, by omega⟩, ⟨by omega, by omega⟩⟩
theorem knobOk_zero {cs : List Pt} {l : List Knb} {q : Knb} (hq : l[0]? = some q) : knobOk cs l 0 = q.one cs := by
  rw [knobOk, knbAt_eq hq]
  simp
theorem knobOk_next {cs : List Pt} {l : List Knb} {j : Nat} {q r : Knb} (hq : l[j]? = some q) (hj : j ≠ 0) (hr : l[j - 1]? = some r) : knobOk cs l j = (q.one cs && r.lt q) := by
  rw [knobOk, knbAt_eq hq, knbAt_eq hr, decide_eq_false hj]
  rfl
theorem knobOk_bad {cs : List Pt} {l : List Knb} {j : Nat} {q : Knb} (hq : l[j]? = some q) (h : q.one cs = false) : knobOk cs l j = false := by
  rw [knobOk, knbAt_eq hq, h]
  rfl
theorem Knb.one_iff {cs : List Pt} {x : Knb} : x.one cs = true ↔ x.dir ≤ 5 ∧ (1 ≤ x.sort ∧ x.sort ≤ 6) ∧ hasP cs x.at_ = true ∧ hasP cs (addP x.at_ (stepS x.dir.toNat)) = false := by
  simp only [Knb.one, Bool.and_eq_true, decide_eq_true_eq, inB_iff, Bool.not_eq_true']
set_option maxRecDepth 100000 in
set_option maxHeartbeats 16000000 in
theorem checkKind_c (cells : List Pt) (knobs : List Knb) (wt : Int) (A : Option Addr) (ca : Nat) (B : Option Addr) (cb : Nat) (w : World) (hc : Cells w A ca cells) (hn : Knobs w B cb knobs) :
    Calls Tryd.prog 53 #[.agg #[.slice A cells.length ca, .slice B knobs.length cb, .int .i64 wt]] w fun e w' => e = .returned (.int .i64 (kindErr ⟨cells, knobs, wt⟩)) ∧ Ext w w' := by
  have hl1 : cells.length ≤ 9223372036854775807 := by have := hc.len; unfold maxLen at this; omega
  have hl2 : knobs.length ≤ 9223372036854775807 := by have := hn.len; unfold maxLen at this; omega
  obtain ⟨W1, hW1, E1, B1, hz1⟩ := mk_ w #[.slice A cells.length ca, .slice B knobs.length cb, .int .i64 wt] 77
  have b1 := B1.cell
  by_cases a1 : (cells.length : Int) < 1
  · have Hb := Lib.hid (kindErr_bad (k := ⟨cells, knobs, wt⟩) (valid_bad0 (by
      rw [← Bool.not_eq_true, sized_iff]
      show ¬ ((1 ≤ cells.length ∧ cells.length ≤ 24) ∧ knobs.length ≤ 48 ∧ 1 ≤ wt ∧ wt ≤ 100)
      omega)))
    go_enter Tryd.func53, Tryd.ntmps53
    go_wp2_with fail
    go_ret
    exact ⟨by rw [Hb.out]; rfl, E1⟩
  by_cases a2 : (24 : Int) < cells.length
  · have Hb := Lib.hid (kindErr_bad (k := ⟨cells, knobs, wt⟩) (valid_bad0 (by
      rw [← Bool.not_eq_true, sized_iff]
      show ¬ ((1 ≤ cells.length ∧ cells.length ≤ 24) ∧ knobs.length ≤ 48 ∧ 1 ≤ wt ∧ wt ≤ 100)
      omega)))
    go_enter Tryd.func53, Tryd.ntmps53
    go_wp2_with fail
    go_ret
    exact ⟨by rw [Hb.out]; rfl, E1⟩
  by_cases a3 : (48 : Int) < knobs.length
  · have Hb := Lib.hid (kindErr_bad (k := ⟨cells, knobs, wt⟩) (valid_bad0 (by
      rw [← Bool.not_eq_true, sized_iff]
      show ¬ ((1 ≤ cells.length ∧ cells.length ≤ 24) ∧ knobs.length ≤ 48 ∧ 1 ≤ wt ∧ wt ≤ 100)
      omega)))
    go_enter Tryd.func53, Tryd.ntmps53
    go_wp2_with fail
    go_ret
    exact ⟨by rw [Hb.out]; rfl, E1⟩
  by_cases a4 : wt < 1
  · have Hb := Lib.hid (kindErr_bad (k := ⟨cells, knobs, wt⟩) (valid_bad0 (by
      rw [← Bool.not_eq_true, sized_iff]
      show ¬ ((1 ≤ cells.length ∧ cells.length ≤ 24) ∧ knobs.length ≤ 48 ∧ 1 ≤ wt ∧ wt ≤ 100)
      omega)))
    go_enter Tryd.func53, Tryd.ntmps53
    go_wp2_with fail
    go_ret
    exact ⟨by rw [Hb.out]; rfl, E1⟩
  by_cases a5 : 100 < wt
  · have Hb := Lib.hid (kindErr_bad (k := ⟨cells, knobs, wt⟩) (valid_bad0 (by
      rw [← Bool.not_eq_true, sized_iff]
      show ¬ ((1 ≤ cells.length ∧ cells.length ≤ 24) ∧ knobs.length ≤ 48 ∧ 1 ≤ wt ∧ wt ≤ 100)
      omega)))
    go_enter Tryd.func53, Tryd.ntmps53
    go_wp2_with fail
    go_ret
    exact ⟨by rw [Hb.out]; rfl, E1⟩
  have Hs := Lib.hid ((sized_iff (k := ⟨cells, knobs, wt⟩)).2 ⟨⟨by show 1 ≤ cells.length; omega, by show cells.length ≤ 24; omega⟩, by show knobs.length ≤ 48; omega, by show 1 ≤ wt; omega, by show wt ≤ 100; omega⟩)
  go_enter Tryd.func53, Tryd.ntmps53
  go_wp2_with fail
  clear hW1 hz1 a1 a4 a5
  go_loopw [36] (fun i wr => ∃ j : Nat, j ≤ cells.length ∧ i = .int .i64 j ∧ Ext w wr ∧ Blk wr w.heap.size 77 #[.slice A cells.length ca, .slice B knobs.length cb, .int .i64 wt] ∧ Hid (∀ i, i < j → cellOk cells i = true)) (fun i _ => cells.length - (intOf i).toNat)
  case atStart => exact ⟨0, by omega, rfl, E1, B1, Lib.hid (fun i hi => by omega)⟩
  case round =>
    obtain ⟨j, hj, rfl, E, BK, Hj⟩ := hrel
    clear b1 B1 E1
    have b1 := BK.cell
    by_cases hlt : j < cells.length
    · obtain ⟨g, off, q, rfl, hq, hg, c0, c1, c2⟩ := hc.at_ hlt
      have d0 := E.cell c0
      have d1 := E.cell c1
      have d2 := E.cell c2
      clear c0 c1 c2
      have Hq := Lib.hid hq
      clear hq
      have i1 : (0 : Int) ≤ j := by omega
      have i2 : (j : Int) < cells.length := by omega
      obtain ⟨W4, hW4, E4, B4, hz4⟩ := mk_ wr #[.int .i64 q.x, .int .i64 q.y, .int .i64 q.z] 56
      have b4 := B4.cell
      cases hnr : nearB ⟨q.x, q.y, q.z⟩ 0 15
      · have Hb := Lib.hid (kindErr_bad (k := ⟨cells, knobs, wt⟩) (valid_bad1 (allR_bad hlt (cellOk_near Hq.out hnr))))
        have N := fun W => near_is hnr W
        clear hnr
        go_upto_region 6 with (fail)
        refine wp_region_grow (by kernel_rfl) (by kernel_rfl) ?_
        repeat (go_big_quiet_step (((go_at_call 83; exact quiet_ext (N _)))))
        refine wpQuiet_nil ?_
        intro W5 hW5
        have E5 : Ext W4 W5 := by
          obtain ⟨x, rfl⟩ := hW5
          exact (Ext.refl _).grow x
        clear hW5
        obtain ⟨hcW5, hfW5, hzW5⟩ := ext_facts E5
        go_wp2_with fail
        go_ret
        exact ⟨by rw [Hb.out]; rfl, (E.trans E4).trans E5⟩
      · have N := fun W => near_is hnr W
        have Hnr := Lib.hid hnr
        clear hnr
        by_cases hj0 : j = 0
        · have z1 : decide ((0 : Int) < (j : Int)) = false := by simp; omega
          have z2 : decide (0 < j) = false := by simp; omega
          have hok : ∀ i, i < j + 1 → cellOk cells i = true := fun i hi => by
            obtain rfl : i = 0 := by omega
            subst hj0
            exact cellOk_zero Hq.out Hnr.out
          have Hok := Lib.hid hok
          clear hok hj0
          go_upto_region 6 with (fail)
          refine wp_region_grow (by kernel_rfl) (by kernel_rfl) ?_
          repeat (go_big_quiet_step (((go_at_call 83; exact quiet_ext (N _)))))
          refine wpQuiet_nil ?_
          intro W5 hW5
          have E5 : Ext W4 W5 := by
            obtain ⟨x, rfl⟩ := hW5
            exact (Ext.refl _).grow x
          clear hW5
          obtain ⟨hcW5, hfW5, hzW5⟩ := ext_facts E5
          go_wp2_with fail
          go_roundw
          case rel => exact ⟨j + 1, by omega, by go_num, (E.trans E4).trans E5, (BK.ext E4).ext E5, Hok⟩
          case measure => simp only [intOf]; omega
        · obtain ⟨g', off', r, hA', hr, hg', p0, p1, p2⟩ := (hc.ext (E.trans E4)).at_ (k := j - 1) (by omega)
          cases hA'
          have Hr := Lib.hid hr
          clear hr
          have z1 : decide ((0 : Int) < (j : Int)) = true := by simp; omega
          have z2 : decide (0 < j) = true := by simp; omega
          have hkc : (((j - 1 : Nat) : Nat) : Int) = (j : Int) - 1 := by omega
          have ht : ((j : Int) - 1).toNat = j - 1 := by omega
          have hk1 : (1 : Int) ≤ j := by omega
          have b1' := (BK.ext E4).cell
          have hok : cellOk cells j = ltP r q := cellOk_next Hq.out Hnr.out hj0 Hr.out
          have Hok := Lib.hid hok
          clear hok
          rcases ordP_cases r q with ⟨hl, ho⟩ | ⟨hl, ho⟩ | ⟨hl, ho⟩
          · have Hl := Lib.hid hl
            clear hl
            have O := fun W => order_is (a := r.x) (b := r.y) (c := r.z) (d := q.x) (e := q.y) (f := q.z) ho W
            clear ho
            go_upto_region 6 with (fail)
            refine wp_region_grow (by kernel_rfl) (by kernel_rfl) ?_
            repeat (go_big_quiet_step ((first | (go_at_call 83; exact quiet_ext (N _)) | (go_at_call 88; exact quiet_ext (O _)))))
            refine wpQuiet_nil ?_
            intro W5 hW5
            have E5 : Ext W4 W5 := by
              obtain ⟨x, rfl⟩ := hW5
              exact (Ext.refl _).grow x
            clear hW5
            obtain ⟨hcW5, hfW5, hzW5⟩ := ext_facts E5
            go_wp2_with fail
            go_roundw
            case rel => exact ⟨j + 1, by omega, by go_num, (E.trans E4).trans E5, (BK.ext E4).ext E5, Lib.hid (fun i hi => by
              rcases Nat.lt_or_ge i j with h' | h'
              · exact Hj.out i h'
              · obtain rfl : i = j := by omega
                rw [Hok.out, Hl.out])⟩
            case measure => simp only [intOf]; omega
          · have Hb := Lib.hid (kindErr_bad (k := ⟨cells, knobs, wt⟩) (valid_bad1 (allR_bad hlt (by rw [Hok.out, hl, ltP_irrefl]))))
            clear hl
            have O := fun W => order_is (a := r.x) (b := r.y) (c := r.z) (d := q.x) (e := q.y) (f := q.z) ho W
            clear ho
            go_upto_region 6 with (fail)
            refine wp_region_grow (by kernel_rfl) (by kernel_rfl) ?_
            repeat (go_big_quiet_step ((first | (go_at_call 83; exact quiet_ext (N _)) | (go_at_call 88; exact quiet_ext (O _)))))
            refine wpQuiet_nil ?_
            intro W5 hW5
            have E5 : Ext W4 W5 := by
              obtain ⟨x, rfl⟩ := hW5
              exact (Ext.refl _).grow x
            clear hW5
            obtain ⟨hcW5, hfW5, hzW5⟩ := ext_facts E5
            go_wp2_with fail
            go_ret
            exact ⟨by rw [Hb.out]; rfl, (E.trans E4).trans E5⟩
          · have Hb := Lib.hid (kindErr_bad (k := ⟨cells, knobs, wt⟩) (valid_bad1 (allR_bad hlt (by rw [Hok.out, ltP_anti hl]))))
            clear hl
            have O := fun W => order_is (a := r.x) (b := r.y) (c := r.z) (d := q.x) (e := q.y) (f := q.z) ho W
            clear ho
            go_upto_region 6 with (fail)
            refine wp_region_grow (by kernel_rfl) (by kernel_rfl) ?_
            repeat (go_big_quiet_step ((first | (go_at_call 83; exact quiet_ext (N _)) | (go_at_call 88; exact quiet_ext (O _)))))
            refine wpQuiet_nil ?_
            intro W5 hW5
            have E5 : Ext W4 W5 := by
              obtain ⟨x, rfl⟩ := hW5
              exact (Ext.refl _).grow x
            clear hW5
            obtain ⟨hcW5, hfW5, hzW5⟩ := ext_facts E5
            go_wp2_with fail
            go_ret
            exact ⟨by rw [Hb.out]; rfl, (E.trans E4).trans E5⟩
    · obtain rfl : cells.length = j := by omega
      have Hcells := Lib.hid (allR_good Hj.out)
      clear Hj
      go_wp2_with fail
      clear hlt b1
      go_loopw [63] (fun i wr => ∃ j : Nat, j ≤ knobs.length ∧ i = .int .i64 j ∧ Ext w wr ∧ Blk wr w.heap.size 77 #[.slice A cells.length ca, .slice B knobs.length cb, .int .i64 wt] ∧ Hid (∀ i, i < j → knobOk cells knobs i = true)) (fun i _ => knobs.length - (intOf i).toNat)
      case atStart => exact ⟨0, by omega, rfl, E, BK, Lib.hid (fun i hi => by omega)⟩
      case round =>
        clear E BK
        obtain ⟨j, hj, rfl, E, BK, Hj⟩ := hrel
        have b1 := BK.cell
        by_cases hlt : j < knobs.length
        · obtain ⟨g, off, ⟨⟨x, y, z⟩, dir, sort⟩, rfl, hq, ⟨⟨hd0, hd1⟩, hs0, hs1⟩, hg, c0, c1, c2, c3, c4⟩ := hn.at_ hlt
          simp only at c0 c1 c2 c3 c4 hd0 hd1 hs0 hs1
          obtain ⟨d, rfl⟩ : ∃ d : Nat, dir = d := ⟨dir.toNat, by omega⟩
          have d0 := E.cell c0
          have d1 := E.cell c1
          have d2 := E.cell c2
          have d3 := E.cell c3
          have d4 := E.cell c4
          clear c0 c1 c2 c3 c4
          have Hq := Lib.hid hq
          clear hq
          have i1 : (0 : Int) ≤ j := by omega
          have i2 : (j : Int) < knobs.length := by omega
          obtain ⟨W4, hW4, E4, B4, hz4⟩ := mk_ wr #[.int .i64 x, .int .i64 y, .int .i64 z, .int .u8 d, .int .u8 sort] 110
          have b4 := B4.cell
          have b1' := (BK.ext E4).cell
          have EE := E.trans E4
          have f1 : IntKind.i64.wrap (d : Int) = d := IntWalk.i64_in _ (by omega)
          have Hok1 : Hid (hasP cells ⟨x, y, z⟩ = true → Pt.ok ⟨x, y, z⟩) := Lib.hid fun h => by
            obtain ⟨i, hi⟩ := List.getElem?_of_mem (hasP_iff.1 h)
            have hil : i < cells.length := (List.getElem?_eq_some_iff.1 hi).1
            have := allR_at Hcells.out hil
            rw [cellOk, ptAt_eq hi, Bool.and_eq_true] at this
            exact pt_near this.1
          by_cases a1 : (5 : Int) < d
          · have Hb := Lib.hid (kindErr_bad (k := ⟨cells, knobs, wt⟩) (valid_bad2 (allR_bad hlt (knobOk_bad Hq.out (by
              rw [← Bool.not_eq_true, Knb.one_iff]
              exact fun h => by have : (d:Int) ≤ 5 := h.1; omega)))))
            go_upto_region 12 with (fail)
            refine wp_region_grow (by kernel_rfl) (by kernel_rfl) ?_
            repeat (go_big_quiet_step (fail))
            refine wpQuiet_nil ?_
            intro W5 hW5
            have E5 : Ext W4 W5 := by
              obtain ⟨x, rfl⟩ := hW5
              exact (Ext.refl _).grow x
            clear hW5
            obtain ⟨hcW5, hfW5, hzW5⟩ := ext_facts E5
            go_wp2_with fail
            go_ret
            exact ⟨by rw [Hb.out]; rfl, EE.trans E5⟩
          by_cases a2 : sort < 1
          · have Hb := Lib.hid (kindErr_bad (k := ⟨cells, knobs, wt⟩) (valid_bad2 (allR_bad hlt (knobOk_bad Hq.out (by
              rw [← Bool.not_eq_true, Knb.one_iff]
              exact fun h => by have : 1 ≤ sort := h.2.1.1; omega)))))
            go_upto_region 12 with (fail)
            refine wp_region_grow (by kernel_rfl) (by kernel_rfl) ?_
            repeat (go_big_quiet_step (fail))
            refine wpQuiet_nil ?_
            intro W5 hW5
            have E5 : Ext W4 W5 := by
              obtain ⟨x, rfl⟩ := hW5
              exact (Ext.refl _).grow x
            clear hW5
            obtain ⟨hcW5, hfW5, hzW5⟩ := ext_facts E5
            go_wp2_with fail
            go_ret
            exact ⟨by rw [Hb.out]; rfl, EE.trans E5⟩
          by_cases a3 : 6 < sort
          · have Hb := Lib.hid (kindErr_bad (k := ⟨cells, knobs, wt⟩) (valid_bad2 (allR_bad hlt (knobOk_bad Hq.out (by
              rw [← Bool.not_eq_true, Knb.one_iff]
              exact fun h => by have : sort ≤ 6 := h.2.1.2; omega)))))
            go_upto_region 12 with (fail)
            refine wp_region_grow (by kernel_rfl) (by kernel_rfl) ?_
            repeat (go_big_quiet_step (fail))
            refine wpQuiet_nil ?_
            intro W5 hW5
            have E5 : Ext W4 W5 := by
              obtain ⟨x, rfl⟩ := hW5
              exact (Ext.refl _).grow x
            clear hW5
            obtain ⟨hcW5, hfW5, hzW5⟩ := ext_facts E5
            go_wp2_with fail
            go_ret
            exact ⟨by rw [Hb.out]; rfl, EE.trans E5⟩
          cases hh : hasP cells ⟨x, y, z⟩
          · have Hb := Lib.hid (kindErr_bad (k := ⟨cells, knobs, wt⟩) (valid_bad2 (allR_bad hlt (knobOk_bad Hq.out (by
              rw [← Bool.not_eq_true, Knb.one_iff]
              exact fun h => by rw [h.2.2.1] at hh; cases hh)))))
            go_upto_region 12 with (fail)
            refine wp_region_grow (by kernel_rfl) (by kernel_rfl) ?_
            repeat (go_big_quiet_step (((go_at_call 89; exact quiet_ext (contains_c A ca cells _ _ _ _ (hc.ext (EE.grow _)))))))
            refine wpQuiet_nil ?_
            intro W5 hW5
            have E5 : Ext W4 W5 := by
              obtain ⟨x, rfl⟩ := hW5
              exact (Ext.refl _).grow x
            clear hW5
            obtain ⟨hcW5, hfW5, hzW5⟩ := ext_facts E5
            go_wp2_with fail
            go_ret
            exact ⟨by rw [Hb.out]; rfl, EE.trans E5⟩
          have hok1 := Hok1.out hh
          have Hok1' := Lib.hid hok1
          clear hok1
          cases hh2 : hasP cells ⟨x + (stepS d).x, y + (stepS d).y, z + (stepS d).z⟩
          rotate_left
          · have Hb := Lib.hid (kindErr_bad (k := ⟨cells, knobs, wt⟩) (valid_bad2 (allR_bad hlt (knobOk_bad Hq.out (by
              rw [← Bool.not_eq_true, Knb.one_iff]
              exact fun h => by rw [show hasP cells (addP ⟨x,y,z⟩ (stepS (d:Int).toNat)) = true from hh2] at h; cases h.2.2.2)))))
            go_upto_region 12 with (fail)
            refine wp_region_grow (by kernel_rfl) (by kernel_rfl) ?_
            repeat (go_big_quiet_step ((first | (go_at_call 89; exact quiet_ext (contains_c A ca cells _ _ _ _ (hc.ext (EE.grow _)))) | (go_at_call 91; exact quiet_ext (step_c d (by omega) _)) | (go_at_call 90; exact quiet_ext (plus_c _ _ _ _ _ _ _ Hok1'.out (stepS_ok d))))))
            refine wpQuiet_nil ?_
            intro W5 hW5
            have E5 : Ext W4 W5 := by
              obtain ⟨x, rfl⟩ := hW5
              exact (Ext.refl _).grow x
            clear hW5
            obtain ⟨hcW5, hfW5, hzW5⟩ := ext_facts E5
            go_wp2_with fail
            go_ret
            exact ⟨by rw [Hb.out]; rfl, EE.trans E5⟩
          have Hone := Lib.hid ((Knb.one_iff (cs := cells) (x := ⟨⟨x, y, z⟩, d, sort⟩)).2 ⟨by show (d : Int) ≤ 5; omega, ⟨by show 1 ≤ sort; omega, by show sort ≤ 6; omega⟩, hh, hh2⟩)
          by_cases hj0 : j = 0
          · have z1 : decide ((0 : Int) < (j : Int)) = false := by simp; omega
            have z2 : decide (0 < j) = false := by simp; omega
            have hok : ∀ i, i < j + 1 → knobOk cells knobs i = true := fun i hi => by
              obtain rfl : i = 0 := by omega
              subst hj0
              rw [knobOk_zero Hq.out]
              exact Hone.out
            have Hok := Lib.hid hok
            clear hok hj0
            go_upto_region 12 with (fail)
            refine wp_region_grow (by kernel_rfl) (by kernel_rfl) ?_
            repeat (go_big_quiet_step ((first | (go_at_call 89; exact quiet_ext (contains_c A ca cells _ _ _ _ (hc.ext (EE.grow _)))) | (go_at_call 91; exact quiet_ext (step_c d (by omega) _)) | (go_at_call 90; exact quiet_ext (plus_c _ _ _ _ _ _ _ Hok1'.out (stepS_ok d))))))
            refine wpQuiet_nil ?_
            intro W5 hW5
            have E5 : Ext W4 W5 := by
              obtain ⟨x, rfl⟩ := hW5
              exact (Ext.refl _).grow x
            clear hW5
            obtain ⟨hcW5, hfW5, hzW5⟩ := ext_facts E5
            go_upto_region 14 with (fail)
            refine wp_region_tail 23 (by kernel_rfl) (by kernel_rfl) ?_
            simp only [List.take_succ_cons, List.take_zero, List.drop_succ_cons, List.drop_zero]
            repeat (go_big_quiet_step (fail))
            refine wpQuiet_nil ?_
            intro W6 hW6
            have E6 : Ext W5 W6 := by
              obtain ⟨x, rfl⟩ := hW6
              exact (Ext.refl _).grow x
            clear hW6
            obtain ⟨hcW6, hfW6, hzW6⟩ := ext_facts E6
            go_wp2_with fail
            go_roundw
            case rel => exact ⟨j + 1, by omega, by go_num, (EE.trans E5).trans E6, ((BK.ext E4).ext E5).ext E6, Hok⟩
            case measure => simp only [intOf]; omega
          · obtain ⟨g', off', ⟨⟨rx, ry, rz⟩, rdir, rsort⟩, hA', hr, -, hg', p0, p1, p2, p3, -⟩ := (hn.ext EE).at_ (k := j - 1) (by omega)
            cases hA'
            simp only at p0 p1 p2 p3
            have Hr := Lib.hid hr
            clear hr
            have z1 : decide ((0 : Int) < (j : Int)) = true := by simp; omega
            have z2 : decide (0 < j) = true := by simp; omega
            have hkc : (((j - 1 : Nat) : Nat) : Int) = (j : Int) - 1 := by omega
            have ht : ((j : Int) - 1).toNat = j - 1 := by omega
            have hk1 : (1 : Int) ≤ j := by omega
            have hok : knobOk cells knobs j = Knb.lt ⟨⟨rx, ry, rz⟩, rdir, rsort⟩ ⟨⟨x, y, z⟩, d, sort⟩ := by rw [knobOk_next Hq.out hj0 Hr.out, Hone.out, Bool.true_and]
            have Hok := Lib.hid hok
            clear hok
            obtain ⟨r, hr⟩ : ∃ r, Knb.lt ⟨⟨rx, ry, rz⟩, rdir, rsort⟩ ⟨⟨x, y, z⟩, d, sort⟩ = r := ⟨_, rfl⟩
            have ho := knobLt_or ⟨⟨rx, ry, rz⟩, rdir, rsort⟩ ⟨⟨x, y, z⟩, d, sort⟩
            rw [hr] at ho
            simp only at ho
            have Hr' := Lib.hid hr
            clear hr
            cases r
            · have Hb := Lib.hid (kindErr_bad (k := ⟨cells, knobs, wt⟩) (valid_bad2 (allR_bad hlt (by rw [Hok.out, Hr'.out]))))
              go_upto_region 12 with (fail)
              refine wp_region_grow (by kernel_rfl) (by kernel_rfl) ?_
              repeat (go_big_quiet_step ((first | (go_at_call 89; exact quiet_ext (contains_c A ca cells _ _ _ _ (hc.ext (EE.grow _)))) | (go_at_call 91; exact quiet_ext (step_c d (by omega) _)) | (go_at_call 90; exact quiet_ext (plus_c _ _ _ _ _ _ _ Hok1'.out (stepS_ok d))))))
              refine wpQuiet_nil ?_
              intro W5 hW5
              have E5 : Ext W4 W5 := by
                obtain ⟨x, rfl⟩ := hW5
                exact (Ext.refl _).grow x
              clear hW5
              obtain ⟨hcW5, hfW5, hzW5⟩ := ext_facts E5
              go_upto_region 14 with (fail)
              refine wp_region_tail 23 (by kernel_rfl) (by kernel_rfl) ?_
              simp only [List.take_succ_cons, List.take_zero, List.drop_succ_cons, List.drop_zero]
              repeat (go_big_quiet_step ((first | (go_at_call 88; exact quiet_ext (order_c _ _ _ _ _ _ _)) | (go_at_call 92; exact quiet_grow_same (cmpU_c _ _ _)))))
              refine wpQuiet_nil ?_
              intro W6 hW6
              have E6 : Ext W5 W6 := by
                obtain ⟨x, rfl⟩ := hW6
                exact (Ext.refl _).grow x
              clear hW6
              obtain ⟨hcW6, hfW6, hzW6⟩ := ext_facts E6
              go_wp2_with fail
              refine (or2_c _ _ _ _).mono ?_
              rintro v w4 ⟨rfl, rfl⟩
              go_wp2_with fail
              go_ret
              exact ⟨by rw [Hb.out]; rfl, ((EE.trans E5).trans E6).alloc _⟩
            · go_upto_region 12 with (fail)
              refine wp_region_grow (by kernel_rfl) (by kernel_rfl) ?_
              repeat (go_big_quiet_step ((first | (go_at_call 89; exact quiet_ext (contains_c A ca cells _ _ _ _ (hc.ext (EE.grow _)))) | (go_at_call 91; exact quiet_ext (step_c d (by omega) _)) | (go_at_call 90; exact quiet_ext (plus_c _ _ _ _ _ _ _ Hok1'.out (stepS_ok d))))))
              refine wpQuiet_nil ?_
              intro W5 hW5
              have E5 : Ext W4 W5 := by
                obtain ⟨x, rfl⟩ := hW5
                exact (Ext.refl _).grow x
              clear hW5
              obtain ⟨hcW5, hfW5, hzW5⟩ := ext_facts E5
              go_upto_region 14 with (fail)
              refine wp_region_tail 23 (by kernel_rfl) (by kernel_rfl) ?_
              simp only [List.take_succ_cons, List.take_zero, List.drop_succ_cons, List.drop_zero]
              repeat (go_big_quiet_step ((first | (go_at_call 88; exact quiet_ext (order_c _ _ _ _ _ _ _)) | (go_at_call 92; exact quiet_grow_same (cmpU_c _ _ _)))))
              refine wpQuiet_nil ?_
              intro W6 hW6
              have E6 : Ext W5 W6 := by
                obtain ⟨x, rfl⟩ := hW6
                exact (Ext.refl _).grow x
              clear hW6
              obtain ⟨hcW6, hfW6, hzW6⟩ := ext_facts E6
              go_wp2_with fail
              refine (or2_c _ _ _ _).mono ?_
              rintro v w4 ⟨rfl, rfl⟩
              go_wp2_with fail
              go_roundw
              case rel => exact ⟨j + 1, by omega, by go_num, ((EE.trans E5).trans E6).alloc _, (((BK.ext E4).ext E5).ext E6).alloc _, Lib.hid (fun i hi => by
                rcases Nat.lt_or_ge i j with h' | h'
                · exact Hj.out i h'
                · obtain rfl : i = j := by omega
                  rw [Hok.out, Hr'.out])⟩
              case measure => simp only [intOf]; omega
        · obtain rfl : knobs.length = j := by omega
          have Hg := Lib.hid (kindErr_good (valid_good (k := ⟨cells, knobs, wt⟩) Hs.out Hcells.out (allR_good Hj.out)))
          go_wp2_with fail
          go_ret
          exact ⟨by rw [Hg.out]; rfl, E⟩
end Go.Proofs.YtaaeapjnjjbglaaDoor.Lat
namespace Go.Proofs.YtaaeapjnjjbglaaDoor.Lat
open Go.RowKit

theorem cells_ok {cells : List Pt} (h : cellsB cells = true) {p : Pt} (hp : p ∈ cells) : p.ok := by
  obtain ⟨i, hi⟩ := List.getElem?_of_mem hp
  have hil : i < cells.length := (List.getElem?_eq_some_iff.1 hi).1
  have := allR_at h hil
  rw [cellOk, ptAt_eq hi, Bool.and_eq_true] at this
  exact pt_near this.1
end Go.Proofs.YtaaeapjnjjbglaaDoor.Lat
namespace Go.Proofs.YtaaeapjnjjbglaaDoor.Lat
open Go.RowKit

theorem checkKind_is {cells : List Pt} {knobs : List Knb} {wt r : Int} (h : kindErr ⟨cells, knobs, wt⟩ = r) {A : Option Addr} {ca : Nat} {B : Option Addr} {cb : Nat} {w : World} (hc : Cells w A ca cells) (hn : Knobs w B cb knobs) :
    Calls Tryd.prog 53 #[.agg #[.slice A cells.length ca, .slice B knobs.length cb, .int .i64 wt]] w fun e w' => e = .returned (.int .i64 r) ∧ Ext w w' := by
  subst h
  exact checkKind_c _ _ _ _ _ _ _ _ hc hn

/-! Lists of kinds. -/
theorem kindAt_eq {qs : List (Knd × KAt)} {j : Nat} {k : Knd} {p : KAt} (h : qs[j]? = some (k, p)) : kindAt (qs.map (·.1)) j = k := by simp [kindAt, h]
theorem kindsErr_bad {l : List Knd} {j : Nat} (hl : ¬ 16 < l.length) (hj : j < l.length) (h : (kindAt l j).valid = false) : kindsErr l = 10 := by
  rw [kindsErr, if_neg hl, allR_bad hj h]
  rfl
theorem kindsErr_good {l : List Knd} (hl : ¬ 16 < l.length) (h : ∀ j, j < l.length → (kindAt l j).valid = true) : kindsErr l = 0 := by
  rw [kindsErr, if_neg hl, allR_good h]
  rfl
set_option maxHeartbeats 3200000 in
theorem checkKinds_c (qs : List (Knd × KAt)) (A : Option Addr) (cap : Nat) (w : World) (hk : Kinds w A cap qs) :
    Calls Tryd.prog 22 #[.slice A qs.length cap] w fun e w' => e = .returned (.int .i64 (kindsErr (qs.map (·.1)))) ∧ Ext w w' := by
  have hl1 : qs.length ≤ 9223372036854775807 := by have := hk.len; unfold maxLen at this; omega
  have hml : (qs.map (·.1)).length = qs.length := List.length_map _
  by_cases a1 : (16 : Int) < qs.length
  · have Hb := Lib.hid (show kindsErr (qs.map (·.1)) = 4 by rw [kindsErr, if_pos (by rw [hml]; omega)])
    clear hml
    go_enter Tryd.func22, Tryd.ntmps22
    go_wp2_with fail
    go_ret
    exact ⟨by rw [Hb.out]; rfl, Ext.refl w⟩
  have Hml := Lib.hid hml
  clear hml
  go_enter Tryd.func22, Tryd.ntmps22
  go_wp2_with fail
  go_loopw [11] (fun i wr => ∃ j : Nat, j ≤ qs.length ∧ i = .int .i64 j ∧ Ext w wr ∧ Hid (∀ i, i < j → (kindAt (qs.map (·.1)) i).valid = true)) (fun i _ => qs.length - (intOf i).toNat)
  case atStart => exact ⟨0, by omega, rfl, Ext.refl w, Lib.hid (fun i hi => by omega)⟩
  case round =>
    obtain ⟨j, hj, rfl, E, Hj⟩ := hrel
    by_cases hlt : j < qs.length
    · obtain ⟨g, off, ⟨kc, kn, kw⟩, ⟨KA, kca, KB, kcb⟩, rfl, hq, ⟨hkc, hkn⟩, hg, c0, c1, c2⟩ := (hk.ext E).at_ hlt
      simp only at c0 c1 c2 hkc hkn
      have Hq := Lib.hid hq
      clear hq
      obtain ⟨W4, hW4, E4, B4, hz4⟩ := mk_ wr #[.slice KA kc.length kca, .slice KB kn.length kcb, .int .i64 kw] 77
      have b4 := B4.cell
      cases hv : Knd.valid ⟨kc, kn, kw⟩
      · have Hb := Lib.hid (kindsErr_bad (l := qs.map (·.1)) (by rw [Hml.out]; omega) (j := j) (by rw [Hml.out]; omega) (by rw [kindAt_eq Hq.out]; exact hv))
        have HV := Lib.hid (fun W (EW : Ext wr W) => checkKind_is (kindErr_bad hv) (hkc.ext EW) (hkn.ext EW))
        clear hv
        go_wp2_with fail
        refine (HV.out _ E4).mono ?_
        rintro v w2 ⟨rfl, E2⟩
        go_wp2_with fail
        go_ret
        exact ⟨by rw [Hb.out]; rfl, (E.trans E4).trans E2⟩
      · have hok : ∀ i, i < j + 1 → (kindAt (qs.map (·.1)) i).valid = true := fun i hi => by
          rcases Nat.lt_or_ge i j with h' | h'
          · exact Hj.out i h'
          · obtain rfl : i = j := by omega
            rw [kindAt_eq Hq.out]
            exact hv
        have Hok := Lib.hid hok
        have HV := Lib.hid (fun W (EW : Ext wr W) => checkKind_is (kindErr_good hv) (hkc.ext EW) (hkn.ext EW))
        clear hv hok
        go_wp2_with fail
        refine (HV.out _ E4).mono ?_
        rintro v w2 ⟨rfl, E2⟩
        go_wp2_with fail
        go_roundw
        case rel => exact ⟨j + 1, by omega, by go_num, (E.trans E4).trans E2, Hok⟩
        case measure => simp only [intOf]; omega
    · obtain rfl : qs.length = j := by omega
      have Hg := Lib.hid (kindsErr_good (l := qs.map (·.1)) (by rw [Hml.out]; omega) (by rw [Hml.out]; exact Hj.out))
      go_wp2_with fail
      go_ret
      exact ⟨by rw [Hg.out]; rfl, E⟩
end Go.Proofs.YtaaeapjnjjbglaaDoor.Lat
namespace Go.Proofs.YtaaeapjnjjbglaaDoor.Lat
open Go.RowKit

structure Brk where
  kind : Int
  at_ : Pt
  turn : Int
  color : Int
def Brk.v (b : Brk) : Value := .agg #[.int .i64 b.kind, .int .i64 b.at_.x, .int .i64 b.at_.y, .int .i64 b.at_.z, .int .u8 b.turn, .int .u8 b.color]
def Brk.cs (b : Brk) : List Value := [.int .i64 b.kind, .int .i64 b.at_.x, .int .i64 b.at_.y, .int .i64 b.at_.z, .int .u8 b.turn, .int .u8 b.color]
def Brk.byte (b : Brk) : Prop := (0 ≤ b.turn ∧ b.turn ≤ 255) ∧ 0 ≤ b.color ∧ b.color ≤ 255
def Brk.ok (n : Nat) (b : Brk) : Bool := decide (0 ≤ b.kind) && (decide (b.kind < n) && (nearB b.at_ (-1000) 1000 && (decide (b.turn < 24) && decide (b.color ≤ 15))))
theorem Brk.ok_iff {n : Nat} {b : Brk} : b.ok n = true ↔ 0 ≤ b.kind ∧ b.kind < n ∧ nearB b.at_ (-1000) 1000 = true ∧ b.turn < 24 ∧ b.color ≤ 15 := by
  simp only [Brk.ok, Bool.and_eq_true, decide_eq_true_eq]
theorem Brk.ok_not {n : Nat} {b : Brk} (h : ¬ (0 ≤ b.kind ∧ b.kind < n ∧ nearB b.at_ (-1000) 1000 = true ∧ b.turn < 24 ∧ b.color ≤ 15)) : b.ok n = false := by
  rw [← Bool.not_eq_true, Brk.ok_iff]
  exact h
def Bricks (w : World) (A : Option Addr) (cap : Nat) (l : List Brk) : Prop := SliceIs w A l.length cap 6 (l.map Brk.cs) ∧ ∀ b ∈ l, b.byte
theorem Bricks.ext {w w' : World} {A : Option Addr} {cap : Nat} {l : List Brk} (h : Bricks w A cap l) (e : Ext w w') : Bricks w' A cap l := ⟨SliceIs.ext h.1 e, h.2⟩
theorem Bricks.len {w : World} {A : Option Addr} {cap : Nat} {l : List Brk} (h : Bricks w A cap l) : l.length ≤ maxLen := Nat.le_trans h.1.le h.1.small
theorem Bricks.at_ {w : World} {A : Option Addr} {cap : Nat} {l : List Brk} (h : Bricks w A cap l) {k : Nat} (hk : k < l.length) :
    ∃ b off p, A = some ⟨b, off, none⟩ ∧ l[k]? = some p ∧ p.byte ∧ b < w.heap.size ∧ w.cell? ⟨b, off + k * 6, none⟩ = some (.int .i64 p.kind) ∧ w.cell? ⟨b, off + k * 6 + 1, none⟩ = some (.int .i64 p.at_.x) ∧
      w.cell? ⟨b, off + k * 6 + 2, none⟩ = some (.int .i64 p.at_.y) ∧ w.cell? ⟨b, off + k * 6 + 3, none⟩ = some (.int .i64 p.at_.z) ∧ w.cell? ⟨b, off + k * 6 + 4, none⟩ = some (.int .u8 p.turn) ∧ w.cell? ⟨b, off + k * 6 + 5, none⟩ = some (.int .u8 p.color) := by
  obtain ⟨b, off, hA, hb, hc⟩ := SliceIs.cells h.1 (by omega)
  have hget : l[k]? = some l[k] := List.getElem?_eq_getElem hk
  have hr : (l.map Brk.cs)[k]? = some l[k].cs := by rw [List.getElem?_map, hget]; rfl
  exact ⟨b, off, l[k], hA, hget, h.2 _ (List.getElem_mem hk), hb, hc k _ hr 0 _ rfl, hc k _ hr 1 _ rfl, hc k _ hr 2 _ rfl, hc k _ hr 3 _ rfl, hc k _ hr 4 _ rfl, hc k _ hr 5 _ rfl⟩
set_option maxHeartbeats 1600000 in
theorem valid_c (n cap : Nat) (A : Option Addr) (k x y z t c : Int) (w : World) (hn0 : n ≤ maxLen) :
    Calls Tryd.prog 93 #[.slice A n cap, .agg #[.int .i64 k, .int .i64 x, .int .i64 y, .int .i64 z, .int .u8 t, .int .u8 c]] w fun e w' => e = .returned (.bool (Brk.ok n ⟨k, ⟨x, y, z⟩, t, c⟩)) ∧ Ext w w' := by
  have hn := hn0
  unfold maxLen at hn
  obtain ⟨W1, hW1, E1, B1, hz1⟩ := mk_ w #[.int .i64 k, .int .i64 x, .int .i64 y, .int .i64 z, .int .u8 t, .int .u8 c] 58
  have b1 := B1.cell
  by_cases a1 : 0 ≤ k
  rotate_left
  · have Hb := Lib.hid (show Brk.ok n ⟨k, ⟨x, y, z⟩, t, c⟩ = false from Brk.ok_not (by
      show ¬ (0 ≤ k ∧ k < n ∧ _ ∧ t < 24 ∧ c ≤ 15)
      omega))
    go_enter Tryd.func93, Tryd.ntmps93
    go_wp2_with fail
    go_ret
    exact ⟨by rw [Hb.out]; rfl, E1⟩
  by_cases a2 : k < n
  rotate_left
  · have Hb := Lib.hid (show Brk.ok n ⟨k, ⟨x, y, z⟩, t, c⟩ = false from Brk.ok_not (by
      show ¬ (0 ≤ k ∧ k < n ∧ _ ∧ t < 24 ∧ c ≤ 15)
      omega))
    go_enter Tryd.func93, Tryd.ntmps93
    go_wp2_with fail
    go_ret
    exact ⟨by rw [Hb.out]; rfl, E1⟩
  cases hr : nearB ⟨x, y, z⟩ (-1000) 1000
  · have Hb := Lib.hid (show Brk.ok n ⟨k, ⟨x, y, z⟩, t, c⟩ = false from Brk.ok_not (by
      rw [show (Brk.mk k ⟨x, y, z⟩ t c).at_ = ⟨x, y, z⟩ from rfl, hr]
      exact fun h => by cases h.2.2.1))
    go_enter Tryd.func93, Tryd.ntmps93
    go_wp2_with fail
    refine (near_is hr _).mono ?_
    rintro v w2 ⟨rfl, E2⟩
    go_wp2_with fail
    go_ret
    exact ⟨by rw [Hb.out]; rfl, E1.trans E2⟩
  by_cases a3 : t < 24
  rotate_left
  · have Hb := Lib.hid (show Brk.ok n ⟨k, ⟨x, y, z⟩, t, c⟩ = false from Brk.ok_not (by
      show ¬ (0 ≤ k ∧ k < n ∧ _ ∧ t < 24 ∧ c ≤ 15)
      omega))
    go_enter Tryd.func93, Tryd.ntmps93
    go_wp2_with fail
    refine (near_is hr _).mono ?_
    rintro v w2 ⟨rfl, E2⟩
    have b2 := (B1.ext E2).cell
    go_wp2_with fail
    go_ret
    exact ⟨by rw [Hb.out]; rfl, E1.trans E2⟩
  by_cases a4 : c ≤ 15
  rotate_left
  · have Hb := Lib.hid (show Brk.ok n ⟨k, ⟨x, y, z⟩, t, c⟩ = false from Brk.ok_not (by
      show ¬ (0 ≤ k ∧ k < n ∧ _ ∧ t < 24 ∧ c ≤ 15)
      omega))
    have d4 : decide (c ≤ 15) = false := by simp; omega
    go_enter Tryd.func93, Tryd.ntmps93
    go_wp2_with fail
    refine (near_is hr _).mono ?_
    rintro v w2 ⟨rfl, E2⟩
    have b2 := (B1.ext E2).cell
    go_wp2_with fail
    go_ret
    exact ⟨by rw [Hb.out]; rfl, E1.trans E2⟩
  · have Hb := Lib.hid (show Brk.ok n ⟨k, ⟨x, y, z⟩, t, c⟩ = true from Brk.ok_iff.2 ⟨a1, a2, hr, a3, a4⟩)
    go_enter Tryd.func93, Tryd.ntmps93
    go_wp2_with fail
    refine (near_is hr _).mono ?_
    rintro v w2 ⟨rfl, E2⟩
    have b2 := (B1.ext E2).cell
    go_wp2_with fail
    go_ret
    exact ⟨by rw [Hb.out]; rfl, E1.trans E2⟩
theorem valid_is {n cap : Nat} {A : Option Addr} {k x y z t c : Int} {r : Bool} (h : Brk.ok n ⟨k, ⟨x, y, z⟩, t, c⟩ = r) (w : World) (hn : n ≤ maxLen) :
    Calls Tryd.prog 93 #[.slice A n cap, .agg #[.int .i64 k, .int .i64 x, .int .i64 y, .int .i64 z, .int .u8 t, .int .u8 c]] w fun e w' => e = .returned (.bool r) ∧ Ext w w' := by
  subst h
  exact valid_c _ _ _ _ _ _ _ _ _ _ hn
/-! The error of kinds and bricks. -/
def brkAt (l : List Brk) (i : Nat) : Brk := l.getD i ⟨0, ⟨0, 0, 0⟩, 0, 0⟩
theorem brkAt_eq {l : List Brk} {k : Nat} {p : Brk} (h : l[k]? = some p) : brkAt l k = p := by simp [brkAt, h]
def bricksB (n : Nat) (bs : List Brk) : Bool := allR bs.length fun i => (brkAt bs i).ok n
def askedErr (ks : List Knd) (bs : List Brk) : Int := if kindsErr ks = 0 then (if bricksB ks.length bs then 0 else 11) else kindsErr ks
theorem askedErr_kinds {ks : List Knd} {bs : List Brk} (h : kindsErr ks ≠ 0) : askedErr ks bs = kindsErr ks := if_neg h
theorem askedErr_bad {ks : List Knd} {bs : List Brk} (h : kindsErr ks = 0) {j : Nat} (hj : j < bs.length) (hb : (brkAt bs j).ok ks.length = false) : askedErr ks bs = 11 := by
  rw [askedErr, if_pos h, bricksB, allR_bad hj hb]
  rfl
theorem askedErr_good {ks : List Knd} {bs : List Brk} (h : kindsErr ks = 0) (hb : ∀ j, j < bs.length → (brkAt bs j).ok ks.length = true) : askedErr ks bs = 0 := by
  rw [askedErr, if_pos h, bricksB, allR_good hb]
  rfl
theorem kindsErr_ge (l : List Knd) : kindsErr l = 0 ∨ kindsErr l = 4 ∨ kindsErr l = 10 := by
  unfold kindsErr
  split
  · exact Or.inr (Or.inl rfl)
  · split
    · exact Or.inl rfl
    · exact Or.inr (Or.inr rfl)
theorem checkKinds_is {qs : List (Knd × KAt)} {A : Option Addr} {cap : Nat} {r : Int} (h : kindsErr (qs.map (·.1)) = r) {w : World} (hk : Kinds w A cap qs) :
    Calls Tryd.prog 22 #[.slice A qs.length cap] w fun e w' => e = .returned (.int .i64 r) ∧ Ext w w' := by
  subst h
  exact checkKinds_c _ _ _ _ hk
set_option maxHeartbeats 3200000 in
theorem check_c (qs : List (Knd × KAt)) (A : Option Addr) (cap : Nat) (bs : List Brk) (B : Option Addr) (cb : Nat) (w : World) (hk : Kinds w A cap qs) (hb : Bricks w B cb bs) :
    Calls Tryd.prog 54 #[.slice A qs.length cap, .slice B bs.length cb] w fun e w' => e = .returned (.int .i64 (askedErr (qs.map (·.1)) bs)) ∧ Ext w w' := by
  have hl1 : qs.length ≤ maxLen := hk.len
  have hl2 : bs.length ≤ 9223372036854775807 := by have := hb.len; unfold maxLen at this; omega
  obtain ⟨r, hr⟩ : ∃ r, kindsErr (qs.map (·.1)) = r := ⟨_, rfl⟩
  by_cases h0 : r = 0
  rotate_left
  · have Hb := Lib.hid (show askedErr (qs.map (·.1)) bs = r by rw [askedErr_kinds (by rw [hr]; exact h0), hr])
    have CK := checkKinds_is hr hk
    have h1 : (r != 0) = true := by simpa using h0
    clear hr h0
    go_enter Tryd.func54, Tryd.ntmps54
    go_wp2_with fail
    refine CK.mono ?_
    rintro v w2 ⟨rfl, E2⟩
    go_wp2_with fail
    go_ret
    exact ⟨by rw [Hb.out]; rfl, E2⟩
  subst h0
  have CK := checkKinds_is hr hk
  have Hr := Lib.hid hr
  clear hr
  have Hml := Lib.hid (show (qs.map (·.1)).length = qs.length from List.length_map _)
  go_enter Tryd.func54, Tryd.ntmps54
  go_wp2_with fail
  refine CK.mono ?_
  rintro v w2 ⟨rfl, E2⟩
  go_wp2_with fail
  go_loopw [15] (fun i wr => ∃ j : Nat, j ≤ bs.length ∧ i = .int .i64 j ∧ Ext w wr ∧ Hid (∀ i, i < j → (brkAt bs i).ok qs.length = true)) (fun i _ => bs.length - (intOf i).toNat)
  case atStart => exact ⟨0, by omega, rfl, E2, Lib.hid (fun i hi => by omega)⟩
  case round =>
    clear E2
    obtain ⟨j, hj, rfl, E, Hj⟩ := hrel
    by_cases hlt : j < bs.length
    · obtain ⟨g, off, ⟨k, ⟨x, y, z⟩, t, c⟩, rfl, hq, -, hg, c0, c1, c2, c3, c4, c5⟩ := (hb.ext E).at_ hlt
      simp only at c0 c1 c2 c3 c4 c5
      have Hq := Lib.hid hq
      clear hq
      obtain ⟨W4, hW4, E4, B4, hz4⟩ := mk_ wr #[.int .i64 k, .int .i64 x, .int .i64 y, .int .i64 z, .int .u8 t, .int .u8 c] 58
      have b4 := B4.cell
      cases hv : Brk.ok qs.length ⟨k, ⟨x, y, z⟩, t, c⟩
      · have Hb := Lib.hid (askedErr_bad (bs := bs) Hr.out hlt (by rw [brkAt_eq Hq.out, Hml.out]; exact hv))
        have HV := Lib.hid (fun W => valid_is (A := A) (cap := cap) hv W hl1)
        clear hv
        go_wp2_with fail
        refine (HV.out _).mono ?_
        rintro v w2 ⟨rfl, E2⟩
        go_wp2_with fail
        go_ret
        exact ⟨by rw [Hb.out]; rfl, (E.trans E4).trans E2⟩
      · have hok : ∀ i, i < j + 1 → (brkAt bs i).ok qs.length = true := fun i hi => by
          rcases Nat.lt_or_ge i j with h' | h'
          · exact Hj.out i h'
          · obtain rfl : i = j := by omega
            rw [brkAt_eq Hq.out]
            exact hv
        have Hok := Lib.hid hok
        have HV := Lib.hid (fun W => valid_is (A := A) (cap := cap) hv W hl1)
        clear hv hok
        go_wp2_with fail
        refine (HV.out _).mono ?_
        rintro v w2 ⟨rfl, E2⟩
        go_wp2_with fail
        go_roundw
        case rel => exact ⟨j + 1, by omega, by go_num, (E.trans E4).trans E2, Hok⟩
        case measure => simp only [intOf]; omega
    · obtain rfl : bs.length = j := by omega
      have Hg := Lib.hid (askedErr_good (bs := bs) Hr.out (by rw [Hml.out]; exact Hj.out))
      go_wp2_with fail
      go_ret
      exact ⟨by rw [Hg.out]; rfl, E⟩
/-- A brick in a new block, as a list of one. -/
theorem brick_new (w : World) (b : Brk) (hb : b.byte) (t : TypeId) : Bricks (w.alloc (.cells #[.int .i64 b.kind, .int .i64 b.at_.x, .int .i64 b.at_.y, .int .i64 b.at_.z, .int .u8 b.turn, .int .u8 b.color] t)) (some ⟨w.heap.size, 0, none⟩) 1 [b] := by
  refine ⟨⟨rfl, Nat.le_refl _, by unfold maxLen; omega, by simp [Brk.cs], fun _ => ⟨_, 0, rfl, by simp, fun i r hr j u hu => ?_⟩⟩, fun x hx => by rw [List.mem_singleton.1 hx]; exact hb⟩
  have hi : i = 0 := by
    rcases Nat.eq_zero_or_pos i with h | h
    · exact h
    · rw [List.getElem?_eq_none (by simp; omega)] at hr; cases hr
  subst hi
  simp only [List.map_cons, List.map_nil, List.getElem?_cons_zero, Option.some.injEq] at hr
  subst hr
  rw [cell_new]
  simpa [Brk.cs] using hu
theorem check1_c (qs : List (Knd × KAt)) (A : Option Addr) (cap : Nat) (k x y z t c : Int) (w : World) (hk : Kinds w A cap qs) (hb : Brk.byte ⟨k, ⟨x, y, z⟩, t, c⟩) (ty : TypeId) :
    Calls Tryd.prog 54 #[.slice A qs.length cap, .slice (some ⟨w.heap.size, 0, none⟩) 1 1] (w.alloc (.cells #[.int .i64 k, .int .i64 x, .int .i64 y, .int .i64 z, .int .u8 t, .int .u8 c] ty)) fun e w' => e = .returned (.int .i64 (askedErr (qs.map (·.1)) [⟨k, ⟨x, y, z⟩, t, c⟩])) ∧ Ext w w' :=
  (check_c qs A cap [⟨k, ⟨x, y, z⟩, t, c⟩] (some ⟨w.heap.size, 0, none⟩) 1 _ (hk.ext ((Ext.refl w).alloc _)) (brick_new w ⟨k, ⟨x, y, z⟩, t, c⟩ hb ty)).mono fun _ _ ⟨he, hE⟩ => ⟨he, ((Ext.refl w).alloc _).trans hE⟩
end Go.Proofs.YtaaeapjnjjbglaaDoor.Lat
namespace Go.Proofs.YtaaeapjnjjbglaaDoor.Lat
open Go.RowKit

def placeP (cells : List Pt) (n : Nat) (p : Pt) : List Pt := cells.map fun c => addP (turnS c n) p
theorem placeP_len (cells : List Pt) (n : Nat) (p : Pt) : (placeP cells n p).length = cells.length := List.length_map _
/-- The first j of a list, and the rest still at 0. -/
def partL {α : Type} (z : α) (l : List α) (j : Nat) : List α := l.take j ++ List.replicate (l.length - j) z
theorem partL_zero {α : Type} (z : α) (l : List α) : partL z l 0 = List.replicate l.length z := by simp [partL]
theorem partL_all {α : Type} (z : α) (l : List α) : partL z l l.length = l := by simp [partL]
theorem partL_len {α : Type} (z : α) (l : List α) {j : Nat} (hj : j ≤ l.length) : (partL z l j).length = l.length := by simp [partL]; omega
theorem partL_set {α : Type} (z : α) (l : List α) {j : Nat} {x : α} (hx : l[j]? = some x) : (partL z l j).set j x = partL z l (j + 1) := by
  have hj : j < l.length := (List.getElem?_eq_some_iff.1 hx).1
  unfold partL
  rw [List.take_add_one, hx, List.set_append_right _ _ (by rw [List.length_take]; omega)]
  have e : l.length - j = (l.length - (j + 1)) + 1 := by omega
  rw [e, List.replicate_succ]
  simp [Nat.min_eq_left (Nat.le_of_lt hj)]
theorem partL_at {α : Type} (z : α) (l : List α) {j : Nat} (hj : j < l.length) : (partL z l j)[j]? = some z := by
  unfold partL
  rw [List.getElem?_append_right (by rw [List.length_take]; omega), List.length_take, Nat.min_eq_left (Nat.le_of_lt hj), Nat.sub_self, List.getElem?_replicate, if_pos (by omega)]
theorem infoPt : (Tryd.prog.info? 56).map (fun i => (i.zero, i.size, i.bytes)) = some (some (.agg #[.int .i64 0, .int .i64 0, .int .i64 0]), 3, 24) := by kernel_rfl
theorem make_pts (n : Nat) (hn : n ≤ 1000) (w : World) : (Instr.makeSlice 59 (.int .i64 (n : Int)) (.int .i64 (n : Int))).run Tryd.prog w = .ok (.slice (some ⟨w.heap.size, 0, none⟩) n n) (w.alloc (.cells (ptsA (List.replicate n ⟨0, 0, 0⟩)) 56)) := by
  obtain ⟨i0, hi, hz0, hz1, hz2⟩ := info_parts infoPt
  have h := run_make (P := Tryd.prog) w 59 56 i0 (.agg #[.int .i64 0, .int .i64 0, .int .i64 0]) Tryd.underlying59 hi hz0 .i64 .i64 (n : Int) (n : Int) (by omega) (Int.le_refl _) (by rw [hz2]; omega) (by omega)
  rw [h]
  have e : madeCells (Value.cells (.agg #[.int .i64 0, .int .i64 0, .int .i64 0])) ((n : Int).toNat * i0.size) = ptsA (List.replicate n ⟨0, 0, 0⟩) := by
    rw [hz1, Int.toNat_natCast, rowsA_made (sz := 3) rfl (by omega)]
    unfold ptsA
    rw [List.map_replicate]
    rfl
  rw [e]
  simp
/-- New cells: a block that was not there. -/
def CellsPost (l : List Pt) (n : Nat) (w : World) (e : Ending) (w' : World) : Prop := ∃ g, w.heap.size ≤ g ∧ e = .returned (.slice (some ⟨g, 0, none⟩) n n) ∧ Blk w' g 56 (ptsA l) ∧ Ext w w'
set_option maxRecDepth 100000 in
set_option maxHeartbeats 8000000 in
theorem cells_c (cells : List Pt) (m cb : Nat) (wt : Int) (A : Option Addr) (ca : Nat) (B : Option Addr) (n : Nat) (x y z : Int) (w : World) (hc : Cells w A ca cells) (hl : cells.length ≤ 1000) (hok : ∀ p ∈ cells, p.ok) (hn : n < 24) (hp : Pt.ok ⟨x, y, z⟩) :
    Calls Tryd.prog 55 #[.agg #[.slice A cells.length ca, .slice B m cb, .int .i64 wt], .int .i64 n, .agg #[.int .i64 x, .int .i64 y, .int .i64 z]] w (CellsPost (sortP (placeP cells n ⟨x, y, z⟩)) cells.length w) := by
  have hmk := make_pts cells.length (by omega)
  obtain ⟨W1, hW1, E1, B1, hz1⟩ := mk_ w #[.slice A cells.length ca, .slice B m cb, .int .i64 wt] 77
  obtain ⟨W2, hW2, E2, B2, hz2⟩ := mk_ W1 #[.int .i64 x, .int .i64 y, .int .i64 z] 56
  obtain ⟨W3, hW3, E3, B3, hz3⟩ := mk_ W2 (ptsA (List.replicate cells.length ⟨0, 0, 0⟩)) 56
  rw [hz1] at B2
  rw [hz2, hz1] at B3
  have B1' := B1.ext E2
  have b1 := B1'.cell
  have b3 := (B1'.ext E3).cell
  have E13 := (E1.trans E2).trans E3
  go_enter Tryd.func55, Tryd.ntmps55
  go_wp2_with fail
  have BK := B1'.ext E3
  have BP := B2.ext E3
  rw [← placeP_len cells n ⟨x, y, z⟩, ← partL_zero] at B3
  clear hW1 hW2 hW3 hz1 hz2 hz3 b1 b3 B1 B1' B2 hmk E1 E2 E3
  have Hpl := Lib.hid (placeP_len cells n ⟨x, y, z⟩)
  obtain ⟨S, hS⟩ : ∃ S, w.heap.size = S := ⟨_, rfl⟩
  rw [hS] at B3 BK BP ⊢
  have HS := Lib.hid hS
  clear hS
  go_loopw [17] (fun i wr => ∃ j : Nat, j ≤ cells.length ∧ i = .int .i64 j ∧ Ext w wr ∧ Blk wr S 77 #[.slice A cells.length ca, .slice B m cb, .int .i64 wt] ∧ Blk wr (S + 1) 56 #[.int .i64 x, .int .i64 y, .int .i64 z] ∧ Blk wr (S + 1 + 1) 56 (ptsA (partL ⟨0, 0, 0⟩ (placeP cells n ⟨x, y, z⟩) j))) (fun i _ => cells.length - (intOf i).toNat)
  case atStart => exact ⟨0, by omega, rfl, E13, BK, BP, B3⟩
  case round =>
    clear B3 BK BP E13
    obtain ⟨j, hj, rfl, E, BK, BP, BO⟩ := hrel
    by_cases hlt : j < cells.length
    · obtain ⟨g, off, ⟨qx, qy, qz⟩, rfl, hq, hg, c0, c1, c2⟩ := hc.at_ hlt
      simp only at c0 c1 c2
      have d0 := E.cell c0
      have d1 := E.cell c1
      have d2 := E.cell c2
      clear c0 c1 c2
      have hqo := hok _ (List.mem_of_getElem? hq)
      have hset : (placeP cells n ⟨x, y, z⟩)[j]? = some (addP (turnS ⟨qx, qy, qz⟩ n) ⟨x, y, z⟩) := by
        unfold placeP
        rw [List.getElem?_map, hq]
        rfl
      have Hset := Lib.hid hset
      clear hq hset
      have i1 : (0 : Int) ≤ j := by omega
      have i2 : (j : Int) < cells.length := by omega
      obtain ⟨W4, hW4, E4, B4, hz4⟩ := mk_ wr #[.int .i64 qx, .int .i64 qy, .int .i64 qz] 56
      have b4 := B4.cell
      have b2 := (BP.ext E4).cell
      go_upto_region 5 with (fail)
      refine wp_region_tail 8 (by kernel_rfl) (by kernel_rfl) ?_
      simp only [List.take_succ_cons, List.take_zero, List.drop_succ_cons, List.drop_zero]
      repeat (go_big_quiet_step ((first | (go_at_call 85; exact quiet_ext (turn_c qx qy qz n _ hn hqo)) | (go_at_call 90; exact quiet_ext (plus_c _ _ _ _ _ _ _ (turnS_ok hqo n) hp)))))
      refine wpQuiet_nil ?_
      intro W5 hW5
      have E5 : Ext W4 W5 := by
        obtain ⟨x, rfl⟩ := hW5
        exact (Ext.refl _).grow x
      clear hW5
      obtain ⟨hcW5, hfW5, hzW5⟩ := ext_facts E5
      have BO' := (BO.ext E4).ext E5
      unfold ptsA at BO'
      obtain ⟨W6, hW6, B6, far6, ext6, hz6⟩ := BO'.row3 (pts_wide _) (k := j) (by rw [List.length_map, partL_len _ _ (by rw [Hpl.out]; omega), Hpl.out]; omega) (.int .i64 ((turnS ⟨qx, qy, qz⟩ n).x + x)) (.int .i64 ((turnS ⟨qx, qy, qz⟩ n).y + y)) (.int .i64 ((turnS ⟨qx, qy, qz⟩ n).z + z))
      have f6 := BO'.frozen
      have hz0 : ((partL (⟨0, 0, 0⟩ : Pt) (placeP cells n ⟨x, y, z⟩) j).map Pt.cs)[j]? = some (Pt.cs ⟨0, 0, 0⟩) := by rw [List.getElem?_map, partL_at _ _ (by rw [Hpl.out]; exact hlt)]; rfl
      have y0 := (BO'.cell (j * 3 + 0)).trans (rowsA_get (pts_wide _) hz0 (j := 0) rfl)
      have y1 := (BO'.cell (j * 3 + 1)).trans (rowsA_get (pts_wide _) hz0 (j := 1) rfl)
      have y2 := (BO'.cell (j * 3 + 2)).trans (rowsA_get (pts_wide _) hz0 (j := 2) rfl)
      simp only [Nat.add_zero] at y0
      clear hz0
      go_wp2_with fail
      go_roundw
      case rel => exact ⟨j + 1, by omega, by go_num, ext6 _ ((E.trans E4).trans E5) (by have := HS.out; omega), far6 _ _ _ (by omega) ((BK.ext E4).ext E5), far6 _ _ _ (by omega) ((BP.ext E4).ext E5), by
        rw [← partL_set _ _ Hset.out]
        unfold ptsA
        rw [List.map_set]
        exact B6⟩
      case measure => simp only [intOf]; omega
    · obtain rfl : cells.length = j := by omega
      have hpa : partL ⟨0, 0, 0⟩ (placeP cells n ⟨x, y, z⟩) cells.length = placeP cells n ⟨x, y, z⟩ := by
        have := partL_all ⟨0, 0, 0⟩ (placeP cells n ⟨x, y, z⟩)
        rwa [Hpl.out] at this
      rw [hpa] at BO
      have SF := sortFunc_c (placeP cells n ⟨x, y, z⟩) (S + 1 + 1) wr BO (by rw [Hpl.out]; omega)
      rw [Hpl.out] at SF
      clear hpa
      go_wp2_with fail
      refine SF.mono ?_
      rintro v w2 ⟨rfl, B2, G2⟩
      go_wp2_with fail
      go_ret
      exact ⟨S + 1 + 1, by have := HS.out; omega, rfl, B2, E.grown G2 (fun k hk => by cases hk; have := HS.out; omega)⟩
end Go.Proofs.YtaaeapjnjjbglaaDoor.Lat

namespace Go.Proofs.YtaaeapjnjjbglaaDoor
open Go.RowKit

def cellPt (p : Plate) (i : Nat) : Lat.Pt := ⟨(i : Int) % p.W, (i : Int) / p.W, 0⟩
def knbPt (p : Plate) (i : Nat) (d s : Int) : Lat.Knb := ⟨cellPt p i, d, s⟩
def knbsL (p : Plate) : Nat → List Lat.Knb
  | 0 => []
  | n + 1 => knbsL p n ++ [knbPt p n 4 1, knbPt p n 5 2]
def kndOf (p : Plate) : Lat.Knd := ⟨(List.range (areaP p)).map (cellPt p), knbsL p (areaP p), p.W * p.D⟩
theorem knbsL_cs (p : Plate) : ∀ n, (knbsL p n).map Lat.Knb.cs = knobRows p n
  | 0 => rfl
  | n + 1 => by
    show (knbsL p n ++ [knbPt p n 4 1, knbPt p n 5 2]).map Lat.Knb.cs = knobRows p n ++ [kknob p n 4 1, kknob p n 5 2]
    rw [List.map_append, knbsL_cs p n]
    rfl
theorem knbsL_len (p : Plate) : ∀ n, (knbsL p n).length = 2 * n
  | 0 => rfl
  | n + 1 => by
    show (knbsL p n ++ [knbPt p n 4 1, knbPt p n 5 2]).length = _
    rw [List.length_append, knbsL_len p n]
    simp
    omega
theorem knbsL_byte (p : Plate) : ∀ n, ∀ x ∈ knbsL p n, x.byte
  | 0, x, h => by cases h
  | n + 1, x, h => by
    have h : x ∈ knbsL p n ++ [knbPt p n 4 1, knbPt p n 5 2] := h
    rcases List.mem_append.1 h with h | h
    · exact knbsL_byte p n x h
    · simp only [List.mem_cons, List.not_mem_nil, or_false] at h
      rcases h with rfl | rfl <;> (unfold Lat.Knb.byte knbPt; simp)
theorem kndOf_cells (p : Plate) : (kndOf p).cells.map Lat.Pt.cs = cellRows p (areaP p) := by
  unfold kndOf cellRows
  rw [List.map_map]
  rfl
theorem kndOf_len (p : Plate) : (kndOf p).cells.length = areaP p := by simp [kndOf]
theorem kndOf_klen (p : Plate) : (kndOf p).knobs.length = 2 * areaP p := knbsL_len p _
theorem kind_at {w : World} {T : Nat} {r : List Value} {p : Plate} (h : KindOwn w T r p) : ∃ q : Lat.KAt, r = (kndOf p).cs q ∧ Lat.KindAt w q (kndOf p) := by
  obtain ⟨CA, cc, KA, kc, h1, h2, h3⟩ := h
  refine ⟨⟨CA, cc, KA, kc⟩, ?_, ⟨?_, ?_, knbsL_byte p _⟩⟩
  · rw [h1]
    unfold Lat.Knd.cs
    rw [kndOf_len, kndOf_klen]
    rfl
  · show SliceIs w CA (kndOf p).cells.length cc 3 ((kndOf p).cells.map Lat.Pt.cs)
    rw [kndOf_cells, kndOf_len]
    exact own_any (by decide) (fun r hr => by obtain ⟨x, y, z, rfl⟩ := cellRows_row p _ r hr; rfl) (cellRows_len p _) h2
  · show SliceIs w KA (kndOf p).knobs.length kc 5 ((kndOf p).knobs.map Lat.Knb.cs)
    rw [show (kndOf p).knobs = knbsL p (areaP p) from rfl, knbsL_cs, knbsL_len]
    exact own_any (by decide) (fun r hr => by obtain ⟨x, y, z, d, s, rfl⟩ := knobRows_row p _ r hr; rfl) (knobRows_len p _) h3
theorem kinds_at {w : World} {T : Nat} {l : List Plate} {rows : List (List Value)} {OA : Option Addr} {oc : Nat} (own : w.ownsRow T 77 3 (.slice OA l.length oc) l.length rows.flatten) (h : KindsOwn w T l l.length rows) :
    ∃ qs : List (Lat.Knd × Lat.KAt), qs.map (·.1) = l.map kndOf ∧ Lat.Kinds w OA oc qs := by
  obtain ⟨hn, hr⟩ := h
  obtain ⟨qs, hl, hq⟩ := list_of (fun i (q : Lat.Knd × Lat.KAt) => ∃ p r, l[i]? = some p ∧ rows[i]? = some r ∧ q.1 = kndOf p ∧ r = q.1.cs q.2 ∧ Lat.KindAt w q.2 q.1) l.length (fun i hi => by
    have hp := List.getElem?_eq_getElem hi
    have hr2 := List.getElem?_eq_getElem (show i < rows.length by omega)
    obtain ⟨q, h1, h2⟩ := kind_at (hr i _ _ hr2 hp).1
    exact ⟨(kndOf l[i], q), _, _, hp, hr2, rfl, h1, h2⟩)
  have e1 : qs.map (·.1) = l.map kndOf := by
    apply List.ext_getElem?
    intro i
    rw [List.getElem?_map, List.getElem?_map]
    rcases Nat.lt_or_ge i l.length with hi | hi
    · obtain ⟨q, hqi⟩ : ∃ q, qs[i]? = some q := ⟨_, List.getElem?_eq_getElem (by omega)⟩
      obtain ⟨p, r, h1, -, h3, -⟩ := hq i q hqi
      rw [hqi, h1, Option.map_some, Option.map_some, h3]
    · rw [List.getElem?_eq_none (by omega), List.getElem?_eq_none hi]
      rfl
  have e2 : qs.map (fun q => q.1.cs q.2) = rows := by
    apply List.ext_getElem?
    intro i
    rw [List.getElem?_map]
    rcases Nat.lt_or_ge i l.length with hi | hi
    · obtain ⟨q, hqi⟩ : ∃ q, qs[i]? = some q := ⟨_, List.getElem?_eq_getElem (by omega)⟩
      obtain ⟨p, r, -, h2, -, h4, -⟩ := hq i q hqi
      rw [hqi, h2, Option.map_some, h4]
    · rw [List.getElem?_eq_none (by omega), List.getElem?_eq_none (by omega)]
      rfl
  refine ⟨qs, e1, ⟨?_, fun q hm => ?_⟩⟩
  · rw [e2, hl]
    exact own_any (by decide) (fun r hm => by
      obtain ⟨k, hk⟩ := List.getElem?_of_mem hm
      have hk2 : k < l.length := by have := (List.getElem?_eq_some_iff.1 hk).1; omega
      exact (hr k r _ hk (List.getElem?_eq_getElem hk2)).2) hn own
  · obtain ⟨k, hk⟩ := List.getElem?_of_mem hm
    obtain ⟨p, r, -, -, -, -, h⟩ := hq k q hk
    exact h
/-! ### bricks -/
def brkOf (s : Shape) (l : List Plate) (a : Laid) : Lat.Brk := ⟨a.plate, ⟨brickX l a, a.y, a.z⟩, (if a.turned then 1 else 0), s.colorAt a.x a.y a.z⟩
theorem brkOf_cs (s : Shape) (l : List Plate) (a : Laid) : (brkOf s l a).cs = brickCells s l a := by
  unfold brkOf Lat.Brk.cs brickCells
  cases a.turned <;> rfl
theorem bricks_at {w : World} {T : Nat} {s : Shape} {l : List Plate} {c : List Laid} {MA : Option Addr} {mc : Nat} (hb : ∀ x ∈ s.cells, byteOk x) (own : w.ownsRow T 58 6 (.slice MA c.length mc) c.length (bricksV s l c c.length)) : Lat.Bricks w MA mc (c.map (brkOf s l)) := by
  refine ⟨?_, fun b hm => ?_⟩
  · rw [List.length_map, List.map_map]
    have e : (c.map (Lat.Brk.cs ∘ brkOf s l)) = c.map (brickCells s l) := List.map_congr_left fun a _ => brkOf_cs s l a
    rw [e]
    unfold bricksV at own
    rw [List.take_length] at own
    exact own_any (by decide) (fun r hr => by obtain ⟨a, -, rfl⟩ := List.mem_map.1 hr; rfl) (by rw [List.length_map]) own
  · obtain ⟨a, -, rfl⟩ := List.mem_map.1 hm
    refine ⟨?_, colorAt_lo s hb _ _ _⟩
    show 0 ≤ (if a.turned then (1 : Int) else 0) ∧ (if a.turned then (1 : Int) else 0) ≤ 255
    split <;> omega
/-- The brick's cells are the laid plate's. -/
theorem placed_has {l : List Plate} {a : Laid} (okl : platesB l = true) (hp : 0 ≤ a.plate ∧ a.plate < l.length) {q : Lat.Pt} (hq : q ∈ Lat.placeP (kndOf (plateAt l a.plate.toNat)).cells (if a.turned then 1 else 0) ⟨brickX l a, a.y, a.z⟩) : hasB l a q.x q.y q.z = true := by
  have hpl : l[a.plate.toNat]? = some (plateAt l a.plate.toNat) := by
    unfold plateAt
    rw [List.getD_eq_getElem?_getD, List.getElem?_eq_getElem (by omega)]
    rfl
  have pok := plate_ok okl hpl
  obtain ⟨p, hpp⟩ : ∃ p, plateAt l a.plate.toNat = p := ⟨_, rfl⟩
  have hx : brickX l a = if a.turned then a.x + p.D - 1 else a.x := by unfold brickX; rw [hpp]
  have hw : sizeW l a = if a.turned then p.D else p.W := by unfold sizeW; rw [hpp]
  have hd : sizeD l a = if a.turned then p.W else p.D := by unfold sizeD; rw [hpp]
  rw [hpp] at hq pok
  obtain ⟨c0, hc0, rfl⟩ := List.mem_map.1 hq
  obtain ⟨i, hi, rfl⟩ := List.mem_map.1 (show c0 ∈ (List.range (areaP p)).map (cellPt p) from hc0)
  have hi := List.mem_range.1 hi
  have w1 := pok.w
  have d1 := pok.d
  have e0 := Int.emod_nonneg (i : Int) (show p.W ≠ 0 by omega)
  have e1 := Int.emod_lt_of_pos (i : Int) (show 0 < p.W by omega)
  have e2 : 0 ≤ (i : Int) / p.W := Int.ediv_nonneg (by omega) (by omega)
  have hprod : 0 ≤ p.W * p.D := Int.mul_nonneg (by omega) (by omega)
  have e3 : (i : Int) / p.W < p.D := by
    refine Int.ediv_lt_of_lt_mul (by omega) ?_
    unfold areaP at hi
    rw [Int.mul_comm]
    omega
  rw [hasB_iff, hw, hd, hx]
  cases a.turned
  · show (0 : Int) + a.z = a.z ∧ (a.x ≤ (i : Int) % p.W + a.x ∧ (i : Int) % p.W + a.x ≤ a.x + p.W - 1) ∧ a.y ≤ (i : Int) / p.W + a.y ∧ (i : Int) / p.W + a.y ≤ a.y + p.D - 1
    omega
  · show (0 : Int) + a.z = a.z ∧ (a.x ≤ -((i : Int) / p.W) + (a.x + p.D - 1) ∧ -((i : Int) / p.W) + (a.x + p.D - 1) ≤ a.x + p.D - 1) ∧ a.y ≤ (i : Int) % p.W + a.y ∧ (i : Int) % p.W + a.y ≤ a.y + p.W - 1
    omega
end Go.Proofs.YtaaeapjnjjbglaaDoor

-- holds: Api1 BrickB CellsP CheckKind Composed Has KindS KnobsP Like LikeS Near Ord RKind RKnobbed RPlaced RSorted RValidKind SameL SortC SortLaid Step Turn TurnD Turned Turners
namespace Go.Proofs.YtaaeapjnjjbglaaDoor.Lat
open Go.RowKit

/-- One number in a new block, as a list of numbers. -/
theorem ints1 (w : World) (n : Int) (t : TypeId) : SliceIs (w.alloc (.cells #[.int .i64 n] t)) (some ⟨w.heap.size, 0, none⟩) 1 1 1 ([n].map fun n => [.int .i64 n]) := by
  refine ⟨rfl, Nat.le_refl _, by unfold maxLen; omega, by simp, fun _ => ⟨_, 0, rfl, by simp, fun i r hr j u hu => ?_⟩⟩
  have hi : i = 0 := by
    rcases Nat.eq_zero_or_pos i with h | h
    · exact h
    · rw [List.getElem?_eq_none (by simp; omega)] at hr; cases hr
  subst hi
  simp at hr
  subst hr
  have hj : j = 0 := by
    rcases Nat.eq_zero_or_pos j with h | h
    · exact h
    · rw [List.getElem?_eq_none (by simp; omega)] at hu; cases hu
  subst hj
  simp at hu
  subst hu
  rw [cell_new]
  rfl
theorem isTurn1_c (w : World) (n : Int) (t : TypeId) :
    Calls Tryd.prog 84 #[.slice (some ⟨w.heap.size, 0, none⟩) 1 1] (w.alloc (.cells #[.int .i64 n] t)) fun e w' => e = .returned (.bool (inB 0 23 n)) ∧ w.alloc (.cells #[.int .i64 n] t) = w' :=
  (isTurn_c _ 1 [n] _ (ints1 w n t)).mono fun e w' ⟨he, hw⟩ => ⟨by rw [he]; simp [allTurn], hw⟩

def turnOk (p : Pt) (n : Int) : Prop := nearB p (-2000) 2000 = true ∧ 0 ≤ n ∧ n < 24
theorem near_ok {p : Pt} (h : nearB p (-2000) 2000 = true) : p.ok := by
  have := nearB_iff.1 h
  unfold Pt.ok CB
  omega

set_option maxHeartbeats 800000 in
theorem Turn_ok (x y z : Int) (n : Nat) (w : World) (hn : n < 24) (hp : nearB ⟨x, y, z⟩ (-2000) 2000 = true) :
    Calls Tryd.prog 51 #[.agg #[.int .i64 x, .int .i64 y, .int .i64 z], .int .i64 n] w fun e w' =>
      e = .returned (.tuple #[.agg #[.int .i64 (turnS ⟨x, y, z⟩ n).x, .int .i64 (turnS ⟨x, y, z⟩ n).y, .int .i64 (turnS ⟨x, y, z⟩ n).z], .int .i64 0]) ∧ Ext w w' := by
  have hok := near_ok hp
  have hi : inB 0 23 (n : Int) = true := inB_iff.2 (by omega)
  obtain ⟨W, hW, E, ba, bb, hz⟩ := boxes2 w #[.int .i64 x, .int .i64 y, .int .i64 z] #[.int .i64 0, .int .i64 0, .int .i64 0] 56 56
  have B0 : Blk W w.heap.size 56 #[.int .i64 x, .int .i64 y, .int .i64 z] := by rw [← hW]; exact (Blk.new _ _ _).alloc _
  have B1 : Blk W (w.heap.size + 1) 56 #[.int .i64 0, .int .i64 0, .int .i64 0] := by
    rw [← hW]
    have := Blk.new (w.alloc (.cells #[.int .i64 x, .int .i64 y, .int .i64 z] 56)) #[.int .i64 0, .int .i64 0, .int .i64 0] 56
    rwa [World.size_alloc] at this
  go_enter Tryd.func51, Tryd.ntmps51
  go_wp2_with fail
  refine (near_c x y z _ _ _).mono ?_
  rintro e w1 ⟨rfl, E1⟩
  go_wp2_with fail
  refine (isTurn1_c w1 n _).mono ?_
  rintro e w2 ⟨rfl, rfl⟩
  have B02 := (B0.ext E1).alloc (.cells #[.int .i64 n] 3)
  have B12 := (B1.ext E1).alloc (.cells #[.int .i64 n] 3)
  have E2 := (E.trans E1).alloc (.cells #[.int .i64 n] 3)
  have c2 := B02.cell
  obtain ⟨w2, hw2⟩ : ∃ w2, w1.alloc (.cells #[.int .i64 n] 3) = w2 := ⟨_, rfl⟩
  rw [hw2] at B02 B12 E2 c2
  go_wp2_with fail
  refine (turn_c x y z n _ hn hok).mono ?_
  rintro e w3 ⟨rfl, E3⟩
  have B13 := B12.ext E3
  have c3 := B13.cell
  have f3 := B13.frozen
  obtain ⟨q, hq⟩ : ∃ q, turnS ⟨x, y, z⟩ n = q := ⟨_, rfl⟩
  rw [hq]
  have Hq := Lib.hid hq
  clear hq
  go_wp2_with fail
  refine bodyPost_ret (v := .tuple #[.agg #[.int .i64 q.x, .int .i64 q.y, .int .i64 q.z], .int .i64 0]) (by simp [results, Tryd.results51, go_sem, c3]) rfl ⟨by rw [Hq.out], ?_⟩
  exact (((E2.trans E3).setCell (Nat.le_succ _) _).setCell (Nat.le_succ _) _).setCell (Nat.le_succ _) _

set_option maxHeartbeats 800000 in
theorem Turn_bad (x y z n : Int) (w : World) (hb : ¬ turnOk ⟨x, y, z⟩ n) :
    Calls Tryd.prog 51 #[.agg #[.int .i64 x, .int .i64 y, .int .i64 z], .int .i64 n] w fun e w' =>
      e = .returned (.tuple #[.agg #[.int .i64 0, .int .i64 0, .int .i64 0], .int .i64 2]) ∧ Ext w w' := by
  obtain ⟨W, hW, E, ba, bb, hz⟩ := boxes2 w #[.int .i64 x, .int .i64 y, .int .i64 z] #[.int .i64 0, .int .i64 0, .int .i64 0] 56 56
  have B1 : Blk W (w.heap.size + 1) 56 #[.int .i64 0, .int .i64 0, .int .i64 0] := by
    rw [← hW]
    have := Blk.new (w.alloc (.cells #[.int .i64 x, .int .i64 y, .int .i64 z] 56)) #[.int .i64 0, .int .i64 0, .int .i64 0] 56
    rwa [World.size_alloc] at this
  cases hp : nearB ⟨x, y, z⟩ (-2000) 2000
  · clear hb
    go_enter Tryd.func51, Tryd.ntmps51
    go_wp2_with fail
    refine (near_c x y z _ _ _).mono ?_
    rintro e w1 ⟨rfl, E1⟩
    have B12 := B1.ext E1
    have c3 := B12.cell
    have f3 := B12.frozen
    go_wp2_with fail
    refine bodyPost_ret (v := .tuple #[.agg #[.int .i64 0, .int .i64 0, .int .i64 0], .int .i64 2]) (by simp [results, Tryd.results51, go_sem, c3]) rfl ⟨rfl, ?_⟩
    exact (((E.trans E1).setCell (Nat.le_succ _) _).setCell (Nat.le_succ _) _).setCell (Nat.le_succ _) _
  · have hi : inB 0 23 n = false := inB_not.2 (fun h => hb ⟨hp, h.1, by omega⟩)
    clear hb
    go_enter Tryd.func51, Tryd.ntmps51
    go_wp2_with fail
    refine (near_c x y z _ _ _).mono ?_
    rintro e w1 ⟨rfl, E1⟩
    go_wp2_with fail
    refine (isTurn1_c w1 n _).mono ?_
    rintro e w2 ⟨rfl, rfl⟩
    have B12 := (B1.ext E1).alloc (.cells #[.int .i64 n] 3)
    have E2 := (E.trans E1).alloc (.cells #[.int .i64 n] 3)
    obtain ⟨w2, hw2⟩ : ∃ w2, w1.alloc (.cells #[.int .i64 n] 3) = w2 := ⟨_, rfl⟩
    rw [hw2] at B12 E2
    have c3 := B12.cell
    have f3 := B12.frozen
    go_wp2_with fail
    refine bodyPost_ret (v := .tuple #[.agg #[.int .i64 0, .int .i64 0, .int .i64 0], .int .i64 2]) (by simp [results, Tryd.results51, go_sem, c3]) rfl ⟨rfl, ?_⟩
    exact ((E2.setCell (Nat.le_succ _) _).setCell (Nat.le_succ _) _).setCell (Nat.le_succ _) _

/-- Where a turn takes a direction. -/
def dirT (d n : Nat) : Nat := ((List.range 6).find? fun i => (stepS i).eqB (turnS (stepS d) n)).getD 0
theorem dirT_all : ∀ d, d < 6 → ∀ n, n < 24 → (dirT d n < 6 ∧ Pt.eqB (stepS (dirT d n)) (turnS (stepS d) n) = true) := by decide +kernel
theorem dirT_lt {d n : Nat} (hd : d < 6) (hn : n < 24) : dirT d n < 6 := (dirT_all d hd n hn).1
theorem dirT_eq {d n : Nat} (hd : d < 6) (hn : n < 24) : turnS (stepS d) n = stepS (dirT d n) := (Pt.eqB_iff.1 (dirT_all d hd n hn).2).symm

end Go.Proofs.YtaaeapjnjjbglaaDoor.Lat
namespace Go.Proofs.YtaaeapjnjjbglaaDoor.Lat
open Go.RowKit

def knobT (n : Nat) (p : Pt) (x : Knb) : Knb := ⟨addP (turnS x.at_ n) p, dirT x.dir.toNat n, x.sort⟩
def placeK (knobs : List Knb) (n : Nat) (p : Pt) : List Knb := knobs.map (knobT n p)
theorem placeK_len (knobs : List Knb) (n : Nat) (p : Pt) : (placeK knobs n p).length = knobs.length := List.length_map _
def knbsA (l : List Knb) : Array Value := rowsA (l.map Knb.cs)
theorem knbs_wide (l : List Knb) : ∀ r ∈ l.map Knb.cs, r.length = 5 := fun r h => by
  obtain ⟨p, _, rfl⟩ := List.mem_map.1 h
  rfl
theorem infoKnb : (Tryd.prog.info? 110).map (fun i => (i.zero, i.size, i.bytes)) = some (some (.agg #[.int .i64 0, .int .i64 0, .int .i64 0, .int .u8 0, .int .u8 0]), 5, 32) := by kernel_rfl
def zK : Knb := ⟨⟨0, 0, 0⟩, 0, 0⟩
theorem make_knbs (n : Nat) (hn : n ≤ 1000) (w : World) : (Instr.makeSlice 75 (.int .i64 (n : Int)) (.int .i64 (n : Int))).run Tryd.prog w = .ok (.slice (some ⟨w.heap.size, 0, none⟩) n n) (w.alloc (.cells (knbsA (List.replicate n zK)) 110)) := by
  obtain ⟨i0, hi, hz0, hz1, hz2⟩ := info_parts infoKnb
  have h := run_make (P := Tryd.prog) w 75 110 i0 _ Tryd.underlying75 hi hz0 .i64 .i64 (n : Int) (n : Int) (by omega) (Int.le_refl _) (by rw [hz2]; omega) (by omega)
  rw [h]
  have e : madeCells (Value.cells (.agg #[.int .i64 0, .int .i64 0, .int .i64 0, .int .u8 0, .int .u8 0])) ((n : Int).toNat * i0.size) = knbsA (List.replicate n zK) := by
    rw [hz1, Int.toNat_natCast, rowsA_made (sz := 5) rfl (by omega)]
    unfold knbsA
    rw [List.map_replicate]
    rfl
  rw [e]
  simp
def KnobsPost (l : List Knb) (n : Nat) (w : World) (e : Ending) (w' : World) : Prop := ∃ g, w.heap.size ≤ g ∧ e = .returned (.slice (some ⟨g, 0, none⟩) n n) ∧ Blk w' g 110 (knbsA l) ∧ Ext w w'
/-- A knob that can be placed. -/
def Knb.fine (x : Knb) : Prop := x.at_.ok ∧ 0 ≤ x.dir ∧ x.dir ≤ 5
end Go.Proofs.YtaaeapjnjjbglaaDoor.Lat
namespace Go.Proofs.YtaaeapjnjjbglaaDoor.Lat
open Go.RowKit

/-- n does what a and then b do, to two cells. -/
def compB (a b n : Nat) : Bool := Pt.eqB (turnS ⟨1, 0, 0⟩ n) (turnS (turnS ⟨1, 0, 0⟩ a) b) && Pt.eqB (turnS ⟨0, 1, 0⟩ n) (turnS (turnS ⟨0, 1, 0⟩ a) b)
/-- The turn that does what a and then b do. -/
def compT (a b : Nat) : Nat := ((List.range 24).find? (compB a b)).getD 0
theorem find_at (f : Nat → Bool) (N k : Nat) (hk : k < N) (h : ∀ j, j < k → f j = false) (hf : f k = true) : (List.range N).find? f = some k := by
  rw [List.find?_range_eq_some]
  exact ⟨hf, List.mem_range.2 hk, fun j hj => by rw [h j hj]; rfl⟩
theorem find_no (f : Nat → Bool) (N : Nat) (h : ∀ j, j < N → f j = false) : (List.range N).find? f = none := by
  rw [List.find?_range_eq_none]
  intro i hi
  rw [h i hi]
  rfl

end Go.Proofs.YtaaeapjnjjbglaaDoor.Lat
namespace Go.Proofs.YtaaeapjnjjbglaaDoor.Lat
open Go.RowKit

theorem flat_snoc (rows : List (List Value)) (r : List Value) : (rows ++ [r]).flatten = rows.flatten ++ r := by simp
theorem take_map_snoc {α : Type} {f : α → List Value} {l : List α} {j : Nat} {x : α} (h : l[j]? = some x) : ((l.take (j + 1)).map f).flatten = ((l.take j).map f).flatten ++ f x := by
  rw [List.take_add_one, h, Option.toList_some, List.map_append, List.map_cons, List.map_nil, flat_snoc]
end Go.Proofs.YtaaeapjnjjbglaaDoor.Lat
namespace Go.Proofs.YtaaeapjnjjbglaaDoor.Lat
open Go.RowKit

theorem infoKnb5 : (Tryd.prog.info? 110).map (fun i => (i.zero, i.size, i.bytes)) = some (some (.agg #[.int .i64 0, .int .i64 0, .int .i64 0, .int .u8 0, .int .u8 0]), 5, 32) := by kernel_rfl
/-- New knobs: nil if there are none. -/
def RKnobsPost (l : List Knb) (n : Nat) (w : World) (e : Ending) (w' : World) : Prop := ∃ A cap, e = .returned (.slice A n cap) ∧ SliceIs w' A n cap 5 (l.map Knb.cs) ∧ (∀ q, A = some q → w.heap.size ≤ q.block) ∧ Ext w w'
/-- New knobs as a row of the call's own: with their type. -/
def RKnobsOwn (l : List Knb) (n : Nat) (w : World) (e : Ending) (w' : World) : Prop := ∃ v, e = .returned v ∧ ∃ b, w.heap.size ≤ b ∧ w'.ownsRow b 110 5 v n (l.map Knb.cs).flatten ∧ Ext w w'
theorem own_slice0 {w : World} {b : Nat} {e : TypeId} {sz : Nat} {v : Value} {n : Nat} {rows : List (List Value)} (hw : ∀ r ∈ rows, r.length = sz) (hn : rows.length = n) (h : w.ownsRow b e sz v n rows.flatten) : ∃ A cap, v = .slice A n cap ∧ SliceIs w A n cap sz rows ∧ (∀ q, A = some q → b ≤ q.block) := by
  rcases h.2 with ⟨hv, h0⟩ | ⟨g, cap, cur, hv, hg, hb, h1, h2, _, _⟩
  · subst h0
    exact ⟨none, 0, hv, ⟨hn, Nat.le_refl _, Nat.zero_le _, hw, fun h => by omega⟩, fun q hq => by cases hq⟩
  · subst hv
    obtain ⟨X, q0, q1, q2⟩ := RowX.of_own h
    exact ⟨_, _, rfl, X.slice hw hn q1 q2, fun q hq => by cases hq; exact q0⟩
end Go.Proofs.YtaaeapjnjjbglaaDoor.Lat
namespace Go.Proofs.YtaaeapjnjjbglaaDoor.Lat
open Go.RowKit

def eqC (a b : List Pt) : Bool := decide (a.length = b.length) && allR a.length fun i => (ptAt a i).eqB (ptAt b i)
theorem eqC_iff {a b : List Pt} : eqC a b = true ↔ a = b := by
  unfold eqC
  rw [Bool.and_eq_true, decide_eq_true_eq]
  constructor
  · rintro ⟨h1, h2⟩
    refine List.ext_getElem h1 fun i hi hj => ?_
    have := Pt.eqB_iff.1 (allR_at h2 hi)
    unfold ptAt at this
    simpa [hi, hj] using this
  · rintro rfl
    exact ⟨rfl, allR_good fun j _ => Pt.eqB_iff.2 rfl⟩
theorem eqC_len {a b : List Pt} (h : ¬ a.length = b.length) : eqC a b = false := by rw [eqC, decide_eq_false h]; rfl
theorem eqC_bad {a b : List Pt} {k : Nat} (hk : k < a.length) (h : (ptAt a k).eqB (ptAt b k) = false) : eqC a b = false := by rw [eqC, allR_bad hk h, Bool.and_false]
theorem eqC_good {a b : List Pt} (hl : a.length = b.length) (h : ∀ j, j < a.length → (ptAt a j).eqB (ptAt b j) = true) : eqC a b = true := by rw [eqC, decide_eq_true hl, allR_good h]; rfl
/-! Knobs. -/
def Knb.eqB (a b : Knb) : Bool := a.at_.eqB b.at_ && (a.dir == b.dir && a.sort == b.sort)
theorem Knb.eqB_iff {a b : Knb} : a.eqB b = true ↔ a = b := by
  obtain ⟨p, d, s⟩ := a
  obtain ⟨q, e, t⟩ := b
  unfold Knb.eqB
  simp only [Bool.and_eq_true, beq_iff_eq, Pt.eqB_iff, Knb.mk.injEq]
theorem knb_eql (a b c d e a' b' c' d' e' : Int) (w : World) : (binOp .eql 110 (.agg #[.int .i64 a, .int .i64 b, .int .i64 c, .int .u8 d, .int .u8 e]) (.agg #[.int .i64 a', .int .i64 b', .int .i64 c', .int .u8 d', .int .u8 e'])).run Tryd.prog w = .ok (.bool (Knb.eqB ⟨⟨a, b, c⟩, d, e⟩ ⟨⟨a', b', c'⟩, d', e'⟩)) w := by
  unfold Knb.eqB Pt.eqB
  by_cases h1 : a = a' <;> by_cases h2 : b = b' <;> by_cases h3 : c = c' <;> by_cases h4 : d = d' <;> by_cases h5 : e = e' <;> simp [go_sem, h1, h2, h3, h4, h5]
theorem knb_neq (a b c d e a' b' c' d' e' : Int) (w : World) : (binOp .neq 110 (.agg #[.int .i64 a, .int .i64 b, .int .i64 c, .int .u8 d, .int .u8 e]) (.agg #[.int .i64 a', .int .i64 b', .int .i64 c', .int .u8 d', .int .u8 e'])).run Tryd.prog w = .ok (.bool (!Knb.eqB ⟨⟨a, b, c⟩, d, e⟩ ⟨⟨a', b', c'⟩, d', e'⟩)) w := by
  unfold Knb.eqB Pt.eqB
  by_cases h1 : a = a' <;> by_cases h2 : b = b' <;> by_cases h3 : c = c' <;> by_cases h4 : d = d' <;> by_cases h5 : e = e' <;> simp [go_sem, h1, h2, h3, h4, h5]
theorem Knb.eqB_comm (p q : Knb) : p.eqB q = q.eqB p := by rw [Bool.eq_iff_iff, Knb.eqB_iff, Knb.eqB_iff]; exact eq_comm
def hasK (l : List Knb) (p : Knb) : Bool := l.any fun q => q.eqB p
theorem hasK_iff {l : List Knb} {p : Knb} : hasK l p = true ↔ p ∈ l := by
  unfold hasK
  rw [List.any_eq_true]
  exact ⟨fun ⟨q, h, e⟩ => Knb.eqB_iff.1 e ▸ h, fun h => ⟨p, h, Knb.eqB_iff.2 rfl⟩⟩
theorem hasK_drop {l : List Knb} {p q : Knb} {k : Nat} (h : l[k]? = some q) : hasK (l.drop k) p = (q.eqB p || hasK (l.drop (k + 1)) p) := by
  obtain ⟨hk, hn⟩ := List.getElem?_eq_some_iff.1 h
  rw [List.drop_eq_getElem_cons hk, hn]
  rfl
/-- Knobs, of bytes or not. -/
def KnobsR (w : World) (A : Option Addr) (cap : Nat) (l : List Knb) : Prop := SliceIs w A l.length cap 5 (l.map Knb.cs)
theorem KnobsR.ext {w w' : World} {A : Option Addr} {cap : Nat} {l : List Knb} (h : KnobsR w A cap l) (e : Ext w w') : KnobsR w' A cap l := SliceIs.ext h e
theorem KnobsR.len {w : World} {A : Option Addr} {cap : Nat} {l : List Knb} (h : KnobsR w A cap l) : l.length ≤ maxLen := Nat.le_trans h.le h.small
theorem KnobsR.at_ {w : World} {A : Option Addr} {cap : Nat} {l : List Knb} (h : KnobsR w A cap l) {k : Nat} (hk : k < l.length) :
    ∃ b off p, A = some ⟨b, off, none⟩ ∧ l[k]? = some p ∧ b < w.heap.size ∧ w.cell? ⟨b, off + k * 5, none⟩ = some (.int .i64 p.at_.x) ∧ w.cell? ⟨b, off + k * 5 + 1, none⟩ = some (.int .i64 p.at_.y) ∧
      w.cell? ⟨b, off + k * 5 + 2, none⟩ = some (.int .i64 p.at_.z) ∧ w.cell? ⟨b, off + k * 5 + 3, none⟩ = some (.int .u8 p.dir) ∧ w.cell? ⟨b, off + k * 5 + 4, none⟩ = some (.int .u8 p.sort) := by
  obtain ⟨b, off, hA, hb, hc⟩ := SliceIs.cells h (by omega)
  have hget : l[k]? = some l[k] := List.getElem?_eq_getElem hk
  have hr : (l.map Knb.cs)[k]? = some l[k].cs := by rw [List.getElem?_map, hget]; rfl
  exact ⟨b, off, l[k], hA, hget, hb, hc k _ hr 0 _ rfl, hc k _ hr 1 _ rfl, hc k _ hr 2 _ rfl, hc k _ hr 3 _ rfl, hc k _ hr 4 _ rfl⟩
/-! SameKnobs. -/
def subK (a b : List Knb) : Bool := allR a.length fun i => hasK b (knbAt a i)
def sameK (a b : List Knb) : Bool := decide (a.length = b.length) && subK a b
theorem subK_iff {a b : List Knb} : subK a b = true ↔ ∀ x ∈ a, x ∈ b := by
  constructor
  · intro h x hx
    obtain ⟨i, hi⟩ := List.getElem?_of_mem hx
    have := allR_at h (List.getElem?_eq_some_iff.1 hi).1
    rwa [knbAt_eq hi, hasK_iff] at this
  · intro h
    exact allR_good fun j hj => by
      rw [hasK_iff, knbAt_eq (List.getElem?_eq_getElem hj)]
      exact h _ (List.getElem_mem hj)
end Go.Proofs.YtaaeapjnjjbglaaDoor.Lat
namespace Go.Proofs.YtaaeapjnjjbglaaDoor.Lat
open Go.RowKit

def Pt.in_ (B : Int) (p : Pt) : Prop := (-B ≤ p.x ∧ p.x ≤ B) ∧ (-B ≤ p.y ∧ p.y ≤ B) ∧ (-B ≤ p.z ∧ p.z ≤ B)
theorem Pt.in_.ok {B : Int} {p : Pt} (h : p.in_ B) (hB : B ≤ 1000000) : p.ok := by
  unfold Pt.in_ at h
  unfold Pt.ok CB
  omega
theorem rotZn_in {B : Int} {p : Pt} (h : p.in_ B) : ∀ k, (rotZn p k).in_ B
  | 0 => h
  | k + 1 => by
    have := rotZn_in h k
    unfold Pt.in_ at *
    unfold rotZn rotZ
    simp only
    omega
theorem turnS_in {B : Int} {p : Pt} (h : p.in_ B) (n : Nat) : (turnS p n).in_ B := by
  have := rotZn_in h (n % 4)
  unfold turnS turnQ
  unfold Pt.in_ at *
  split <;> first | omega | (simp only; omega)
theorem addP_in {B C : Int} {p q : Pt} (h : p.in_ B) (k : q.in_ C) : (addP p q).in_ (B + C) := by
  unfold Pt.in_ at *
  unfold addP
  simp only
  omega
theorem subP_in {B C : Int} {p q : Pt} (h : p.in_ B) (k : q.in_ C) : (subP p q).in_ (B + C) := by
  unfold Pt.in_ at *
  unfold subP
  simp only
  omega
theorem near_in {p : Pt} (h : nearB p 0 15 = true) : p.in_ 15 := by
  rw [nearB_iff] at h
  unfold Pt.in_
  omega
theorem near_in' {p : Pt} (h : nearB p (-1000) 1000 = true) : p.in_ 1000 := by
  rw [nearB_iff] at h
  unfold Pt.in_
  omega
/-- What is used of a valid kind. -/
structure Knd.Fine (k : Knd) : Prop where
  pos : 0 < k.cells.length
  len : k.cells.length ≤ 24
  klen : k.knobs.length ≤ 48
  near : ∀ p ∈ k.cells, p.in_ 15
  knob : ∀ x ∈ k.knobs, x.at_.in_ 15 ∧ 0 ≤ x.dir ∧ x.dir ≤ 5
theorem Knd.fine_of {k : Knd} (h : k.valid = true) (hb : ∀ x ∈ k.knobs, x.byte) : k.Fine := by
  unfold Knd.valid at h
  rw [Bool.and_eq_true, Bool.and_eq_true, sized_iff] at h
  obtain ⟨⟨⟨h1, h2⟩, h3, _, _⟩, h6, h7⟩ := h
  have hnear : ∀ p ∈ k.cells, p.in_ 15 := fun p hp => by
    obtain ⟨i, hi⟩ := List.getElem?_of_mem hp
    have := allR_at h6 (List.getElem?_eq_some_iff.1 hi).1
    rw [cellOk, ptAt_eq hi, Bool.and_eq_true] at this
    exact near_in this.1
  refine ⟨h1, h2, h3, hnear, fun x hx => ?_⟩
  obtain ⟨i, hi⟩ := List.getElem?_of_mem hx
  have := allR_at h7 (List.getElem?_eq_some_iff.1 hi).1
  rw [knobOk, knbAt_eq hi, Bool.and_eq_true, Knb.one_iff] at this
  obtain ⟨⟨g1, _, g3, _⟩, _⟩ := this
  exact ⟨hnear _ (hasP_iff.1 g3), (hb x hx).1.1, g1⟩
theorem Knd.Fine.cok {k : Knd} (h : k.Fine) : ∀ p ∈ k.cells, p.ok := fun p hp => (h.near p hp).ok (by omega)
theorem Knd.Fine.kok {k : Knd} (h : k.Fine) : ∀ x ∈ k.knobs, x.fine := fun x hx => ⟨(h.knob x hx).1.ok (by omega), (h.knob x hx).2⟩
def likeAt (k : Knd) (bt : Nat) (p : Pt) (n : Nat) : Pt := subP (ptAt (sortP (placeP k.cells bt p)) 0) (ptAt (sortP (placeP k.cells n ⟨0, 0, 0⟩)) 0)
def likeB (k : Knd) (bt : Nat) (p : Pt) (n : Nat) : Bool := eqC (sortP (placeP k.cells n (likeAt k bt p n))) (sortP (placeP k.cells bt p)) && subK (placeK k.knobs n (likeAt k bt p n)) (placeK k.knobs bt p)
theorem head_in {k : Knd} (h : k.Fine) (n : Nat) {B : Int} {p : Pt} (hp : p.in_ B) : (ptAt (sortP (placeP k.cells n p)) 0).in_ (15 + B) := by
  have hl : (sortP (placeP k.cells n p)).length = k.cells.length := by rw [sortP_len, placeP_len]
  have h0 : (sortP (placeP k.cells n p))[0]? = some ((sortP (placeP k.cells n p))[0]'(by rw [hl]; exact h.pos)) := List.getElem?_eq_getElem _
  rw [ptAt_eq h0]
  have hm := (sortP_perm _).mem_iff.1 (List.mem_of_getElem? h0)
  obtain ⟨c, hc, e⟩ := List.mem_map.1 (show _ ∈ k.cells.map (fun c => addP (turnS c n) p) from hm)
  rw [← e]
  exact addP_in (turnS_in (h.near c hc) n) hp
theorem likeAt_in {k : Knd} (h : k.Fine) (bt n : Nat) {B : Int} {p : Pt} (hp : p.in_ B) : (likeAt k bt p n).in_ (15 + B + 15) := by
  have h0 : (⟨0, 0, 0⟩ : Pt).in_ 0 := by
    unfold Pt.in_
    simp
  have := subP_in (head_in h bt hp) (head_in h n h0)
  unfold Pt.in_ at *
  unfold likeAt
  omega
theorem cells_of_blk {w : World} {g n : Nat} {l : List Pt} (h : Blk w g 56 (ptsA l)) (hn : l.length = n) (hl : n ≤ 100000) : Cells w (some ⟨g, 0, none⟩) n l := by
  have := Blk.slice (rows := l.map Pt.cs) h (pts_wide l) (by rw [List.length_map]; omega)
  rw [List.length_map, hn] at this
  unfold Cells
  rw [hn]
  exact this
theorem knobs_of_blk {w : World} {g n : Nat} {l : List Knb} (h : Blk w g 110 (knbsA l)) (hn : l.length = n) (hl : n ≤ 100000) : KnobsR w (some ⟨g, 0, none⟩) n l := by
  have := Blk.slice (rows := l.map Knb.cs) h (knbs_wide l) (by rw [List.length_map]; omega)
  rw [List.length_map, hn] at this
  unfold KnobsR
  rw [hn]
  exact this
end Go.Proofs.YtaaeapjnjjbglaaDoor.Lat
namespace Go.Proofs.YtaaeapjnjjbglaaDoor.Lat
open Go.RowKit

/-- A new block behind a pointer. -/
def NewB (t : TypeId) (cs : Array Value) (w0 : World) (v : Value) (w : World) : Prop := ∃ g, v = .pointer (some ⟨g, 0, none⟩) ∧ w0.heap.size ≤ g ∧ Blk w g t cs ∧ Ext w0 w
theorem pts_cell {w : World} {g : Nat} {l : List Pt} (h : Blk w g 56 (ptsA l)) (hp : 0 < l.length) : w.cell? ⟨g, 0, none⟩ = some (.int .i64 (ptAt l 0).x) ∧ w.cell? ⟨g, 1, none⟩ = some (.int .i64 (ptAt l 0).y) ∧ w.cell? ⟨g, 2, none⟩ = some (.int .i64 (ptAt l 0).z) := by
  have h0 : l[0]? = some (ptAt l 0) := by
    rw [ptAt_eq (List.getElem?_eq_getElem hp)]
    exact List.getElem?_eq_getElem hp
  have hr : (l.map Pt.cs)[0]? = some (Pt.cs (ptAt l 0)) := by
    rw [List.getElem?_map, h0]
    rfl
  have a0 := rowsA_get (pts_wide l) hr (j := 0) rfl
  have a1 := rowsA_get (pts_wide l) hr (j := 1) rfl
  have a2 := rowsA_get (pts_wide l) hr (j := 2) rfl
  simp only [Nat.zero_mul, Nat.zero_add] at a0 a1 a2
  exact ⟨(h.cell 0).trans a0, (h.cell 1).trans a1, (h.cell 2).trans a2⟩
theorem _root_.Go.Proofs.YtaaeapjnjjbglaaDoor.Blk.ext' {w w' : World} {g : Nat} {t : TypeId} {cs : Array Value} (h : Blk w g t cs) (e : Ext w w') : Blk w' g t cs := h.ext e
end Go.Proofs.YtaaeapjnjjbglaaDoor.Lat
namespace Go.Proofs.YtaaeapjnjjbglaaDoor.Lat
open Go.RowKit

theorem kindsErr_valid {l : List Knd} (h : kindsErr l = 0) {k : Knd} (hk : k ∈ l) : k.valid = true := by
  unfold kindsErr at h
  split at h
  · cases h
  · split at h
    · rename_i h2
      obtain ⟨i, hi⟩ := List.getElem?_of_mem hk
      have := allR_at h2 (List.getElem?_eq_some_iff.1 hi).1
      simpa [kindAt, hi] using this
    · cases h
theorem asked_zero {l : List Knd} {b : Brk} (h : askedErr l [b] = 0) : kindsErr l = 0 ∧ b.ok l.length = true := by
  unfold askedErr at h
  split at h
  · rename_i h0
    refine ⟨h0, ?_⟩
    split at h
    · rename_i h2
      exact allR_at h2 (k := 0) (by simp)
    · cases h
  · rename_i h0
    exact absurd h h0
/-- The kind of a valid brick. -/
theorem asked_kind {w : World} {QA : Option Addr} {qc : Nat} {qs : List (Knd × KAt)} (hk : Kinds w QA qc qs) {b : Brk} (h : askedErr (qs.map (·.1)) [b] = 0) : ∃ (i : Nat) (k : Knd) (p : KAt), b.kind = i ∧ qs[i]? = some (k, p) ∧ k.Fine ∧ nearB b.at_ (-1000) 1000 = true ∧ b.turn < 24 := by
  obtain ⟨h1, h2⟩ := asked_zero h
  rw [Brk.ok_iff, List.length_map] at h2
  obtain ⟨a1, a2, a3, a4, _⟩ := h2
  obtain ⟨i, hi⟩ : ∃ i : Nat, b.kind = i := ⟨b.kind.toNat, by omega⟩
  have hil : i < qs.length := by omega
  have hget : qs[i]? = some (qs[i].1, qs[i].2) := List.getElem?_eq_getElem hil
  refine ⟨i, qs[i].1, qs[i].2, hi, hget, ?_, a3, a4⟩
  have hm : qs[i] ∈ qs := List.getElem_mem hil
  exact Knd.fine_of (kindsErr_valid h1 (List.mem_map.2 ⟨_, hm, rfl⟩)) (hk.k _ hm).n.2
/-- A result of cells, or the error. -/
def CellsRes (l : List Pt) (n : Nat) (w : World) (e : Ending) (w' : World) : Prop := ∃ g cap, w.heap.size ≤ g ∧ e = .returned (.tuple #[.slice (some ⟨g, 0, none⟩) n cap, .int .i64 0]) ∧ n ≤ cap ∧ cap ≤ maxLen ∧ RowX w' g 56 (l.map Pt.cs) ∧ Ext w w'
theorem rowX_of_blk {w : World} {g : Nat} {t : TypeId} {rows : List (List Value)} (h : Blk w g t (rowsA rows)) : RowX w g t rows := ⟨#[], by rw [Array.append_empty]; exact h⟩
set_option maxRecDepth 100000 in
set_option maxHeartbeats 8000000 in
theorem Cells_bad (qs : List (Knd × KAt)) (QA : Option Addr) (qc : Nat) (w : World) (hk : Kinds w QA qc qs) (kd x y z t c er : Int) (hb : Brk.byte ⟨kd, ⟨x, y, z⟩, t, c⟩) (he : askedErr (qs.map (·.1)) [⟨kd, ⟨x, y, z⟩, t, c⟩] = er) (h0 : er ≠ 0) :
    Calls Tryd.prog 23 #[.slice QA qs.length qc, .agg #[.int .i64 kd, .int .i64 x, .int .i64 y, .int .i64 z, .int .u8 t, .int .u8 c]] w fun e w' => e = .returned (.tuple #[.slice none 0 0, .int .i64 er]) ∧ Ext w w' := by
  obtain ⟨W1, hW1, E1, B1, hz1⟩ := mk_ w #[.int .i64 kd, .int .i64 x, .int .i64 y, .int .i64 z, .int .u8 t, .int .u8 c] 58
  have b1 := B1.cell
  have CH := check1_c qs QA qc kd x y z t c W1 (hk.ext E1) hb 58
  rw [he] at CH
  have h1 : (er != 0) = true := by simpa using h0
  clear he h0 hz1
  go_enter Tryd.func23, Tryd.ntmps23
  go_wp2_with fail
  refine CH.mono ?_
  rintro e W2 ⟨rfl, E2⟩
  go_wp2_with fail
  go_ret2
  exact ⟨rfl, E1.trans E2⟩
set_option maxRecDepth 100000 in
set_option maxHeartbeats 8000000 in
theorem Cells_ok (qs : List (Knd × KAt)) (QA : Option Addr) (qc : Nat) (w : World) (hk : Kinds w QA qc qs) (i : Nat) (k : Knd) (p : KAt) (hi : qs[i]? = some (k, p)) (hf : k.Fine) (x y z c : Int) (t : Nat) (hb : Brk.byte ⟨i, ⟨x, y, z⟩, t, c⟩) (he : askedErr (qs.map (·.1)) [⟨i, ⟨x, y, z⟩, t, c⟩] = 0) (ht : t < 24) (hp : Pt.ok ⟨x, y, z⟩) :
    Calls Tryd.prog 23 #[.slice QA qs.length qc, .agg #[.int .i64 i, .int .i64 x, .int .i64 y, .int .i64 z, .int .u8 t, .int .u8 c]] w (CellsRes (sortP (placeP k.cells t ⟨x, y, z⟩)) k.cells.length w) := by
  obtain ⟨cells, knobs, wt⟩ := k
  obtain ⟨A, ca, B, cb⟩ := p
  have hil : i < qs.length := (List.getElem?_eq_some_iff.1 hi).1
  have hql : qs.length ≤ 9223372036854775807 := by have := hk.len; unfold maxLen at this; omega
  have hcl : cells.length ≤ 24 := hf.len
  obtain ⟨n, hn⟩ : ∃ n, cells.length = n := ⟨_, rfl⟩
  show Calls _ _ _ _ (CellsRes (sortP (placeP cells t ⟨x, y, z⟩)) cells.length w)
  rw [hn]
  have Hn := Lib.hid hn
  clear hn
  have hcok : ∀ q ∈ cells, q.ok := hf.cok
  have hc : Cells w A ca cells := (hk.k _ (List.mem_of_getElem? hi)).c
  obtain ⟨W1, hW1, E1, B1, hz1⟩ := mk_ w #[.int .i64 i, .int .i64 x, .int .i64 y, .int .i64 z, .int .u8 t, .int .u8 c] 58
  have b1 := B1.cell
  have CH := check1_c qs QA qc i x y z t c W1 (hk.ext E1) hb 58
  rw [he] at CH
  clear he hz1
  have hml : cells.length ≤ maxLen := by unfold maxLen; omega
  have f1 : IntKind.i64.wrap (t : Int) = t := IntWalk.i64_in _ (by omega)
  go_enter Tryd.func23, Tryd.ntmps23
  go_wp2_with fail
  refine CH.mono ?_
  rintro e W2 ⟨rfl, E2⟩
  have E := E1.trans E2
  have BB := B1.ext E2
  obtain ⟨kg, koff, k', p', rfl, hq, hka, hkg, c0, c1, c2⟩ := (hk.ext E).at_ hil
  rw [hi] at hq
  cases hq
  simp only at c0 c1 c2
  clear CH b1 hW1 B1 E1 E2 hka
  have b1 := BB.cell
  have i1 : (0 : Int) ≤ i := by omega
  have i2 : (i : Int) < qs.length := by omega
  have hn := Hn.out
  have CC : ∀ W, Ext W2 W → Calls Tryd.prog 55 #[.agg #[.slice A n ca, .slice B knobs.length cb, .int .i64 wt], .int .i64 t, .agg #[.int .i64 x, .int .i64 y, .int .i64 z]] W (CellsPost (sortP (placeP cells t ⟨x, y, z⟩)) n W) := fun W EW => by
    subst hn
    exact cells_c cells knobs.length cb wt A ca B t x y z W (hc.ext (E.trans EW)) (by omega) hcok ht hp
  have HCC := Lib.hid CC
  rw [hn] at c0 hml
  clear CC hn hi hf hc hcok
  go_upto_region 4 with (fail)
  go_region_law (first
    | (go_simp; go_at_call 55; refine (HCC.out _ (Ext.refl W2).drew).mono ?_; rintro e W3 ⟨g, hg, rfl, B3, E3⟩))
  all_goals
    go_wp2_with fail
    go_ret2
    exact ⟨g, n, Nat.le_trans E.size hg, rfl, Nat.le_refl _, hml, rowX_of_blk B3, E.trans (Ext.drew (Ext.refl W2) |>.trans E3)⟩
end Go.Proofs.YtaaeapjnjjbglaaDoor.Lat
