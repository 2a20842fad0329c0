/- studworkref07.Paint. -/
import Derived.Test.YtpikemglnnjemaaPaint
namespace Go.Proofs.Ytpikemglnnjemaa
open Go.RowKit

set_option maxHeartbeats 3200000 in
theorem rpaint_ok (A B : Option Addr) (ca cb : Nat) (px pal : List Hue) (wd : Int) (w : World) (hx : Hues w A ca px) (hp : Hues w B cb pal) (ok : paintOk px.length pal.length wd) :
    Calls Try.prog 6 #[.slice A px.length ca, .slice B pal.length cb, .int .i64 wd] w fun e w' =>
      ∃ v, e = .returned (.tuple #[.agg #[.int .i64 wd, .int .i64 ((px.length : Int) / wd), .int .i64 1, v], .int .i64 0]) ∧ w'.ownsRow w.heap.size 5 1 v px.length (px.map (pcell pal)) ∧ Ext w w' := by
  obtain ⟨o1, o2, o3, o4, o5, o6, o7, o8⟩ := ok
  have i1 : inB 1 8 wd = true := inB_iff.2 ⟨o1, o2⟩
  have i2 : inB 1 16 (px.length : Int) = true := inB_iff.2 ⟨by omega, by omega⟩
  have i3 : inB 1 15 (pal.length : Int) = true := inB_iff.2 ⟨by omega, by omega⟩
  have i4 : ((px.length : Int) % wd != 0) = false := by simp [o5]
  have i5 : decide (8 < (px.length : Int) / wd) = false := by simp; omega
  have q0 : 0 ≤ (px.length : Int) / wd := Int.ediv_nonneg (by omega) (by omega)
  clear o5
  go_enter Try.func6, Try.ntmps6
  go_wp2_with (go_at_call 20; refine (within_c _ _ _ _).mono ?_; rintro e w' ⟨rfl, rfl⟩)
  go_loopw [10] (fun i wr => ∃ k : Nat, k ≤ px.length ∧ i = .int .i64 k ∧ Ext w wr ∧ Blk wr w.heap.size 25 #[.int .i64 0, .int .i64 0, .int .i64 0, .slice none 0 0] ∧
      ∃ v, Blk wr (w.heap.size + 1) 25 #[.int .i64 wd, .int .i64 ((px.length : Int) / wd), .int .i64 1, v] ∧ wr.ownsRow (w.heap.size + 2) 5 1 v k ((px.take k).map (pcell pal))) (fun i _ => px.length - (intOf i).toNat)
  case atStart =>
    refine ⟨0, by omega, rfl, by apply_rules [Ext.refl, Ext.alloc], (Blk.new _ _ _).alloc _, .slice none 0 0, ?_, World.ownsRow_nil _ _ _ _⟩
    have := Blk.new (w.alloc (.cells #[.int .i64 0, .int .i64 0, .int .i64 0, .slice none 0 0] 25)) #[.int .i64 wd, .int .i64 ((px.length : Int) / wd), .int .i64 1, .slice none 0 0] 25
    rwa [World.size_alloc] at this
  case round =>
    obtain ⟨k, hk, rfl, E, B0, v, B1, own⟩ := hrel
    have hsz : w.heap.size + 2 ≤ wr.heap.size := by have := B1.lt; omega
    by_cases hlt : k < px.length
    · obtain ⟨b2, off2, rfl, _, hok, c0, c1, c2⟩ := hx.at_ hlt
      have e0 := E.cell c0
      have e1 := E.cell c1
      have e2 := E.cell c2
      clear c0 c1 c2
      go_wp2
      obtain ⟨wo, hwo⟩ : ∃ wo : World, wo = wr := ⟨_, rfl⟩
      rw [← hwo]
      go_loopw [11, 12] (fun bi i wr => ∃ j : Nat, j ≤ pal.length ∧ i = .int .i64 j ∧ (∃ m : Nat, Hid (bestTo (hueAt px k) pal j = m) ∧ m < pal.length ∧ bi = .int .i64 m) ∧ Ext wo wr) (fun _ i _ => pal.length - (intOf i).toNat)
      case atStart => exact ⟨0, by omega, rfl, ⟨0, rfl, by omega, rfl⟩, Ext.refl _⟩
      case round =>
        subst hwo
        obtain ⟨j, hj, rfl, ⟨m, Hm, hm, rfl⟩, E1⟩ := hrel
        by_cases hjlt : j < pal.length
        · obtain ⟨b3, off3, rfl, _, hokj, j0, j1, j2⟩ := hp.at_ hjlt
          obtain ⟨b4, off4, hB4, _, hokm, m0, m1, m2⟩ := hp.at_ hm
          cases hB4
          have E01 := E.trans E1
          have hok1 : Hue.ok ⟨(hueAt px k).r, (hueAt px k).g, (hueAt px k).b⟩ := hok
          have hok2 : Hue.ok ⟨(hueAt pal j).r, (hueAt pal j).g, (hueAt pal j).b⟩ := hokj
          have hok3 : Hue.ok ⟨(hueAt pal m).r, (hueAt pal m).g, (hueAt pal m).b⟩ := hokm
          clear hok hokj hokm
          have e0' := E1.cell e0
          have e1' := E1.cell e1
          have e2' := E1.cell e2
          have j0' := E01.cell j0
          have j1' := E01.cell j1
          have j2' := E01.cell j2
          have m0' := E01.cell m0
          have m1' := E01.cell m1
          have m2' := E01.cell m2
          clear e0 e1 e2 j0 j1 j2 m0 m1 m2
          go_wp2
          refine wp_region_grow (by kernel_rfl) (by kernel_rfl) ?_
          repeat (go_big_quiet_step ((go_at_call 21; exact quiet_ext (rfar_c _ _ _ _ _ _ (by assumption) (by assumption) _))))
          refine wpQuiet_nil ?_
          intro W hW
          have EW : Ext wr W := by
            obtain ⟨x, rfl⟩ := hW
            exact (Ext.refl _).grow x
          clear hW
          go_wp2
          · go_roundw
            case rel =>
              have hc : farS (hueAt px k) (hueAt pal j) < farS (hueAt px k) (hueAt pal m) := by assumption
              refine ⟨j + 1, by omega, by go_num, ⟨j, ?_, hjlt, rfl⟩, E1.trans EW⟩
              show bestTo (hueAt px k) pal (j + 1) = j
              unfold bestTo
              rw [Hm.out, if_pos hc]
            case measure => simp [intOf]; omega
          · go_roundw
            case rel =>
              have hc : farS (hueAt px k) (hueAt pal m) ≤ farS (hueAt px k) (hueAt pal j) := by assumption
              refine ⟨j + 1, by omega, by go_num, ⟨m, ?_, hm, rfl⟩, E1.trans EW⟩
              show bestTo (hueAt px k) pal (j + 1) = m
              unfold bestTo
              rw [Hm.out, if_neg (by omega)]
            case measure => simp [intOf]; omega
        · obtain rfl : pal.length = j := by omega
          have B0' := B0.ext E1
          have B1' := B1.ext E1
          have own' := own_ext own E1
          have cr1 := B1'.cell
          obtain ⟨i0, hi, hz0, hz1, hz2⟩ := info_parts Try.infoU8
          have hml : k + 1 ≤ maxLen := by unfold maxLen; omega
          go_wp2_with (at_builtin; refine wpList_append_one #[.int .u8 ((m : Int) + 1)] rfl (.tmp 79) (.tmp 83) 23 rfl (w.heap.size + 2) 5 5 i0 (.int .u8 0) 1 1 Try.underlying23 hi hz0 hz1 hz2 rfl (by decide) v k _ _ rfl own' rfl rfl (by simp [Value.oneCell']) hml (by omega) (Nat.le_trans hsz E1.size) ?_; intro g4 cap4 w4 own4 hg4; have B1_4 := (B1'.alloc _).grown hg4 (own_ne own' (by omega)); have c14 := B1_4.cell 3; have f14 := B1_4.frozen 3; have B0_4 := (B0'.alloc (.cells #[.int .u8 ((m : Int) + 1)] 5)).grown hg4 (own_ne own' (by omega)); have E4 := ((E.trans E1).alloc (.cells #[.int .u8 ((m : Int) + 1)] 5)).grown hg4 (fun q hq => by have := (own'.lt q hq).1; omega))
          go_roundw
          case rel =>
            refine ⟨k + 1, by omega, by go_num, E4.setCell (Nat.le_succ _) _, B0_4.far (by simp) _, .slice (some ⟨g4, 0, none⟩) (k + 1) cap4, B1_4.set_ 3 _, own_setCell ?_ (Nat.lt_succ_self _) _⟩
            have hpix : px[k]? = some (hueAt px k) := by simp [hueAt, List.getElem?_eq_getElem hlt]
            have hb : bestTo (hueAt px k) pal pal.length = m := Hm.out
            rw [List.take_add_one, hpix, Option.toList_some, List.map_append, List.map_singleton]
            have hc : pcell pal (hueAt px k) = .int .u8 ((m : Int) + 1) := by rw [pcell, hb]
            rw [hc]
            exact own4
          case measure => simp [intOf]; omega
    · obtain rfl : px.length = k := by omega
      obtain ⟨g, cap, rfl⟩ := own_form own (by omega)
      have cr0 := B0.cell
      have fr0 := B0.frozen
      have cr1 := B1.cell
      go_wp2
      refine bodyPost_ret (v := .tuple #[.agg #[.int .i64 wd, .int .i64 ((px.length : Int) / wd), .int .i64 1, .slice (some ⟨g, 0, none⟩) px.length cap], .int .i64 0]) ?_ rfl ?_
      · simp [results, Try.results6, go_sem, cr0]
      · rw [List.take_length] at own
        exact ⟨_, rfl, own_base (own_setCell (own_setCell (own_setCell (own_setCell own (by show w.heap.size < _; omega) _) (by show w.heap.size < _; omega) _) (by show w.heap.size < _; omega) _) (by show w.heap.size < _; omega) _) (by omega),
          (((E.setCell (Nat.le_refl _) _).setCell (Nat.le_refl _) _).setCell (Nat.le_refl _) _).setCell (Nat.le_refl _) _⟩

set_option maxHeartbeats 1600000 in
theorem rpaint_bad (A B : Option Addr) (ca cb n m : Nat) (wd : Int) (w : World) (hn : n ≤ 100) (hm : m ≤ 100) (hwd : -9223372036854775808 ≤ wd ∧ wd ≤ 9223372036854775807) (ok : ¬ paintOk n m wd) :
    Calls Try.prog 6 #[.slice A n ca, .slice B m cb, .int .i64 wd] w fun e w' =>
      e = .returned (.tuple #[.agg #[.int .i64 0, .int .i64 0, .int .i64 0, .slice none 0 0], .int .i64 2]) ∧ Ext w w' := by
  unfold paintOk at ok
  by_cases h1 : 1 ≤ wd ∧ wd ≤ 8
  case neg =>
    have i1 : inB 1 8 wd = false := inB_not.2 h1
    clear ok hwd
    go_enter Try.func6, Try.ntmps6
    go_wp2_with (go_at_call 20; refine (within_c _ _ _ _).mono ?_; rintro e w' ⟨rfl, rfl⟩)
    refine bodyPost_ret (v := .tuple #[.agg #[.int .i64 0, .int .i64 0, .int .i64 0, .slice none 0 0], .int .i64 2]) ?_ rfl ⟨rfl, by repeat (first | exact Ext.refl _ | refine Ext.setCell ?_ (Nat.le_refl _) _ | refine Ext.alloc ?_ _)⟩
    simp [results, Try.results6, go_sem]
  obtain ⟨o1, o2⟩ := h1
  have i1 : inB 1 8 wd = true := inB_iff.2 ⟨o1, o2⟩
  have q0 : 0 ≤ (n : Int) / wd := Int.ediv_nonneg (by omega) (by omega)
  have q1 : (n : Int) / wd ≤ n := Int.ediv_le_self _ (by omega)
  by_cases h2 : 1 ≤ n ∧ n ≤ 16
  case neg =>
    have i2 : inB 1 16 (n : Int) = false := inB_not.2 (by omega)
    clear ok
    go_enter Try.func6, Try.ntmps6
    go_wp2_with (go_at_call 20; refine (within_c _ _ _ _).mono ?_; rintro e w' ⟨rfl, rfl⟩)
    refine bodyPost_ret (v := .tuple #[.agg #[.int .i64 0, .int .i64 0, .int .i64 0, .slice none 0 0], .int .i64 2]) ?_ rfl ⟨rfl, by repeat (first | exact Ext.refl _ | refine Ext.setCell ?_ (Nat.le_refl _) _ | refine Ext.alloc ?_ _)⟩
    simp [results, Try.results6, go_sem]
  have i2 : inB 1 16 (n : Int) = true := inB_iff.2 (by omega)
  by_cases h3 : (n : Int) % wd = 0
  case neg =>
    have i3 : ((n : Int) % wd != 0) = true := by simp [h3]
    clear ok
    go_enter Try.func6, Try.ntmps6
    go_wp2_with (go_at_call 20; refine (within_c _ _ _ _).mono ?_; rintro e w' ⟨rfl, rfl⟩)
    refine bodyPost_ret (v := .tuple #[.agg #[.int .i64 0, .int .i64 0, .int .i64 0, .slice none 0 0], .int .i64 2]) ?_ rfl ⟨rfl, by repeat (first | exact Ext.refl _ | refine Ext.setCell ?_ (Nat.le_refl _) _ | refine Ext.alloc ?_ _)⟩
    simp [results, Try.results6, go_sem]
  have i3 : ((n : Int) % wd != 0) = false := by simp [h3]
  by_cases h4 : (n : Int) / wd ≤ 8
  case neg =>
    have i4 : decide (8 < (n : Int) / wd) = true := by simp; omega
    clear ok h3
    go_enter Try.func6, Try.ntmps6
    go_wp2_with (go_at_call 20; refine (within_c _ _ _ _).mono ?_; rintro e w' ⟨rfl, rfl⟩)
    refine bodyPost_ret (v := .tuple #[.agg #[.int .i64 0, .int .i64 0, .int .i64 0, .slice none 0 0], .int .i64 2]) ?_ rfl ⟨rfl, by repeat (first | exact Ext.refl _ | refine Ext.setCell ?_ (Nat.le_refl _) _ | refine Ext.alloc ?_ _)⟩
    simp [results, Try.results6, go_sem]
  have i4 : decide (8 < (n : Int) / wd) = false := by simp; omega
  have i5 : inB 1 15 (m : Int) = false := inB_not.2 (fun h => ok ⟨o1, o2, by omega, by omega, h3, h4, by omega, by omega⟩)
  clear ok h3
  · have _ht : True := trivial
    go_enter Try.func6, Try.ntmps6
    go_wp2_with (go_at_call 20; refine (within_c _ _ _ _).mono ?_; rintro e w' ⟨rfl, rfl⟩)
    refine bodyPost_ret (v := .tuple #[.agg #[.int .i64 0, .int .i64 0, .int .i64 0, .slice none 0 0], .int .i64 2]) ?_ rfl ⟨rfl, by repeat (first | exact Ext.refl _ | refine Ext.setCell ?_ (Nat.le_refl _) _ | refine Ext.alloc ?_ _)⟩
    simp [results, Try.results6, go_sem]
end Go.Proofs.Ytpikemglnnjemaa
