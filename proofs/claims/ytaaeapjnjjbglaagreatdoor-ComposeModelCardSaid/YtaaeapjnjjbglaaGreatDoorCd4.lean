/- What each sort covers, if its least corner is a full cell. append of one element onto a row of the call's own, as a step of a region or of a walk. -/
import Derived.Test.YtaaeapjnjjbglaaGreatDoorCd1
import Derived.Test.YtaaeapjnjjbglaaGreatDoorCd3
import Derived.Deep.RegionHeld3
import Derived.Deep.RegionLaw

namespace Go.Proofs.YtaaeapjnjjbglaaGreatDoor
open Go.RowKit

def encSet (m : Nat) : Value := .int .u32 (m : Int)
/-- What a plate covers from a place on; its colour is that of the place. -/
def layP (s : Shape) (x y z color : Int) (p : Plate) (t : Bool) : Option Nat :=
  if p.color ≠ 0 ∧ p.color ≠ color then none else if t = true ∧ p.W = p.D then none
  else blockS s x y z (if t then p.D.toNat else p.W.toNat) (if t then p.W.toNat else p.D.toNat) color
/-- What a sort covers from a place on. -/
def layF (s : Shape) (l : List Plate) (x y z color : Int) (k : Nat) (q : Int × Bool) : Option Nat :=
  if 0 ≤ q.1 ∧ q.1 < k then layP s x y z color (plateAt l q.1.toNat) q.2 else none

theorem layF_succ (s : Shape) (l : List Plate) (x y z color : Int) (k : Nat) (q : Int × Bool) : layF s l x y z color (k + 1) q = if q.1 = k then layP s x y z color (plateAt l k) q.2 else layF s l x y z color k q := by
  unfold layF
  by_cases h : q.1 = k
  · rw [if_pos h, if_pos (by omega), h]
    rfl
  · rw [if_neg h]
    by_cases h2 : 0 ≤ q.1 ∧ q.1 < k
    · rw [if_pos h2, if_pos (by omega)]
    · rw [if_neg h2, if_neg (by omega)]
/-- The map when, of the plate k, the first j ways have been looked at. -/
def layG (s : Shape) (l : List Plate) (x y z color : Int) (k j : Nat) (q : Int × Bool) : Option Nat :=
  if q.1 = k ∧ q.2.toNat < j then layP s x y z color (plateAt l k) q.2 else layF s l x y z color k q
theorem layG_two (s : Shape) (l : List Plate) (x y z color : Int) (k : Nat) (q : Int × Bool) : layG s l x y z color k 2 q = layF s l x y z color (k + 1) q := by
  rw [layF_succ]
  unfold layG
  by_cases h : q.1 = k
  · rw [if_pos ⟨h, by cases q.2 <;> simp⟩, if_pos h]
  · rw [if_neg (fun e => h e.1), if_neg h]
theorem layF_self (s : Shape) (l : List Plate) (x y z color : Int) (k : Nat) (t : Bool) : layF s l x y z color k ((k : Int), t) = none := by
  unfold layF
  rw [if_neg (by simp)]
theorem layG_step {s : Shape} {l : List Plate} {x y z color : Int} {k : Nat} {t : Bool} {f : Int × Bool → Option Nat} (h : ∀ q, f q = layG s l x y z color k t.toNat q) {r : Option Nat} (hr : layP s x y z color (plateAt l k) t = r) (q : Int × Bool) :
    layG s l x y z color k (t.toNat + 1) q = if q = ((k : Int), t) then r else f q := by
  obtain ⟨a, b⟩ := q
  rw [h]
  unfold layG
  by_cases hk : a = k
  · subst hk
    cases t <;> cases b <;> simp [hr, layF_self]
  · have h1 : ¬ ((a, b) : Int × Bool) = ((k : Int), t) := fun e => hk (by injection e)
    rw [if_neg (fun e => hk e.1), if_neg h1, if_neg (fun e => hk e.1)]

theorem layG_1 {s : Shape} {l : List Plate} {x y z color : Int} {k : Nat} {f : Int × Bool → Option Nat} (h : ∀ q, f q = layG s l x y z color k 0 q) {r : Option Nat} (hr : layP s x y z color (plateAt l k) false = r) (q : Int × Bool) :
    layG s l x y z color k 1 q = if q = ((k : Int), false) then r else f q := layG_step (t := false) h hr q
theorem layG_2 {s : Shape} {l : List Plate} {x y z color : Int} {k : Nat} {f : Int × Bool → Option Nat} (h : ∀ q, f q = layG s l x y z color k 1 q) {r : Option Nat} (hr : layP s x y z color (plateAt l k) true = r) (q : Int × Bool) :
    layG s l x y z color k 2 q = if q = ((k : Int), true) then r else f q := layG_step (t := true) h hr q

structure Plate.Ok (p : Plate) : Prop where
  w : 1 ≤ p.W ∧ p.W ≤ p.D
  d : p.D ≤ 8
  n : 0 ≤ p.N ∧ p.N ≤ 99
  color : p.color ≤ 15
theorem plate_ok {l : List Plate} (h : platesB l = true) {i : Nat} {p : Plate} (hp : l[i]? = some p) : p.Ok := by
  unfold platesB at h
  rw [Bool.and_eq_true, List.all_eq_true] at h
  have hi : i < l.length := (List.getElem?_eq_some_iff.1 hp).1
  have h1 := h.2 i (List.mem_range.2 hi)
  unfold okAt at h1
  rw [Bool.and_eq_true, plateAt_eq hp] at h1
  have h2 := h1.1
  simp only [Plate.one, Bool.and_eq_true, inB_iff, decide_eq_true_eq] at h2
  obtain ⟨a, b, c, d⟩ := h2
  exact ⟨a, b, c, d⟩
theorem plates_len {l : List Plate} (h : platesB l = true) : 1 ≤ l.length ∧ l.length ≤ 8 := by
  unfold platesB at h
  rw [Bool.and_eq_true, inB_iff] at h
  omega

/-- The board with its plates. -/
structure Brd (w : World) (g : Nat) (s : Shape) (A : Option Addr) (cap : Nat) (NA : Option Addr) (ncap : Nat) (l : List Plate) (PA : Option Addr) (pcap : Nat) : Prop where
  base : Base w g s A cap NA ncap
  c4 : w.cell? ⟨g, 4, none⟩ = some (.slice PA l.length pcap)
  plates : Plates w PA pcap l
theorem Brd.ext {w w' : World} {g : Nat} {s : Shape} {A : Option Addr} {cap : Nat} {NA : Option Addr} {ncap : Nat} {l : List Plate} {PA : Option Addr} {pcap : Nat} (h : Brd w g s A cap NA ncap l PA pcap) (e : Ext w w') :
    Brd w' g s A cap NA ncap l PA pcap := ⟨h.base.ext e, e.cell h.c4, h.plates.ext e⟩

set_option maxRecDepth 100000 in
set_option maxHeartbeats 4000000 in
theorem lay_c (x y z color : Int) (g : Nat) (s : Shape) (A : Option Addr) (cap : Nat) (NA : Option Addr) (ncap : Nat) (l : List Plate) (PA : Option Addr) (pcap : Nat) (ok : s.Ok) (okl : platesB l = true)
    (hin : s.inside x y z = true) (hcol : s.cells[(s.idx x y z).toNat]? = some color) (w : World) (h : Brd w g s A cap NA ncap l PA pcap) :
    Calls Tryz.prog 63 #[.pointer (some ⟨g, 0, none⟩), .int .i64 x, .int .i64 y, .int .i64 z] w fun e w' =>
      (∃ M m, e = .returned (.map (some M)) ∧ w.heap.size ≤ M ∧ MapOf encSort encSet w' M m ∧ ∀ q, getK m q = layF s l x y z color l.length q) ∧ Ext w w' := by
  have hmm := @run_makeMap Tryz.prog
  have hl8 := plates_len okl
  obtain ⟨i1, i2, i3, i4, i5, i6, i7⟩ := s.idx_in ok hin
  obtain ⟨W0, hW0, E0, M0, hz0⟩ := mapbox_ encSort encSet w
  have h0 := h.ext E0
  obtain ⟨b, off, c, rfl, hc, hok, hbl, hcell⟩ := h0.base.bytes.at_ (k := (s.idx x y z).toNat) (by omega)
  obtain rfl : color = c := by rw [hcol] at hc; cases hc; rfl
  have hin' := hin
  simp only [Shape.inside, Bool.and_eq_true, inB_iff] at hin'
  obtain ⟨⟨x1, x2⟩, ⟨y1, y2⟩, z1, z2⟩ := hin'
  have w1' := ok.w
  have d1' := ok.d
  have Hcol := Lib.hid hcol
  clear hc hcol
  have ei : (z * s.D + y) * s.W + x = s.idx x y z := rfl
  obtain ⟨c0, c1, c2, c3, c5, -, -⟩ := h0.base
  have c4 := h0.c4
  go_enter Tryz.func63, Tryz.ntmps63
  go_wp2_with fail
  refine wp_region_grow (by kernel_rfl) (by kernel_rfl) ?_
  repeat (go_big_quiet_step (fail))
  refine wpQuiet_nil ?_
  intro W1 hW1
  have E1 : Ext W0 W1 := by
    obtain ⟨x, rfl⟩ := hW1
    exact (Ext.refl _).grow x
  clear hW1
  obtain ⟨hcW1, hfW1, hzW1⟩ := ext_facts E1
  clear hmm
  have E01 := E0.trans E1
  have M1 := M0.ext E1
  have hM := M1.lt
  obtain ⟨M, hMe⟩ : ∃ M, w.heap.size = M := ⟨_, rfl⟩
  have hwM : w.heap.size ≤ M := by omega
  rw [hMe] at M1
  rw [hMe]
  have HMe := Lib.hid hMe
  clear hMe hcW1 hfW1 hzW1 c0 c1 c2 c3 c4 c5 hcell M0
  have h1 := h0.ext E1
  have c4 := h1.c4
  go_wp2_with fail
  go_loopw [49] (fun i wr => ∃ (k : Nat) (m : List ((Int × Bool) × Nat)), k ≤ l.length ∧ i = .int .i64 k ∧ Ext w wr ∧ MapOf encSort encSet wr M m ∧ ∀ q, getK m q = layF s l x y z color k q) (fun i _ => l.length - (intOf i).toNat)
  case atStart =>
    refine ⟨0, [], by omega, rfl, E01, M1, fun q => ?_⟩
    unfold layF
    rw [if_neg (by omega)]
    rfl
  case round =>
    obtain ⟨k, m, hk, rfl, E, hM1, hget⟩ := hrel
    have Hget := Lib.hid hget
    clear hget
    clear h1 c4 M1 hM E1 E01 E0 hz0 h0
    have hr := h.ext E
    by_cases hlt : k < l.length
    · obtain ⟨pb, poff, p, rfl, hp, hpb, p0, p1, p2, p3⟩ := hr.plates.at_ hlt
      have okp := plate_ok okl hp
      have Hp := Lib.hid (plateAt_eq hp)
      clear hp
      obtain ⟨W2, hW2, E2, B2, hz2⟩ := box_ wr #[.int .i64 p.W, .int .i64 p.D, .int .i64 p.N, .int .u8 p.color] 64
      have b2 := B2.cell
      have M2 := hM1.ext E2
      by_cases hcolor : p.color ≠ 0 ∧ p.color ≠ color
      · have hnone : ∀ t, layP s x y z color p t = none := fun t => by rw [layP, if_pos hcolor]
        have Hnone := Lib.hid hnone
        clear hnone
        obtain ⟨q1, q2⟩ := hcolor
        have q1' : (p.color == 0) = false := by simpa using q1
        have q2' : (p.color == color) = false := by simpa using q2
        have q3' : (p.color != 0) = true := by simpa using q1
        have q4' : (p.color != color) = true := by simpa using q2
        go_wp2_with fail
        go_roundw
        case rel =>
          refine ⟨k + 1, m, by omega, by go_num, E.trans E2, M2, fun q => ?_⟩
          rw [layF_succ, Hget.out q]
          split
          · rename_i hq
            obtain ⟨a, b⟩ := q
            simp only at hq
            subst hq
            rw [Hp.out, Hnone.out, layF_self]
          · rfl
        case measure => simp only [intOf]; omega
      · have Hlay : Hid (∀ t, layP s x y z color p t = if t = true ∧ p.W = p.D then none else blockS s x y z (if t then p.D.toNat else p.W.toNat) (if t then p.W.toNat else p.D.toNat) color) := Lib.hid (fun t => by rw [layP, if_neg hcolor])
        obtain ⟨W3, hW3, E3, B3, hz3⟩ := box_ W2 #[.bool false, .bool true] 4
        rw [hz2] at B3
        have b3 := B3.cell
        have Hc := Lib.hid hcolor
        have q5 : p.color = 0 ∨ (p.color ≠ 0 ∧ p.color = color) := by omega
        clear hcolor
        have okp' := okp.w
        have okp2 := okp.d
        have M3 := M2.ext E3
        have hMlt := hM1.lt
        obtain ⟨wo, rfl⟩ : ∃ wo : World, wo = wr := ⟨_, rfl⟩
        have EW3 := (E.trans E2).trans E3
        have B23 := B2.ext E3
        have hne : ∀ m : Nat, m = M → some wo.heap.size ≠ some m := fun m hm e => by cases e; omega
        have hne2 : ∀ m : Nat, m = M → some (wo.heap.size + 1) ≠ some m := fun m hm e => by cases e; omega
        rcases q5 with q1 | ⟨q1, q2⟩
        · have q1' : (p.color == 0) = true := by simpa using q1
          have q3' : (p.color != 0) = false := by simpa using q1
          clear q1
          have b23 := B23.cell
          go_wp2_with fail
          clear b23 b3 b2 p0 p1 p2 p3 hr
          go_loopw [65] (fun i wr => ∃ (j : Nat) (m2 : List ((Int × Bool) × Nat)), j ≤ 2 ∧ i = .int .i64 j ∧ Ext w wr ∧ Blk wr wo.heap.size 64 #[.int .i64 p.W, .int .i64 p.D, .int .i64 p.N, .int .u8 p.color] ∧
            Blk wr (wo.heap.size + 1) 4 #[.bool false, .bool true] ∧ MapOf encSort encSet wr M m2 ∧ ∀ q, getK m2 q = layG s l x y z color k j q) (fun i _ => 2 - (intOf i).toNat)
          case atStart =>
            refine ⟨0, m, by omega, rfl, EW3, B23, B3, M3, fun q => ?_⟩
            unfold layG
            rw [if_neg (by simp), Hget.out]
          case round =>
            obtain ⟨j, m2, hj, rfl, Er, Bp, Bt, Mr, hget2⟩ := hrel
            have Hget2 := Lib.hid hget2
            clear hget2
            have hr2 := h.ext Er
            have bp := Bp.cell
            have bt := Bt.cell
            obtain rfl | rfl | rfl : j = 0 ∨ j = 1 ∨ j = 2 := by omega
            · go_wp2_with fail
              refine wp_region_grow (by kernel_rfl) (by kernel_rfl) ?_
              repeat (go_big_quiet_step (fail))
              refine wpQuiet_nil ?_
              intro W4 hW4
              have E4 : Ext wr W4 := by
                obtain ⟨x, rfl⟩ := hW4
                exact (Ext.refl _).grow x
              clear hW4
              obtain ⟨hcW4, hfW4, hzW4⟩ := ext_facts E4
              go_wp2_with fail
              refine (block_i x y z _ _ color g s _ _ _ _ ok ⟨x1, by omega⟩ ⟨y1, by omega⟩ ⟨by omega, by omega⟩ ⟨by omega, by omega⟩ _ (hr2.base.ext E4)).mono ?_
              rintro e w5 ⟨rfl, E5⟩
              have E45 := E4.trans E5
              have hl0 : layP s x y z color (plateAt l k) false = blockS s x y z p.W.toNat p.D.toNat color := by rw [Hp.out, Hlay.out]; simp
              have Hl0 := Lib.hid hl0
              clear hl0
              cases hb : blockS s x y z p.W.toNat p.D.toNat color with
              | none =>
                have Hb := Lib.hid hb
                clear hb
                dsimp only [blockV]
                go_wp2_with fail
                go_roundw
                case rel =>
                  refine ⟨1, m2, by omega, rfl, Er.trans E45, Bp.ext E45, Bt.ext E45, Mr.ext E45, fun q => ?_⟩
                  rw [layG_1 Hget2.out (Hl0.out.trans Hb.out)]
                  split
                  · rename_i hq
                    rw [hq, Hget2.out]
                    simp [layG, layF_self]
                  · rfl
                case measure => simp only [intOf]; omega
              | some n =>
                have Hb := Lib.hid hb
                clear hb
                dsimp only [blockV]
                have M5 := Mr.ext E45
                go_wp2_with (at_mapUpdate; refine wpList_put sortKey rfl _ _ _ 140 rfl 106 Tryz.underlying140 M m2 ((k : Int), false) n rfl M5 rfl rfl ?_; intro w6 M6 hg6 hz6)
                go_roundw
                case rel =>
                  have E6 := (Er.trans E45).grown hg6 (fun r hr => by cases hr; exact hwM)
                  refine ⟨1, _, by omega, rfl, E6, (Bp.ext E45).grown hg6 (hne M rfl), (Bt.ext E45).grown hg6 (hne2 M rfl), M6, fun q => ?_⟩
                  rw [getK_putK, layG_1 Hget2.out (Hl0.out.trans Hb.out)]
                case measure => simp only [intOf]; omega
            · by_cases hsq : p.W = p.D
              · have hl1 : layP s x y z color (plateAt l k) true = none := by rw [Hp.out, Hlay.out]; simp [hsq]
                have Hl1 := Lib.hid hl1
                clear hl1 Hlay
                go_wp2_with fail
                refine wp_region_grow (by kernel_rfl) (by kernel_rfl) ?_
                repeat (go_big_quiet_step (fail))
                refine wpQuiet_nil ?_
                intro W4 hW4
                have E4 : Ext wr W4 := by
                  obtain ⟨x, rfl⟩ := hW4
                  exact (Ext.refl _).grow x
                clear hW4
                obtain ⟨hcW4, hfW4, hzW4⟩ := ext_facts E4
                go_wp2_with fail
                refine (block_i x y z _ _ color g s _ _ _ _ ok ⟨x1, by omega⟩ ⟨y1, by omega⟩ ⟨by omega, by omega⟩ ⟨by omega, by omega⟩ _ (hr2.base.ext E4)).mono ?_
                rintro e w5 ⟨rfl, E5⟩
                have E45 := E4.trans E5
                generalize blockS s x y z _ _ color = r
                cases r
                all_goals
                  dsimp only [blockV]
                  go_wp2_with fail
                  go_roundw
                  case rel =>
                    refine ⟨2, m2, by omega, rfl, Er.trans E45, Bp.ext E45, Bt.ext E45, Mr.ext E45, fun q => ?_⟩
                    rw [layG_2 Hget2.out Hl1.out]
                    split
                    · rename_i hq
                      rw [hq, Hget2.out]
                      simp [layG, layF_self]
                    · rfl
                  case measure => simp only [intOf]; omega
              · have hl1 : layP s x y z color (plateAt l k) true = blockS s x y z p.D.toNat p.W.toNat color := by rw [Hp.out, Hlay.out]; simp [hsq]
                have Hl1 := Lib.hid hl1
                clear hl1 Hlay
                have hsq2 : (p.D == p.W) = false := by simpa using fun e => hsq e.symm
                have hsq3 : (p.D != p.W) = true := by simpa using fun e => hsq e.symm
                have hsq4 : ¬ p.D = p.W := fun e => hsq e.symm
                go_wp2_with fail
                refine wp_region_grow (by kernel_rfl) (by kernel_rfl) ?_
                repeat (go_big_quiet_step (fail))
                refine wpQuiet_nil ?_
                intro W4 hW4
                have E4 : Ext wr W4 := by
                  obtain ⟨x, rfl⟩ := hW4
                  exact (Ext.refl _).grow x
                clear hW4
                obtain ⟨hcW4, hfW4, hzW4⟩ := ext_facts E4
                go_wp2_with fail
                refine (block_i x y z _ _ color g s _ _ _ _ ok ⟨x1, by omega⟩ ⟨y1, by omega⟩ ⟨by omega, by omega⟩ ⟨by omega, by omega⟩ _ (hr2.base.ext E4)).mono ?_
                rintro e w5 ⟨rfl, E5⟩
                have E45 := E4.trans E5
                cases hb : blockS s x y z p.D.toNat p.W.toNat color with
                | none =>
                  have Hb := Lib.hid hb
                  clear hb
                  dsimp only [blockV]
                  go_wp2_with fail
                  go_roundw
                  case rel =>
                    refine ⟨2, m2, by omega, rfl, Er.trans E45, Bp.ext E45, Bt.ext E45, Mr.ext E45, fun q => ?_⟩
                    rw [layG_2 Hget2.out (Hl1.out.trans Hb.out)]
                    split
                    · rename_i hq
                      rw [hq, Hget2.out]
                      simp [layG, layF_self]
                    · rfl
                  case measure => simp only [intOf]; omega
                | some n =>
                  have Hb := Lib.hid hb
                  clear hb
                  dsimp only [blockV]
                  have M5 := Mr.ext E45
                  go_wp2_with (at_mapUpdate; refine wpList_put sortKey rfl _ _ _ 140 rfl 106 Tryz.underlying140 M m2 ((k : Int), true) n rfl M5 rfl rfl ?_; intro w6 M6 hg6 hz6)
                  go_roundw
                  case rel =>
                    have E6 := (Er.trans E45).grown hg6 (fun r hr => by cases hr; exact hwM)
                    refine ⟨2, _, by omega, rfl, E6, (Bp.ext E45).grown hg6 (hne M rfl), (Bt.ext E45).grown hg6 (hne2 M rfl), M6, fun q => ?_⟩
                    rw [getK_putK, layG_2 Hget2.out (Hl1.out.trans Hb.out)]
                  case measure => simp only [intOf]; omega
            · go_wp2_with fail
              go_roundw
              case rel =>
                refine ⟨k + 1, m2, by omega, by go_num, Er, Mr, fun q => ?_⟩
                rw [Hget2.out, layG_two]
              case measure => simp only [intOf]; omega
        · have q1' : (p.color == 0) = false := by simpa using q1
          have q2' : (p.color == color) = true := by simpa using q2
          have q3' : (p.color != 0) = true := by simpa using q1
          have q4' : (p.color != color) = false := by simpa using q2
          clear q1 q2
          have b23 := B23.cell
          go_wp2_with fail
          clear b23 b3 b2 p0 p1 p2 p3 hr
          go_loopw [65] (fun i wr => ∃ (j : Nat) (m2 : List ((Int × Bool) × Nat)), j ≤ 2 ∧ i = .int .i64 j ∧ Ext w wr ∧ Blk wr wo.heap.size 64 #[.int .i64 p.W, .int .i64 p.D, .int .i64 p.N, .int .u8 p.color] ∧
            Blk wr (wo.heap.size + 1) 4 #[.bool false, .bool true] ∧ MapOf encSort encSet wr M m2 ∧ ∀ q, getK m2 q = layG s l x y z color k j q) (fun i _ => 2 - (intOf i).toNat)
          case atStart =>
            refine ⟨0, m, by omega, rfl, EW3, B23, B3, M3, fun q => ?_⟩
            unfold layG
            rw [if_neg (by simp), Hget.out]
          case round =>
            obtain ⟨j, m2, hj, rfl, Er, Bp, Bt, Mr, hget2⟩ := hrel
            have Hget2 := Lib.hid hget2
            clear hget2
            have hr2 := h.ext Er
            have bp := Bp.cell
            have bt := Bt.cell
            obtain rfl | rfl | rfl : j = 0 ∨ j = 1 ∨ j = 2 := by omega
            · go_wp2_with fail
              refine wp_region_grow (by kernel_rfl) (by kernel_rfl) ?_
              repeat (go_big_quiet_step (fail))
              refine wpQuiet_nil ?_
              intro W4 hW4
              have E4 : Ext wr W4 := by
                obtain ⟨x, rfl⟩ := hW4
                exact (Ext.refl _).grow x
              clear hW4
              obtain ⟨hcW4, hfW4, hzW4⟩ := ext_facts E4
              go_wp2_with fail
              refine (block_i x y z _ _ color g s _ _ _ _ ok ⟨x1, by omega⟩ ⟨y1, by omega⟩ ⟨by omega, by omega⟩ ⟨by omega, by omega⟩ _ (hr2.base.ext E4)).mono ?_
              rintro e w5 ⟨rfl, E5⟩
              have E45 := E4.trans E5
              have hl0 : layP s x y z color (plateAt l k) false = blockS s x y z p.W.toNat p.D.toNat color := by rw [Hp.out, Hlay.out]; simp
              have Hl0 := Lib.hid hl0
              clear hl0
              cases hb : blockS s x y z p.W.toNat p.D.toNat color with
              | none =>
                have Hb := Lib.hid hb
                clear hb
                dsimp only [blockV]
                go_wp2_with fail
                go_roundw
                case rel =>
                  refine ⟨1, m2, by omega, rfl, Er.trans E45, Bp.ext E45, Bt.ext E45, Mr.ext E45, fun q => ?_⟩
                  rw [layG_1 Hget2.out (Hl0.out.trans Hb.out)]
                  split
                  · rename_i hq
                    rw [hq, Hget2.out]
                    simp [layG, layF_self]
                  · rfl
                case measure => simp only [intOf]; omega
              | some n =>
                have Hb := Lib.hid hb
                clear hb
                dsimp only [blockV]
                have M5 := Mr.ext E45
                go_wp2_with (at_mapUpdate; refine wpList_put sortKey rfl _ _ _ 140 rfl 106 Tryz.underlying140 M m2 ((k : Int), false) n rfl M5 rfl rfl ?_; intro w6 M6 hg6 hz6)
                go_roundw
                case rel =>
                  have E6 := (Er.trans E45).grown hg6 (fun r hr => by cases hr; exact hwM)
                  refine ⟨1, _, by omega, rfl, E6, (Bp.ext E45).grown hg6 (hne M rfl), (Bt.ext E45).grown hg6 (hne2 M rfl), M6, fun q => ?_⟩
                  rw [getK_putK, layG_1 Hget2.out (Hl0.out.trans Hb.out)]
                case measure => simp only [intOf]; omega
            · by_cases hsq : p.W = p.D
              · have hl1 : layP s x y z color (plateAt l k) true = none := by rw [Hp.out, Hlay.out]; simp [hsq]
                have Hl1 := Lib.hid hl1
                clear hl1 Hlay
                go_wp2_with fail
                refine wp_region_grow (by kernel_rfl) (by kernel_rfl) ?_
                repeat (go_big_quiet_step (fail))
                refine wpQuiet_nil ?_
                intro W4 hW4
                have E4 : Ext wr W4 := by
                  obtain ⟨x, rfl⟩ := hW4
                  exact (Ext.refl _).grow x
                clear hW4
                obtain ⟨hcW4, hfW4, hzW4⟩ := ext_facts E4
                go_wp2_with fail
                refine (block_i x y z _ _ color g s _ _ _ _ ok ⟨x1, by omega⟩ ⟨y1, by omega⟩ ⟨by omega, by omega⟩ ⟨by omega, by omega⟩ _ (hr2.base.ext E4)).mono ?_
                rintro e w5 ⟨rfl, E5⟩
                have E45 := E4.trans E5
                generalize blockS s x y z _ _ color = r
                cases r
                all_goals
                  dsimp only [blockV]
                  go_wp2_with fail
                  go_roundw
                  case rel =>
                    refine ⟨2, m2, by omega, rfl, Er.trans E45, Bp.ext E45, Bt.ext E45, Mr.ext E45, fun q => ?_⟩
                    rw [layG_2 Hget2.out Hl1.out]
                    split
                    · rename_i hq
                      rw [hq, Hget2.out]
                      simp [layG, layF_self]
                    · rfl
                  case measure => simp only [intOf]; omega
              · have hl1 : layP s x y z color (plateAt l k) true = blockS s x y z p.D.toNat p.W.toNat color := by rw [Hp.out, Hlay.out]; simp [hsq]
                have Hl1 := Lib.hid hl1
                clear hl1 Hlay
                have hsq2 : (p.D == p.W) = false := by simpa using fun e => hsq e.symm
                have hsq3 : (p.D != p.W) = true := by simpa using fun e => hsq e.symm
                have hsq4 : ¬ p.D = p.W := fun e => hsq e.symm
                go_wp2_with fail
                refine wp_region_grow (by kernel_rfl) (by kernel_rfl) ?_
                repeat (go_big_quiet_step (fail))
                refine wpQuiet_nil ?_
                intro W4 hW4
                have E4 : Ext wr W4 := by
                  obtain ⟨x, rfl⟩ := hW4
                  exact (Ext.refl _).grow x
                clear hW4
                obtain ⟨hcW4, hfW4, hzW4⟩ := ext_facts E4
                go_wp2_with fail
                refine (block_i x y z _ _ color g s _ _ _ _ ok ⟨x1, by omega⟩ ⟨y1, by omega⟩ ⟨by omega, by omega⟩ ⟨by omega, by omega⟩ _ (hr2.base.ext E4)).mono ?_
                rintro e w5 ⟨rfl, E5⟩
                have E45 := E4.trans E5
                cases hb : blockS s x y z p.D.toNat p.W.toNat color with
                | none =>
                  have Hb := Lib.hid hb
                  clear hb
                  dsimp only [blockV]
                  go_wp2_with fail
                  go_roundw
                  case rel =>
                    refine ⟨2, m2, by omega, rfl, Er.trans E45, Bp.ext E45, Bt.ext E45, Mr.ext E45, fun q => ?_⟩
                    rw [layG_2 Hget2.out (Hl1.out.trans Hb.out)]
                    split
                    · rename_i hq
                      rw [hq, Hget2.out]
                      simp [layG, layF_self]
                    · rfl
                  case measure => simp only [intOf]; omega
                | some n =>
                  have Hb := Lib.hid hb
                  clear hb
                  dsimp only [blockV]
                  have M5 := Mr.ext E45
                  go_wp2_with (at_mapUpdate; refine wpList_put sortKey rfl _ _ _ 140 rfl 106 Tryz.underlying140 M m2 ((k : Int), true) n rfl M5 rfl rfl ?_; intro w6 M6 hg6 hz6)
                  go_roundw
                  case rel =>
                    have E6 := (Er.trans E45).grown hg6 (fun r hr => by cases hr; exact hwM)
                    refine ⟨2, _, by omega, rfl, E6, (Bp.ext E45).grown hg6 (hne M rfl), (Bt.ext E45).grown hg6 (hne2 M rfl), M6, fun q => ?_⟩
                    rw [getK_putK, layG_2 Hget2.out (Hl1.out.trans Hb.out)]
                  case measure => simp only [intOf]; omega
            · go_wp2_with fail
              go_roundw
              case rel =>
                refine ⟨k + 1, m2, by omega, by go_num, Er, Mr, fun q => ?_⟩
                rw [Hget2.out, layG_two]
              case measure => simp only [intOf]; omega
    · obtain rfl : k = l.length := by omega
      go_wp2_with fail
      go_ret
      exact ⟨⟨M, m, rfl, hwM, hM1, Hget.out⟩, E⟩
end Go.Proofs.YtaaeapjnjjbglaaGreatDoor

namespace Go.Proofs.YtaaeapjnjjbglaaGreatDoor
open Go.RowKit

theorem own_ext {w w' : World} {base : Nat} {e : TypeId} {size : Nat} {v : Value} {n : Nat} {xs : List Value} (h : w.ownsRow base e size v n xs) (E : Ext w w') : w'.ownsRow base e size v n xs := by
  obtain ⟨h1, h2⟩ := h
  refine ⟨h1, ?_⟩
  rcases h2 with h2 | ⟨g, cap, cur, hv, hg, hh, r⟩
  · exact Or.inl h2
  · refine Or.inr ⟨g, cap, cur, hv, hg, ?_, r⟩
    have hlt : g < w.heap.size := (Array.getElem?_eq_some_iff.1 hh).1
    rw [Below.block E g hlt]
    exact hh
theorem own_base {w : World} {base base' : Nat} {e : TypeId} {size : Nat} {v : Value} {n : Nat} {xs : List Value} (h : w.ownsRow base e size v n xs) (hb : base' ≤ base) : w.ownsRow base' e size v n xs := by
  obtain ⟨h1, h2⟩ := h
  refine ⟨h1, ?_⟩
  rcases h2 with h2 | ⟨g, cap, cur, hv, hg, r⟩
  · exact Or.inl h2
  · exact Or.inr ⟨g, cap, cur, hv, Nat.le_trans hb hg, r⟩
/-- A row keeps while a block below its base is written. -/
theorem own_setCell {w : World} {base : Nat} {e : TypeId} {size : Nat} {v : Value} {n : Nat} {xs : List Value} (h : w.ownsRow base e size v n xs) {p : Addr} (hp : p.block < base) (u : Value) : (w.setCell p u).ownsRow base e size v n xs := by
  obtain ⟨h1, h2⟩ := h
  refine ⟨h1, ?_⟩
  rcases h2 with h2 | ⟨g, cap, cur, hv, hg, hh, r⟩
  · exact Or.inl h2
  · exact Or.inr ⟨g, cap, cur, hv, hg, by rw [Below.heap_setCell _ _ _ _ (by omega)]; exact hh, r⟩
/-- The block of an owned row is none of the blocks below its base. -/
theorem own_ne {w : World} {base : Nat} {e : TypeId} {size : Nat} {v : Value} {n : Nat} {xs : List Value} (h : w.ownsRow base e size v n xs) {g : Nat} (hg : g < base) : some g ≠ v.ownBlock := fun he => by
  have := (h.lt g he.symm).1
  omega

theorem own_form {w : World} {base : Nat} {e : TypeId} {size : Nat} {v : Value} {n : Nat} {xs : List Value} (h : w.ownsRow base e size v n xs) (hn : 0 < n) : ∃ g cap, v = .slice (some ⟨g, 0, none⟩) n cap := by
  rcases h.2 with ⟨_, h0⟩ | ⟨g, cap, cur, hv, _⟩
  · omega
  · exact ⟨g, cap, hv⟩
theorem add_zero_addr (g j : Nat) : (⟨g, 0, none⟩ : Addr).add j = ⟨g, j, none⟩ := by
  unfold Addr.add
  split
  · subst_vars; rfl
  · simp

section
variable {P : Program} {w : World} {ops : Array Oper} {o : Oper} {a : Act} {K : Act → World → Prop} {Q : Exit → Act → World → Prop} {F : Prop}

/-- append(s, x) where x is a new block's cells news (m elements), as one step of a region that draws its order. -/
theorem step_append_new (hgd : o.guard = none) (s x : Operand) (t : TypeId) (ho : o.op = .call { callee := .builtin .append, args := #[s, x], argTypes := #[t, t] })
    (base : Nat) (e : TypeId) (i : TypeInfo) (z : Value) (size bytes : Nat) (ht : P.underlying t = some (.slice e)) (hi : P.info? e = some i) (hz : i.zero = some z)
    (hsize : i.size = size) (hby : i.bytes = bytes) (hzs : z.cells.size = size) (hsz : 0 < size)
    (v : Value) (n : Nat) (xs : List Value) (hs : a.eval s = v) (hown : w.ownsRow base e size v n xs)
    (g m c : Nat) (news : List Value) (hx : a.eval x = .slice (some ⟨g, 0, none⟩) m c) (hl : news.length = m * size) (hnews : ∀ j, w.cell? ⟨g, j, none⟩ = news[j]?) (h1 : ∀ u ∈ news, u.oneCell' = true)
    (h63 : n + m ≤ maxLen) (hbytes : (n + m) * bytes ≤ 140737488355328) (hbase : base ≤ w.heap.size)
    (h : ∀ v' w', w'.ownsRow base e size v' (n + m) (xs ++ news) → w.grownBy w' v.ownBlock → K (a.put o.dst v') w') : if Region.wanted o (yielded ops a.tmps) = true then o.wp P a w K Q else F := by
  rw [if_pos (by simp [Region.wanted, hgd])]
  exact wp_append_own w s x t ho base e i z size bytes ht hi hz hsize hby hzs hsz v n xs hs hown ⟨g, 0, none⟩ m c news hx hl
    (fun j u hu => by rw [add_zero_addr, hnews j]; exact hu) h1 h63 hbytes hbase fun v' w' h2 h3 _ => h v' w' h2 h3

/-- append(s, x) of ONE element, which has just been laid as a new block's cells. -/
theorem step_append_one {w : World} (cs : Array Value) (hgd : o.guard = none) (s x : Operand) (t : TypeId) (ho : o.op = .call { callee := .builtin .append, args := #[s, x], argTypes := #[t, t] })
    (base : Nat) (e te : TypeId) (i : TypeInfo) (z : Value) (size bytes : Nat) (ht : P.underlying t = some (.slice e)) (hi : P.info? e = some i) (hz : i.zero = some z)
    (hsize : i.size = size) (hby : i.bytes = bytes) (hzs : z.cells.size = size) (hsz : 0 < size)
    (v : Value) (n c : Nat) (xs : List Value) (hs : a.eval s = v) (hown : w.ownsRow base e size v n xs)
    (hx : a.eval x = .slice (some ⟨w.heap.size, 0, none⟩) 1 c) (hl : cs.size = size) (h1 : ∀ u ∈ cs.toList, u.oneCell' = true)
    (h63 : n + 1 ≤ maxLen) (hbytes : (n + 1) * bytes ≤ 140737488355328) (hbase : base ≤ w.heap.size)
    (h : ∀ g' cap' w', w'.ownsRow base e size (.slice (some ⟨g', 0, none⟩) (n + 1) cap') (n + 1) (xs ++ cs.toList) → (w.alloc (.cells cs te)).grownBy w' v.ownBlock → K (a.put o.dst (.slice (some ⟨g', 0, none⟩) (n + 1) cap')) w') :
    if Region.wanted o (yielded ops a.tmps) = true then o.wp P a (w.alloc (.cells cs te)) K Q else F :=
  step_append_new hgd s x t ho base e i z size bytes ht hi hz hsize hby hzs hsz v n xs hs (hown.alloc _) w.heap.size 1 c cs.toList hx (by simp [hl]) (fun j => by rw [cell_new]; simp) h1 h63 hbytes
    (by simp; omega) fun v' w' h2 h3 => by
      obtain ⟨g', cap', rfl⟩ := own_form h2 (by omega)
      exact h g' cap' w' h2 h3
/-- The same as one operation of a plain walk. -/
theorem wpList_append_one {w : World} {rest : List Oper} (cs : Array Value) (hgd : o.guard = none) (s x : Operand) (t : TypeId) (ho : o.op = .call { callee := .builtin .append, args := #[s, x], argTypes := #[t, t] })
    (base : Nat) (e te : TypeId) (i : TypeInfo) (z : Value) (size bytes : Nat) (ht : P.underlying t = some (.slice e)) (hi : P.info? e = some i) (hz : i.zero = some z)
    (hsize : i.size = size) (hby : i.bytes = bytes) (hzs : z.cells.size = size) (hsz : 0 < size)
    (v : Value) (n c : Nat) (xs : List Value) (hs : a.eval s = v) (hown : w.ownsRow base e size v n xs)
    (hx : a.eval x = .slice (some ⟨w.heap.size, 0, none⟩) 1 c) (hl : cs.size = size) (h1 : ∀ u ∈ cs.toList, u.oneCell' = true)
    (h63 : n + 1 ≤ maxLen) (hbytes : (n + 1) * bytes ≤ 140737488355328) (hbase : base ≤ w.heap.size)
    (h : ∀ g' cap' w', w'.ownsRow base e size (.slice (some ⟨g', 0, none⟩) (n + 1) cap') (n + 1) (xs ++ cs.toList) → (w.alloc (.cells cs te)).grownBy w' v.ownBlock → wpList P ops Q rest (a.put o.dst (.slice (some ⟨g', 0, none⟩) (n + 1) cap')) w') :
    wpList P ops Q (o :: rest) a (w.alloc (.cells cs te)) :=
  wpList_plain hgd fun _ hK => by
    have := step_append_one (P := P) (ops := ops) (o := o) (a := a) (Q := Q) (F := True) cs hgd s x t ho base e te i z size bytes ht hi hz hsize hby hzs hsz v n c xs hs hown hx hl h1 h63 hbytes hbase (fun g' cap' w' h2 h3 => hK _ _ (h g' cap' w' h2 h3))
    rwa [if_pos (by simp [Region.wanted, hgd])] at this
end
end Go.Proofs.YtaaeapjnjjbglaaGreatDoor
