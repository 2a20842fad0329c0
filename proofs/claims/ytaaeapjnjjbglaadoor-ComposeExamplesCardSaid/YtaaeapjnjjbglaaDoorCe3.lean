/- The law ComposeExamples, walked. -/
import Derived.Test.YtaaeapjnjjbglaaDoorCe2

namespace Go.Proofs.YtaaeapjnjjbglaaDoor
open Go.RowKit

theorem bytes_nil (w : World) : Bytes w none 0 [] := ⟨⟨rfl, Nat.le_refl _, Nat.zero_le _, fun r hr => absurd hr (by simp), fun h => absurd h (by simp)⟩, fun c hc => absurd hc (by simp)⟩
theorem plates_nil (w : World) : Plates w none 0 [] := ⟨rfl, Nat.le_refl _, Nat.zero_le _, fun r hr => absurd hr (by simp), fun h => absurd h (by simp)⟩
theorem ex_kinds {w : World} {T : Nat} {OA : Option Addr} {oc : Nat} {rows : List (List Value)} (own : w.ownsRow T 77 3 (.slice OA 2 oc) 2 rows.flatten) (h : KindsOwn w T (twoL 1 1) 2 rows) :
    ∃ g CA cc, OA = some ⟨g, 0, none⟩ ∧ g < w.heap.size ∧ w.cell? ⟨g, 3, none⟩ = some (.slice CA 2 cc) ∧ w.cell? ⟨g, 5, none⟩ = some (.int .i64 2) := by
  obtain ⟨hn, hr⟩ := h
  obtain ⟨g, cap, hv⟩ := own_form own (by decide)
  cases hv
  obtain ⟨r0, hr0⟩ : ∃ r, rows[0]? = some r := ⟨_, List.getElem?_eq_getElem (by omega)⟩
  obtain ⟨r1, hr1⟩ : ∃ r, rows[1]? = some r := ⟨_, List.getElem?_eq_getElem (by omega)⟩
  obtain ⟨⟨CA, cc, KA, kc, e, -, -⟩, -⟩ := hr 1 r1 ⟨1, 2, 1, 0⟩ hr1 rfl
  have hS := own_any (rows := rows) (show 0 < 3 by decide) (fun r hm => by
    obtain ⟨k, hk⟩ := List.getElem?_of_mem hm
    have hk2 : k < 2 := by have := (List.getElem?_eq_some_iff.1 hk).1; omega
    obtain ⟨p, hp⟩ : ∃ p, (twoL 1 1)[k]? = some p := ⟨_, List.getElem?_eq_getElem (by unfold twoL; simpa using hk2)⟩
    exact (hr k r p hk hp).2) hn own
  obtain ⟨b, off, hA, hb, hc⟩ := hS.cells (by decide)
  cases hA
  subst e
  exact ⟨g, CA, cc, rfl, hb, hc 1 _ hr1 0 _ rfl, hc 1 _ hr1 2 _ rfl⟩
theorem ex_brick_cells {w : World} {T : Nat} {v : Value} (own : w.ownsRow T 58 6 v 2 (bricksV fourS (twoL 9 9) best99 2)) :
    ∃ g cp, v = .slice (some ⟨g, 0, none⟩) 2 cp ∧ g < w.heap.size ∧ w.cell? ⟨g, 0, none⟩ = some (.int .i64 1) ∧ w.cell? ⟨g, 1, none⟩ = some (.int .i64 1) ∧ w.cell? ⟨g, 2, none⟩ = some (.int .i64 0) ∧ w.cell? ⟨g, 3, none⟩ = some (.int .i64 0) ∧ w.cell? ⟨g, 4, none⟩ = some (.int .u8 1) ∧ w.cell? ⟨g, 5, none⟩ = some (.int .u8 3) := by
  obtain ⟨g, cp, rfl⟩ := own_form own (by decide)
  have key : ∀ i v, i < 6 → ((bricksV fourS (twoL 9 9) best99 2).take 6)[i]? = some v → w.cell? ⟨g, i, none⟩ = some v := fun i v hi h => by
    rw [List.getElem?_take_of_lt hi] at h
    have := own.cells (g := g) rfl i v h
    rw [add_zero_addr] at this
    exact this
  rw [ex_brick] at key
  exact ⟨g, cp, rfl, (own.lt g rfl).2, key 0 _ (by decide) rfl, key 1 _ (by decide) rfl, key 2 _ (by decide) rfl, key 3 _ (by decide) rfl, key 4 _ (by decide) rfl, key 5 _ (by decide) rfl⟩
theorem brick_eq (w : World) : (binOp .eql 58 (.agg #[.int .i64 1, .int .i64 1, .int .i64 0, .int .i64 0, .int .u8 1, .int .u8 3]) (.agg #[.int .i64 1, .int .i64 1, .int .i64 0, .int .i64 0, .int .u8 1, .int .u8 3])).run Tryd.prog w = .ok (.bool true) w := by
  simp [go_sem]
def FourAt (w : World) (v : Value) : Prop := ∃ g, v = .agg #[.int .i64 2, .int .i64 1, .int .i64 2, .slice (some ⟨g, 0, none⟩) 4 4] ∧ Bytes w (some ⟨g, 0, none⟩) 4 [3, 3, 3, 3]
theorem FourAt.ext {w w' : World} {v : Value} (h : FourAt w v) (E : Ext w w') : FourAt w' v := by
  obtain ⟨g, h1, h2⟩ := h
  exact ⟨g, h1, h2.ext E⟩
def TwoAt (w : World) (v : Value) : Prop := ∃ g, v = .slice (some ⟨g, 0, none⟩) 2 2 ∧ Plates w (some ⟨g, 0, none⟩) 2 (twoL 9 9)
theorem TwoAt.ext {w w' : World} {v : Value} (h : TwoAt w v) (E : Ext w w') : TwoAt w' v := by
  obtain ⟨g, h1, h2⟩ := h
  exact ⟨g, h1, h2.ext E⟩
def exTail : List Laid := [⟨0, 1, 0, 0, false⟩, ⟨0, 0, 0, 1, false⟩, ⟨0, 1, 0, 1, false⟩]
structure Ex14 (W0 : World) (GP gp cp gk oc : Nat) (CA : Option Addr) (cc GM gm cm G5 : Nat) (L : Nat → Bool) (us : Nat → Value) (w : World) : Prop where
  x : Ext W0 w
  f0 : L 0 = true → us 0 = .int .i64 0
  f1 : L 1 = true → us 1 = .bool true
  f2 : L 2 = true → us 2 = .bool true
  f3 : L 3 = true → us 3 = .pointer (some ⟨GP, 3, none⟩)
  f4 : L 4 = true → us 4 = .slice (some ⟨gp, 0, none⟩) 3 cp
  f5 : L 5 = true → us 5 = .string (strOfNums [2, 1, 1])
  f6 : L 6 = true → us 6 = .bool true
  f7 : L 7 = true → us 7 = .bool true
  f8 : L 8 = true → us 8 = .bool true
  f9 : L 9 = true → us 9 = .int .i64 2
  f10 : L 10 = true → us 10 = .bool true
  f11 : L 11 = true → us 11 = .bool true
  f12 : L 12 = true → us 12 = .bool true
  f13 : L 13 = true → us 13 = .int .i64 0
  f14 : L 14 = true → us 14 = .bool true
  f15 : L 15 = true → us 15 = .bool true
  f16 : L 16 = true → us 16 = .bool true
  f17 : L 17 = true → us 17 = .slice (some ⟨gk, 0, none⟩) 2 oc
  f18 : L 18 = true → us 18 = .int .i64 2
  f19 : L 19 = true → us 19 = .bool true
  f20 : L 20 = true → us 20 = .bool true
  f21 : L 21 = true → us 21 = .bool true
  f22 : L 22 = true → us 22 = .slice (some ⟨gk, 0, none⟩) 2 oc
  f23 : L 23 = true → us 23 = .pointer (some ⟨gk, 3, none⟩)
  f24 : L 24 = true → us 24 = .pointer (some ⟨gk, 3, none⟩)
  f25 : L 25 = true → us 25 = .slice CA 2 cc
  f26 : L 26 = true → us 26 = .int .i64 2
  f27 : L 27 = true → us 27 = .bool true
  f28 : L 28 = true → us 28 = .bool true
  f29 : L 29 = true → us 29 = .bool true
  f30 : L 30 = true → us 30 = .slice (some ⟨gk, 0, none⟩) 2 oc
  f31 : L 31 = true → us 31 = .pointer (some ⟨gk, 3, none⟩)
  f32 : L 32 = true → us 32 = .pointer (some ⟨gk, 5, none⟩)
  f33 : L 33 = true → us 33 = .int .i64 2
  f34 : L 34 = true → us 34 = .bool true
  f35 : L 35 = true → us 35 = .bool true
  f36 : L 36 = true → us 36 = .bool true
  f37 : L 37 = true → us 37 = .int .i64 0
  f38 : L 38 = true → us 38 = .bool true
  f39 : L 39 = true → us 39 = .bool true
  f40 : L 40 = true → us 40 = .bool true
  f41 : L 41 = true → us 41 = .pointer (some ⟨GM, 0, none⟩)
  f42 : L 42 = true → us 42 = .slice (some ⟨gm, 0, none⟩) 2 cm
  f43 : L 43 = true → us 43 = .int .i64 2
  f44 : L 44 = true → us 44 = .bool true
  f45 : L 45 = true → us 45 = .bool true
  f46 : L 46 = true → us 46 = .bool true
  f47 : L 47 = true → us 47 = .pointer (some ⟨GM, 0, none⟩)
  f48 : L 48 = true → us 48 = .slice (some ⟨gm, 0, none⟩) 2 cm
  f49 : L 49 = true → us 49 = .pointer (some ⟨gm, 0, none⟩)
  f50 : L 50 = true → us 50 = .agg #[.int .i64 1, .int .i64 1, .int .i64 0, .int .i64 0, .int .u8 1, .int .u8 3]
  f51 : L 51 = true → us 51 = .agg #[.int .i64 1, .int .i64 0, .int .i64 0]
  f52 : L 52 = true → us 52 = .agg #[.int .i64 1, .int .i64 1, .int .i64 0, .int .i64 0, .int .u8 1, .int .u8 3]
  f53 : L 53 = true → us 53 = .bool true
  f54 : L 54 = true → us 54 = .bool true
  f55 : L 55 = true → us 55 = .bool true
  f56 : L 56 = true → us 56 = .int .i64 70
  f57 : L 57 = true → us 57 = .bool true
  f58 : L 58 = true → us 58 = .bool true
  f59 : L 59 = true → us 59 = .bool true
  f60 : L 60 = true → us 60 = .int .i64 71
  f61 : L 61 = true → us 61 = .bool true
  f62 : L 62 = true → us 62 = .bool true
  f63 : L 63 = true → us 63 = .bool true
  f64 : L 64 = true → FourAt w (us 64)
  f65 : L 65 = true → TwoAt w (us 65)
  f66 : L 66 = true → us 66 = .slice (some ⟨G5, 0, none⟩) 4 4
  f67 : L 67 = true → us 67 = .slice (some ⟨G5, 5, none⟩) 3 3
  f68 : L 68 = true → us 68 = .int .i64 8
  f69 : L 69 = true → us 69 = .bool true
  f70 : L 70 = true → us 70 = .bool true
  f71 : L 71 = true → us 71 = .bool true
set_option maxRecDepth 100000 in
set_option maxHeartbeats 8000000 in
theorem examples_walk (w : World) (hT : TzTab w) : Calls Tryd.prog 6 #[] w fun e w' => e = .returned (.bool true) ∧ Ext w w' := by
  have E := Ext.refl w
  go_enter Tryd.func6, Tryd.ntmps6
  go_wp2_with fail
  refine (at7_c _ _ _ _ _ _).mono ?_
  rintro e w1 ⟨rfl, E0⟩
  replace E := E.trans E0
  first | replace E5 := E5.trans E0 | skip
  first | replace Ep := Ep.trans E0 | skip
  first | replace Ek := Ek.trans E0 | skip
  first | replace Em := Em.trans E0 | skip
  clear E0
  go_wp2_with fail
  refine (at7_c _ _ _ _ _ _).mono ?_
  rintro e w2 ⟨rfl, E0⟩
  replace E := E.trans E0
  first | replace E5 := E5.trans E0 | skip
  first | replace Ep := Ep.trans E0 | skip
  first | replace Ek := Ek.trans E0 | skip
  first | replace Em := Em.trans E0 | skip
  clear E0
  go_wp2_with fail
  refine (at7_c _ _ _ _ _ _).mono ?_
  rintro e w3 ⟨rfl, E0⟩
  replace E := E.trans E0
  first | replace E5 := E5.trans E0 | skip
  first | replace Ep := Ep.trans E0 | skip
  first | replace Ek := Ek.trans E0 | skip
  first | replace Em := Em.trans E0 | skip
  clear E0
  go_wp2_with fail
  refine (at7_c _ _ _ _ _ _).mono ?_
  rintro e w4 ⟨rfl, E0⟩
  replace E := E.trans E0
  first | replace E5 := E5.trans E0 | skip
  first | replace Ep := Ep.trans E0 | skip
  first | replace Ek := Ek.trans E0 | skip
  first | replace Em := Em.trans E0 | skip
  clear E0
  have B5 := Blk.new w4 #[.int .i64 0, .int .i64 0, .int .i64 0, .int .i64 0, .bool false, .int .i64 0, .int .i64 1, .int .i64 0, .int .i64 0, .bool false, .int .i64 0, .int .i64 0, .int .i64 0, .int .i64 1, .bool false, .int .i64 0, .int .i64 1, .int .i64 0, .int .i64 1, .bool false] 64
  obtain ⟨w5, hw5, E0, -, hz5⟩ := box_ w4 #[.int .i64 0, .int .i64 0, .int .i64 0, .int .i64 0, .bool false, .int .i64 0, .int .i64 1, .int .i64 0, .int .i64 0, .bool false, .int .i64 0, .int .i64 0, .int .i64 0, .int .i64 1, .bool false, .int .i64 0, .int .i64 1, .int .i64 0, .int .i64 1, .bool false] 64
  rw [hw5] at B5
  obtain ⟨G5, hG5⟩ : ∃ g, w4.heap.size = g := ⟨_, rfl⟩
  rw [hG5] at B5
  have h5 : Laids w5 (some ⟨G5, 0, none⟩) 4 four4 := blk_slice B5 rfl (by decide +kernel) rfl (by show 4 ≤ maxLen; decide)
  have H5 := Lib.hid h5
  replace E := E.trans E0
  first | replace E5 := E5.trans E0 | skip
  first | replace Ep := Ep.trans E0 | skip
  first | replace Ek := Ek.trans E0 | skip
  first | replace Em := Em.trans E0 | skip
  clear E0
  have E5 := Ext.refl w5
  clear hz5 B5 h5
  go_wp2_with fail
  refine (four_c _).mono ?_
  rintro e w6 ⟨g6, rfl, hs0, E0⟩
  replace E := E.trans E0
  first | replace E5 := E5.trans E0 | skip
  first | replace Ep := Ep.trans E0 | skip
  first | replace Ek := Ek.trans E0 | skip
  first | replace Em := Em.trans E0 | skip
  clear E0
  clear hw5 hG5
  go_wp2_with fail
  refine (two_c 9 9 _).mono ?_
  rintro e w7 ⟨p6, rfl, hl0, E0⟩
  replace hs0 := hs0.ext E0
  replace E := E.trans E0
  first | replace E5 := E5.trans E0 | skip
  first | replace Ep := Ep.trans E0 | skip
  first | replace Ek := Ek.trans E0 | skip
  first | replace Em := Em.trans E0 | skip
  clear E0
  go_wp2_with fail
  refine (hangsTop_c fourS (some ⟨g6, 0, none⟩) 4 (twoL 9 9) (some ⟨p6, 0, none⟩) 2 four4 (some ⟨G5, 0, none⟩) 4 (by decide) _ hs0 hl0 (H5.out.ext E5) (hT.ext E)).mono ?_
  rintro e w8 ⟨rfl, E0⟩
  rw [ex_hang.1, ex_hang.2]
  replace E := E.trans E0
  first | replace E5 := E5.trans E0 | skip
  first | replace Ep := Ep.trans E0 | skip
  first | replace Ek := Ek.trans E0 | skip
  first | replace Em := Em.trans E0 | skip
  clear E0
  clear hs0 hl0
  go_wp2_with fail
  refine (four_c _).mono ?_
  rintro e w9 ⟨g9, rfl, hs0, E0⟩
  replace E := E.trans E0
  first | replace E5 := E5.trans E0 | skip
  first | replace Ep := Ep.trans E0 | skip
  first | replace Ek := Ek.trans E0 | skip
  first | replace Em := Em.trans E0 | skip
  clear E0
  go_wp2_with fail
  refine (two_c 9 9 _).mono ?_
  rintro e w10 ⟨p9, rfl, hl0, E0⟩
  replace hs0 := hs0.ext E0
  replace E := E.trans E0
  first | replace E5 := E5.trans E0 | skip
  first | replace Ep := Ep.trans E0 | skip
  first | replace Ek := Ek.trans E0 | skip
  first | replace Em := Em.trans E0 | skip
  clear E0
  go_wp2_with fail
  refine (least_c fourS (some ⟨g9, 0, none⟩) 4 (twoL 9 9) (some ⟨p9, 0, none⟩) 2 _ hs0 hl0).mono ?_
  rintro e w11 ⟨rfl, E0⟩
  rw [ex_least99.1, ex_least99.2]
  replace E := E.trans E0
  first | replace E5 := E5.trans E0 | skip
  first | replace Ep := Ep.trans E0 | skip
  first | replace Ek := Ek.trans E0 | skip
  first | replace Em := Em.trans E0 | skip
  clear E0
  clear hs0 hl0
  go_wp2_with fail
  refine (four_c _).mono ?_
  rintro e w12 ⟨g12, rfl, hs0, E0⟩
  replace E := E.trans E0
  first | replace E5 := E5.trans E0 | skip
  first | replace Ep := Ep.trans E0 | skip
  first | replace Ek := Ek.trans E0 | skip
  first | replace Em := Em.trans E0 | skip
  clear E0
  go_wp2_with fail
  refine (two_c 9 1 _).mono ?_
  rintro e w13 ⟨p12, rfl, hl0, E0⟩
  replace hs0 := hs0.ext E0
  replace E := E.trans E0
  first | replace E5 := E5.trans E0 | skip
  first | replace Ep := Ep.trans E0 | skip
  first | replace Ek := Ek.trans E0 | skip
  first | replace Em := Em.trans E0 | skip
  clear E0
  go_wp2_with fail
  refine (least_c fourS (some ⟨g12, 0, none⟩) 4 (twoL 9 1) (some ⟨p12, 0, none⟩) 2 _ hs0 hl0).mono ?_
  rintro e w14 ⟨rfl, E0⟩
  rw [ex_least91.1, ex_least91.2]
  replace E := E.trans E0
  first | replace E5 := E5.trans E0 | skip
  first | replace Ep := Ep.trans E0 | skip
  first | replace Ek := Ek.trans E0 | skip
  first | replace Em := Em.trans E0 | skip
  clear E0
  clear hs0 hl0
  go_wp2_with fail
  refine (four_c _).mono ?_
  rintro e w15 ⟨g15, rfl, hs0, E0⟩
  replace E := E.trans E0
  first | replace E5 := E5.trans E0 | skip
  first | replace Ep := Ep.trans E0 | skip
  first | replace Ek := Ek.trans E0 | skip
  first | replace Em := Em.trans E0 | skip
  clear E0
  go_wp2_with fail
  refine (two_c 3 0 _).mono ?_
  rintro e w16 ⟨p15, rfl, hl0, E0⟩
  replace hs0 := hs0.ext E0
  replace E := E.trans E0
  first | replace E5 := E5.trans E0 | skip
  first | replace Ep := Ep.trans E0 | skip
  first | replace Ek := Ek.trans E0 | skip
  first | replace Em := Em.trans E0 | skip
  clear E0
  go_wp2_with fail
  refine (least_c fourS (some ⟨g15, 0, none⟩) 4 (twoL 3 0) (some ⟨p15, 0, none⟩) 2 _ hs0 hl0).mono ?_
  rintro e w17 ⟨rfl, E0⟩
  rw [ex_least30.1, ex_least30.2]
  replace E := E.trans E0
  first | replace E5 := E5.trans E0 | skip
  first | replace Ep := Ep.trans E0 | skip
  first | replace Ek := Ek.trans E0 | skip
  first | replace Em := Em.trans E0 | skip
  clear E0
  clear hs0 hl0
  go_wp2_with fail
  refine (alive_c _ (hT.ext E)).mono ?_
  rintro e w18 ⟨rfl, E0⟩
  replace E := E.trans E0
  first | replace E5 := E5.trans E0 | skip
  first | replace Ep := Ep.trans E0 | skip
  first | replace Ek := Ek.trans E0 | skip
  first | replace Em := Em.trans E0 | skip
  clear E0
  obtain ⟨w19, hw19, Ea, Ba, hza⟩ := box_ w18 #[.int .u8 0, .int .u8 0, .int .u8 0, .int .u8 255, .int .u8 255, .int .u8 255, .int .u8 200, .int .u8 200, .int .u8 200] 73
  obtain ⟨w20, hw20, Eb, Bb, hzb⟩ := box_ w19 #[.int .u8 255, .int .u8 255, .int .u8 255, .int .u8 0, .int .u8 0, .int .u8 0] 73
  have hx : Hues w20 (some ⟨w18.heap.size, 0, none⟩) 3 exPx := ⟨blk_slice (Ba.ext Eb) rfl (by decide +kernel) rfl (by show 3 ≤ maxLen; decide), by unfold exPx Hue.ok byteOk; decide⟩
  have hp : Hues w20 (some ⟨w19.heap.size, 0, none⟩) 2 exPal := ⟨blk_slice Bb rfl (by decide +kernel) rfl (by show 2 ≤ maxLen; decide), by unfold exPal Hue.ok byteOk; decide⟩
  have E0 := Ea.trans Eb
  replace E := E.trans E0
  first | replace E5 := E5.trans E0 | skip
  first | replace Ep := Ep.trans E0 | skip
  first | replace Ek := Ek.trans E0 | skip
  first | replace Em := Em.trans E0 | skip
  clear E0
  clear Ea Eb Ba Bb hza hzb
  go_wp2_with fail
  refine (paint_ok (some ⟨w18.heap.size, 0, none⟩) (some ⟨w19.heap.size, 0, none⟩) 3 2 exPx exPal 3 w20 hx hp ex_paintOk).mono ?_
  rintro e w21 ⟨v21, rfl, own21, E0⟩
  rw [ex_paint] at own21
  rw [show exPx.length = 3 from rfl] at own21
  rw [show ((exPx.length : Nat) : Int) / 3 = 1 from rfl]
  obtain ⟨gp, cp, rfl⟩ := own_form own21 (by decide)
  replace E := E.trans E0
  first | replace E5 := E5.trans E0 | skip
  first | replace Ep := Ep.trans E0 | skip
  first | replace Ek := Ek.trans E0 | skip
  first | replace Em := Em.trans E0 | skip
  clear E0
  clear hx hp hw19 hw20
  obtain ⟨w22, hw22, E0, B22, hz22⟩ := box_ w21 #[.int .i64 3, .int .i64 1, .int .i64 1, .slice (some ⟨gp, 0, none⟩) 3 cp] 24
  obtain ⟨GP, hGP⟩ : ∃ g, w21.heap.size = g := ⟨_, rfl⟩
  rw [hGP] at B22
  have O22 := own_ext own21 E0
  have HB22 := Lib.hid B22
  have HO22 := Lib.hid O22
  replace E := E.trans E0
  first | replace E5 := E5.trans E0 | skip
  first | replace Ep := Ep.trans E0 | skip
  first | replace Ek := Ek.trans E0 | skip
  first | replace Em := Em.trans E0 | skip
  clear E0
  have Ep := Ext.refl w22
  clear hz22 B22 own21 O22
  obtain ⟨w23, hw23, E0, -, hz23⟩ := box_ w22 #[.int .u8 0, .int .u8 0, .int .u8 0] 73
  replace E := E.trans E0
  first | replace E5 := E5.trans E0 | skip
  first | replace Ep := Ep.trans E0 | skip
  first | replace Ek := Ek.trans E0 | skip
  first | replace Em := Em.trans E0 | skip
  clear E0
  clear hz23
  go_wp2_with fail
  refine (paint_bad none (some ⟨w22.heap.size, 0, none⟩) 0 1 0 1 3 _ (by decide) (by decide) (by decide) (by unfold paintOk; decide)).mono ?_
  rintro e w24 ⟨rfl, E0⟩
  replace E := E.trans E0
  first | replace E5 := E5.trans E0 | skip
  first | replace Ep := Ep.trans E0 | skip
  first | replace Ek := Ek.trans E0 | skip
  first | replace Em := Em.trans E0 | skip
  clear E0
  clear hw22 hw23 hGP
  go_wp2_with fail
  refine (two_c 1 1 _).mono ?_
  rintro e w25 ⟨p25, rfl, hl25, E0⟩
  replace E := E.trans E0
  first | replace E5 := E5.trans E0 | skip
  first | replace Ep := Ep.trans E0 | skip
  first | replace Ek := Ek.trans E0 | skip
  first | replace Em := Em.trans E0 | skip
  clear E0
  go_wp2_with fail
  refine (kinds_c (twoL 1 1) (some ⟨p25, 0, none⟩) 2 ex_two11 _ hl25).mono ?_
  rintro e w26 hk26
  obtain ⟨⟨OA, oc, rows, rfl, own26, hown26⟩, E0⟩ := hk26.1 ex_big
  rw [show (twoL 1 1).length = 2 from rfl] at own26 hown26 ⊢
  obtain ⟨gk, CA, cc, rfl, hgk, k3, k5⟩ := ex_kinds own26 hown26
  have Hk := Lib.hid (show gk < w26.heap.size ∧ w26.cell? ⟨gk, 3, none⟩ = some (.slice CA 2 cc) ∧ w26.cell? ⟨gk, 5, none⟩ = some (.int .i64 2) from ⟨hgk, k3, k5⟩)
  replace E := E.trans E0
  first | replace E5 := E5.trans E0 | skip
  first | replace Ep := Ep.trans E0 | skip
  first | replace Ek := Ek.trans E0 | skip
  first | replace Em := Em.trans E0 | skip
  clear E0
  have Ek := Ext.refl w26
  clear hk26 own26 hown26 hgk k3 k5 hl25
  go_wp2_with fail
  refine (four_c _).mono ?_
  rintro e w27 ⟨g27, rfl, hs0, E0⟩
  replace E := E.trans E0
  first | replace E5 := E5.trans E0 | skip
  first | replace Ep := Ep.trans E0 | skip
  first | replace Ek := Ek.trans E0 | skip
  first | replace Em := Em.trans E0 | skip
  clear E0
  go_wp2_with fail
  refine (two_c 9 9 _).mono ?_
  rintro e w28 ⟨p28, rfl, hl0, E0⟩
  replace hs0 := hs0.ext E0
  replace E := E.trans E0
  first | replace E5 := E5.trans E0 | skip
  first | replace Ep := Ep.trans E0 | skip
  first | replace Ek := Ek.trans E0 | skip
  first | replace Em := Em.trans E0 | skip
  clear E0
  go_wp2_with fail
  refine (at7_c _ _ _ _ _ _).mono ?_
  rintro e w29 ⟨rfl, E0⟩
  replace hs0 := hs0.ext E0
  replace hl0 := hl0.ext E0
  replace E := E.trans E0
  first | replace E5 := E5.trans E0 | skip
  first | replace Ep := Ep.trans E0 | skip
  first | replace Ek := Ek.trans E0 | skip
  first | replace Em := Em.trans E0 | skip
  clear E0
  go_wp2_with fail
  refine (at7_c _ _ _ _ _ _).mono ?_
  rintro e w30 ⟨rfl, E0⟩
  replace hs0 := hs0.ext E0
  replace hl0 := hl0.ext E0
  replace E := E.trans E0
  first | replace E5 := E5.trans E0 | skip
  first | replace Ep := Ep.trans E0 | skip
  first | replace Ek := Ek.trans E0 | skip
  first | replace Em := Em.trans E0 | skip
  clear E0
  obtain ⟨w31, hw31, E0, B31, hz31⟩ := box_ w30 #[.int .i64 1, .int .i64 0, .int .i64 0, .int .i64 0, .bool true, .int .i64 1, .int .i64 0, .int .i64 0, .int .i64 1, .bool true] 64
  have h31 : Laids w31 (some ⟨w30.heap.size, 0, none⟩) 2 best99 := blk_slice B31 rfl (by decide +kernel) rfl (by show 2 ≤ maxLen; decide)
  replace hs0 := hs0.ext E0
  replace hl0 := hl0.ext E0
  replace E := E.trans E0
  first | replace E5 := E5.trans E0 | skip
  first | replace Ep := Ep.trans E0 | skip
  first | replace Ek := Ek.trans E0 | skip
  first | replace Em := Em.trans E0 | skip
  clear E0
  clear hz31 B31
  go_wp2_with fail
  refine (model_ok fourS (some ⟨g27, 0, none⟩) 4 (twoL 9 9) (some ⟨p28, 0, none⟩) 2 best99 (some ⟨w30.heap.size, 0, none⟩) 2 ex_comp99 (by decide) w31 hs0 hl0 h31).mono ?_
  rintro e w32 ⟨⟨v32, rfl, own32⟩, E0⟩
  rw [show best99.length = 2 from rfl] at own32
  obtain ⟨gm, cm, rfl, hgm, m0, m1, m2, m3, m4, m5⟩ := ex_brick_cells own32
  replace E := E.trans E0
  first | replace E5 := E5.trans E0 | skip
  first | replace Ep := Ep.trans E0 | skip
  first | replace Ek := Ek.trans E0 | skip
  first | replace Em := Em.trans E0 | skip
  clear E0
  clear hs0 hl0 h31 hw31
  obtain ⟨w33, hw33, E0, B33, hz33⟩ := box_ w32 #[.slice (some ⟨gm, 0, none⟩) 2 cm] 48
  obtain ⟨GM, hGM⟩ : ∃ g, w32.heap.size = g := ⟨_, rfl⟩
  rw [hGM] at B33
  have HB33 := Lib.hid B33
  have Hm := Lib.hid (show gm < w33.heap.size ∧ w33.cell? ⟨gm, 0, none⟩ = some (.int .i64 1) ∧ w33.cell? ⟨gm, 1, none⟩ = some (.int .i64 1) ∧ w33.cell? ⟨gm, 2, none⟩ = some (.int .i64 0) ∧ w33.cell? ⟨gm, 3, none⟩ = some (.int .i64 0) ∧ w33.cell? ⟨gm, 4, none⟩ = some (.int .u8 1) ∧ w33.cell? ⟨gm, 5, none⟩ = some (.int .u8 3) from
    ⟨Nat.lt_of_lt_of_le hgm E0.size, E0.cell m0, E0.cell m1, E0.cell m2, E0.cell m3, E0.cell m4, E0.cell m5⟩)
  replace E := E.trans E0
  first | replace E5 := E5.trans E0 | skip
  first | replace Ep := Ep.trans E0 | skip
  first | replace Ek := Ek.trans E0 | skip
  first | replace Em := Em.trans E0 | skip
  clear E0
  have Em := Ext.refl w33
  clear hz33 B33 own32 hgm m0 m1 m2 m3 m4 m5
  go_wp2_with fail
  refine (count_c noS none 0 [] none 0 w33 (bytes_nil _) (plates_nil _) (hT.ext E)).mono ?_
  rintro e w34 ⟨rfl, E0⟩
  rw [ex_shape]
  obtain ⟨c34, hc34⟩ : ∃ v, countI noS [] = v := ⟨_, rfl⟩
  rw [hc34]
  replace E := E.trans E0
  first | replace E5 := E5.trans E0 | skip
  first | replace Ep := Ep.trans E0 | skip
  first | replace Ek := Ek.trans E0 | skip
  first | replace Em := Em.trans E0 | skip
  clear E0
  clear hc34 hw33 hGM
  go_wp2_with fail
  refine (four_c _).mono ?_
  rintro e w35 ⟨g35, rfl, hs0, E0⟩
  replace E := E.trans E0
  first | replace E5 := E5.trans E0 | skip
  first | replace Ep := Ep.trans E0 | skip
  first | replace Ek := Ek.trans E0 | skip
  first | replace Em := Em.trans E0 | skip
  clear E0
  obtain ⟨w36, hw36, E0, B36, hz36⟩ := box_ w35 #[.int .i64 2, .int .i64 1, .int .i64 1, .int .u8 0] 39
  have h36 : Plates w36 (some ⟨w35.heap.size, 0, none⟩) 1 [⟨2, 1, 1, 0⟩] := blk_slice B36 rfl (by simp [Plate.cells]) rfl (by show 1 ≤ maxLen; decide)
  replace hs0 := hs0.ext E0
  replace E := E.trans E0
  first | replace E5 := E5.trans E0 | skip
  first | replace Ep := Ep.trans E0 | skip
  first | replace Ek := Ek.trans E0 | skip
  first | replace Em := Em.trans E0 | skip
  clear E0
  clear hz36 B36
  go_wp2_with fail
  refine (count_c fourS (some ⟨g35, 0, none⟩) 4 [⟨2, 1, 1, 0⟩] (some ⟨w35.heap.size, 0, none⟩) 1 w36 hs0 h36 (hT.ext E)).mono ?_
  rintro e w37 ⟨rfl, E0⟩
  rw [ex_plate]
  obtain ⟨c37, hc37⟩ : ∃ v, countI fourS [⟨2, 1, 1, 0⟩] = v := ⟨_, rfl⟩
  rw [hc37]
  replace E := E.trans E0
  first | replace E5 := E5.trans E0 | skip
  first | replace Ep := Ep.trans E0 | skip
  first | replace Ek := Ek.trans E0 | skip
  first | replace Em := Em.trans E0 | skip
  clear E0
  clear hc37 hw36 h36 hs0
  go_upto_region 14 with (fail)
  simp only [List.append_eq, List.cons_append, List.nil_append]
  refine wp_region_byF (Ex14 w37 GP gp cp gk oc CA cc GM gm cm G5) (by intro us; simp only [putAll, Act.put, List.setIfInBounds_toArray, List.set_cons_succ, List.set_cons_zero, Nat.reduceAdd]; rfl) (by kernel_rfl) (by kernel_rfl) (by kernel_rfl) ⟨(Ext.refl _).drew, (nofun), (nofun), (nofun), (nofun), (nofun), (nofun), (nofun), (nofun), (nofun), (nofun), (nofun), (nofun), (nofun), (nofun), (nofun), (nofun), (nofun), (nofun), (nofun), (nofun), (nofun), (nofun), (nofun), (nofun), (nofun), (nofun), (nofun), (nofun), (nofun), (nofun), (nofun), (nofun), (nofun), (nofun), (nofun), (nofun), (nofun), (nofun), (nofun), (nofun), (nofun), (nofun), (nofun), (nofun), (nofun), (nofun), (nofun), (nofun), (nofun), (nofun), (nofun), (nofun), (nofun), (nofun), (nofun), (nofun), (nofun), (nofun), (nofun), (nofun), (nofun), (nofun), (nofun), (nofun), (nofun), (nofun), (nofun), (nofun), (nofun), (nofun), (nofun), (nofun)⟩ ⟨?_, ?_, ?_, ?_, ?_, ?_, ?_, ?_, ?_, ?_, ?_, ?_, ?_, ?_, ?_, ?_, ?_, ?_, ?_, ?_, ?_, ?_, ?_, ?_, ?_, ?_, ?_, ?_, ?_, ?_, ?_, ?_, ?_, ?_, ?_, ?_, ?_, ?_, ?_, ?_, ?_, ?_, ?_, ?_, ?_, ?_, ?_, ?_, ?_, ?_, ?_, ?_, ?_, ?_, ?_, ?_, ?_, ?_, ?_, ?_, ?_, ?_, ?_, ?_, ?_, ?_, ?_, ?_, ?_, ?_, ?_, ?_, trivial⟩ ?_
  · intro L us wx K a ha hp hd hun hI hK
    have HX := hI.x
    clear hp HX
    replace hd := Lib.hid hd
    subst ha
    simp only [Act.put, List.setIfInBounds_toArray, List.set_cons_succ, List.set_cons_zero] at hK
    go_simp
    refine hK _ _ ?_
    first
    | (refine ⟨hI.x, ?_, hI.f1, hI.f2, hI.f3, hI.f4, hI.f5, hI.f6, hI.f7, hI.f8, hI.f9, hI.f10, hI.f11, hI.f12, hI.f13, hI.f14, hI.f15, hI.f16, hI.f17, hI.f18, hI.f19, hI.f20, hI.f21, hI.f22, hI.f23, hI.f24, hI.f25, hI.f26, hI.f27, hI.f28, hI.f29, hI.f30, hI.f31, hI.f32, hI.f33, hI.f34, hI.f35, hI.f36, hI.f37, hI.f38, hI.f39, hI.f40, hI.f41, hI.f42, hI.f43, hI.f44, hI.f45, hI.f46, hI.f47, hI.f48, hI.f49, hI.f50, hI.f51, hI.f52, hI.f53, hI.f54, hI.f55, hI.f56, hI.f57, hI.f58, hI.f59, hI.f60, hI.f61, hI.f62, hI.f63, hI.f64, hI.f65, hI.f66, hI.f67, hI.f68, hI.f69, hI.f70, hI.f71⟩ <;> (first | exact fun _ => rfl | skip))
    | (refine ⟨?_, ?_, ?_, ?_, ?_, ?_, ?_, ?_, ?_, ?_, ?_, ?_, ?_, ?_, ?_, ?_, ?_, ?_, ?_, ?_, ?_, ?_, ?_, ?_, ?_, ?_, ?_, ?_, ?_, ?_, ?_, ?_, ?_, ?_, ?_, ?_, ?_, ?_, ?_, ?_, ?_, ?_, ?_, ?_, ?_, ?_, ?_, ?_, ?_, ?_, ?_, ?_, ?_, ?_, ?_, ?_, ?_, ?_, ?_, ?_, ?_, ?_, ?_, ?_, ?_, ?_, ?_, ?_, ?_, ?_, ?_, ?_, ?_⟩ <;> (first | exact hI.x | exact hI.f0 | exact hI.f1 | exact hI.f2 | exact hI.f3 | exact hI.f4 | exact hI.f5 | exact hI.f6 | exact hI.f7 | exact hI.f8 | exact hI.f9 | exact hI.f10 | exact hI.f11 | exact hI.f12 | exact hI.f13 | exact hI.f14 | exact hI.f15 | exact hI.f16 | exact hI.f17 | exact hI.f18 | exact hI.f19 | exact hI.f20 | exact hI.f21 | exact hI.f22 | exact hI.f23 | exact hI.f24 | exact hI.f25 | exact hI.f26 | exact hI.f27 | exact hI.f28 | exact hI.f29 | exact hI.f30 | exact hI.f31 | exact hI.f32 | exact hI.f33 | exact hI.f34 | exact hI.f35 | exact hI.f36 | exact hI.f37 | exact hI.f38 | exact hI.f39 | exact hI.f40 | exact hI.f41 | exact hI.f42 | exact hI.f43 | exact hI.f44 | exact hI.f45 | exact hI.f46 | exact hI.f47 | exact hI.f48 | exact hI.f49 | exact hI.f50 | exact hI.f51 | exact hI.f52 | exact hI.f53 | exact hI.f54 | exact hI.f55 | exact hI.f56 | exact hI.f57 | exact hI.f58 | exact hI.f59 | exact hI.f60 | exact hI.f61 | exact hI.f62 | exact hI.f63 | exact hI.f64 | exact hI.f65 | exact hI.f66 | exact hI.f67 | exact hI.f68 | exact hI.f69 | exact hI.f70 | exact hI.f71 | exact fun _ => rfl | skip))
  · intro L us wx K a ha hp hd hun hI hK
    have HX := hI.x
    have u0 := hI.f0 (hp 0 (by kernel_rfl))
    clear hp HX
    replace hd := Lib.hid hd
    simp only [u0] at ha
    subst ha
    simp only [Act.put, List.setIfInBounds_toArray, List.set_cons_succ, List.set_cons_zero] at hK
    go_simp
    refine hK _ _ ?_
    first
    | (refine ⟨hI.x, hI.f0, ?_, hI.f2, hI.f3, hI.f4, hI.f5, hI.f6, hI.f7, hI.f8, hI.f9, hI.f10, hI.f11, hI.f12, hI.f13, hI.f14, hI.f15, hI.f16, hI.f17, hI.f18, hI.f19, hI.f20, hI.f21, hI.f22, hI.f23, hI.f24, hI.f25, hI.f26, hI.f27, hI.f28, hI.f29, hI.f30, hI.f31, hI.f32, hI.f33, hI.f34, hI.f35, hI.f36, hI.f37, hI.f38, hI.f39, hI.f40, hI.f41, hI.f42, hI.f43, hI.f44, hI.f45, hI.f46, hI.f47, hI.f48, hI.f49, hI.f50, hI.f51, hI.f52, hI.f53, hI.f54, hI.f55, hI.f56, hI.f57, hI.f58, hI.f59, hI.f60, hI.f61, hI.f62, hI.f63, hI.f64, hI.f65, hI.f66, hI.f67, hI.f68, hI.f69, hI.f70, hI.f71⟩ <;> (first | exact fun _ => rfl | skip))
    | (refine ⟨?_, ?_, ?_, ?_, ?_, ?_, ?_, ?_, ?_, ?_, ?_, ?_, ?_, ?_, ?_, ?_, ?_, ?_, ?_, ?_, ?_, ?_, ?_, ?_, ?_, ?_, ?_, ?_, ?_, ?_, ?_, ?_, ?_, ?_, ?_, ?_, ?_, ?_, ?_, ?_, ?_, ?_, ?_, ?_, ?_, ?_, ?_, ?_, ?_, ?_, ?_, ?_, ?_, ?_, ?_, ?_, ?_, ?_, ?_, ?_, ?_, ?_, ?_, ?_, ?_, ?_, ?_, ?_, ?_, ?_, ?_, ?_, ?_⟩ <;> (first | exact hI.x | exact hI.f0 | exact hI.f1 | exact hI.f2 | exact hI.f3 | exact hI.f4 | exact hI.f5 | exact hI.f6 | exact hI.f7 | exact hI.f8 | exact hI.f9 | exact hI.f10 | exact hI.f11 | exact hI.f12 | exact hI.f13 | exact hI.f14 | exact hI.f15 | exact hI.f16 | exact hI.f17 | exact hI.f18 | exact hI.f19 | exact hI.f20 | exact hI.f21 | exact hI.f22 | exact hI.f23 | exact hI.f24 | exact hI.f25 | exact hI.f26 | exact hI.f27 | exact hI.f28 | exact hI.f29 | exact hI.f30 | exact hI.f31 | exact hI.f32 | exact hI.f33 | exact hI.f34 | exact hI.f35 | exact hI.f36 | exact hI.f37 | exact hI.f38 | exact hI.f39 | exact hI.f40 | exact hI.f41 | exact hI.f42 | exact hI.f43 | exact hI.f44 | exact hI.f45 | exact hI.f46 | exact hI.f47 | exact hI.f48 | exact hI.f49 | exact hI.f50 | exact hI.f51 | exact hI.f52 | exact hI.f53 | exact hI.f54 | exact hI.f55 | exact hI.f56 | exact hI.f57 | exact hI.f58 | exact hI.f59 | exact hI.f60 | exact hI.f61 | exact hI.f62 | exact hI.f63 | exact hI.f64 | exact hI.f65 | exact hI.f66 | exact hI.f67 | exact hI.f68 | exact hI.f69 | exact hI.f70 | exact hI.f71 | exact fun _ => rfl | skip))
  · intro L us wx K a ha hp hd hun hI hK
    have HX := hI.x
    have u1 := hI.f1 (hp 1 (by kernel_rfl))
    clear hp HX
    replace hd := Lib.hid hd
    simp only [u1] at ha
    subst ha
    simp only [Act.put, List.setIfInBounds_toArray, List.set_cons_succ, List.set_cons_zero] at hK
    go_simp
    refine hK _ _ ?_
    first
    | (refine ⟨hI.x, hI.f0, hI.f1, ?_, hI.f3, hI.f4, hI.f5, hI.f6, hI.f7, hI.f8, hI.f9, hI.f10, hI.f11, hI.f12, hI.f13, hI.f14, hI.f15, hI.f16, hI.f17, hI.f18, hI.f19, hI.f20, hI.f21, hI.f22, hI.f23, hI.f24, hI.f25, hI.f26, hI.f27, hI.f28, hI.f29, hI.f30, hI.f31, hI.f32, hI.f33, hI.f34, hI.f35, hI.f36, hI.f37, hI.f38, hI.f39, hI.f40, hI.f41, hI.f42, hI.f43, hI.f44, hI.f45, hI.f46, hI.f47, hI.f48, hI.f49, hI.f50, hI.f51, hI.f52, hI.f53, hI.f54, hI.f55, hI.f56, hI.f57, hI.f58, hI.f59, hI.f60, hI.f61, hI.f62, hI.f63, hI.f64, hI.f65, hI.f66, hI.f67, hI.f68, hI.f69, hI.f70, hI.f71⟩ <;> (first | exact fun _ => rfl | skip))
    | (refine ⟨?_, ?_, ?_, ?_, ?_, ?_, ?_, ?_, ?_, ?_, ?_, ?_, ?_, ?_, ?_, ?_, ?_, ?_, ?_, ?_, ?_, ?_, ?_, ?_, ?_, ?_, ?_, ?_, ?_, ?_, ?_, ?_, ?_, ?_, ?_, ?_, ?_, ?_, ?_, ?_, ?_, ?_, ?_, ?_, ?_, ?_, ?_, ?_, ?_, ?_, ?_, ?_, ?_, ?_, ?_, ?_, ?_, ?_, ?_, ?_, ?_, ?_, ?_, ?_, ?_, ?_, ?_, ?_, ?_, ?_, ?_, ?_, ?_⟩ <;> (first | exact hI.x | exact hI.f0 | exact hI.f1 | exact hI.f2 | exact hI.f3 | exact hI.f4 | exact hI.f5 | exact hI.f6 | exact hI.f7 | exact hI.f8 | exact hI.f9 | exact hI.f10 | exact hI.f11 | exact hI.f12 | exact hI.f13 | exact hI.f14 | exact hI.f15 | exact hI.f16 | exact hI.f17 | exact hI.f18 | exact hI.f19 | exact hI.f20 | exact hI.f21 | exact hI.f22 | exact hI.f23 | exact hI.f24 | exact hI.f25 | exact hI.f26 | exact hI.f27 | exact hI.f28 | exact hI.f29 | exact hI.f30 | exact hI.f31 | exact hI.f32 | exact hI.f33 | exact hI.f34 | exact hI.f35 | exact hI.f36 | exact hI.f37 | exact hI.f38 | exact hI.f39 | exact hI.f40 | exact hI.f41 | exact hI.f42 | exact hI.f43 | exact hI.f44 | exact hI.f45 | exact hI.f46 | exact hI.f47 | exact hI.f48 | exact hI.f49 | exact hI.f50 | exact hI.f51 | exact hI.f52 | exact hI.f53 | exact hI.f54 | exact hI.f55 | exact hI.f56 | exact hI.f57 | exact hI.f58 | exact hI.f59 | exact hI.f60 | exact hI.f61 | exact hI.f62 | exact hI.f63 | exact hI.f64 | exact hI.f65 | exact hI.f66 | exact hI.f67 | exact hI.f68 | exact hI.f69 | exact hI.f70 | exact hI.f71 | exact fun _ => rfl | skip))
  · intro L us wx K a ha hp hd hun hI hK
    have HX := hI.x
    have u2 := hI.f2 (hp 2 (by kernel_rfl))
    clear hp HX
    replace hd := Lib.hid hd
    simp only [u2] at ha
    subst ha
    simp only [Act.put, List.setIfInBounds_toArray, List.set_cons_succ, List.set_cons_zero] at hK
    go_simp
    refine hK _ _ ?_
    first
    | (refine ⟨hI.x, hI.f0, hI.f1, hI.f2, ?_, hI.f4, hI.f5, hI.f6, hI.f7, hI.f8, hI.f9, hI.f10, hI.f11, hI.f12, hI.f13, hI.f14, hI.f15, hI.f16, hI.f17, hI.f18, hI.f19, hI.f20, hI.f21, hI.f22, hI.f23, hI.f24, hI.f25, hI.f26, hI.f27, hI.f28, hI.f29, hI.f30, hI.f31, hI.f32, hI.f33, hI.f34, hI.f35, hI.f36, hI.f37, hI.f38, hI.f39, hI.f40, hI.f41, hI.f42, hI.f43, hI.f44, hI.f45, hI.f46, hI.f47, hI.f48, hI.f49, hI.f50, hI.f51, hI.f52, hI.f53, hI.f54, hI.f55, hI.f56, hI.f57, hI.f58, hI.f59, hI.f60, hI.f61, hI.f62, hI.f63, hI.f64, hI.f65, hI.f66, hI.f67, hI.f68, hI.f69, hI.f70, hI.f71⟩ <;> (first | exact fun _ => rfl | skip))
    | (refine ⟨?_, ?_, ?_, ?_, ?_, ?_, ?_, ?_, ?_, ?_, ?_, ?_, ?_, ?_, ?_, ?_, ?_, ?_, ?_, ?_, ?_, ?_, ?_, ?_, ?_, ?_, ?_, ?_, ?_, ?_, ?_, ?_, ?_, ?_, ?_, ?_, ?_, ?_, ?_, ?_, ?_, ?_, ?_, ?_, ?_, ?_, ?_, ?_, ?_, ?_, ?_, ?_, ?_, ?_, ?_, ?_, ?_, ?_, ?_, ?_, ?_, ?_, ?_, ?_, ?_, ?_, ?_, ?_, ?_, ?_, ?_, ?_, ?_⟩ <;> (first | exact hI.x | exact hI.f0 | exact hI.f1 | exact hI.f2 | exact hI.f3 | exact hI.f4 | exact hI.f5 | exact hI.f6 | exact hI.f7 | exact hI.f8 | exact hI.f9 | exact hI.f10 | exact hI.f11 | exact hI.f12 | exact hI.f13 | exact hI.f14 | exact hI.f15 | exact hI.f16 | exact hI.f17 | exact hI.f18 | exact hI.f19 | exact hI.f20 | exact hI.f21 | exact hI.f22 | exact hI.f23 | exact hI.f24 | exact hI.f25 | exact hI.f26 | exact hI.f27 | exact hI.f28 | exact hI.f29 | exact hI.f30 | exact hI.f31 | exact hI.f32 | exact hI.f33 | exact hI.f34 | exact hI.f35 | exact hI.f36 | exact hI.f37 | exact hI.f38 | exact hI.f39 | exact hI.f40 | exact hI.f41 | exact hI.f42 | exact hI.f43 | exact hI.f44 | exact hI.f45 | exact hI.f46 | exact hI.f47 | exact hI.f48 | exact hI.f49 | exact hI.f50 | exact hI.f51 | exact hI.f52 | exact hI.f53 | exact hI.f54 | exact hI.f55 | exact hI.f56 | exact hI.f57 | exact hI.f58 | exact hI.f59 | exact hI.f60 | exact hI.f61 | exact hI.f62 | exact hI.f63 | exact hI.f64 | exact hI.f65 | exact hI.f66 | exact hI.f67 | exact hI.f68 | exact hI.f69 | exact hI.f70 | exact hI.f71 | exact fun _ => rfl | skip))
  · intro L us wx K a ha hp hd hun hI hK
    have HX := hI.x
    have u2 := hI.f2 (hp 2 (by kernel_rfl))
    have u3 := hI.f3 (hp 3 (by kernel_rfl))
    have bb := (HB22.out.ext (Ep.trans HX)).cell
    clear hp HX
    replace hd := Lib.hid hd
    simp only [u2, u3] at ha
    subst ha
    simp only [Act.put, List.setIfInBounds_toArray, List.set_cons_succ, List.set_cons_zero] at hK
    go_simp
    refine hK _ _ ?_
    first
    | (refine ⟨hI.x, hI.f0, hI.f1, hI.f2, hI.f3, ?_, hI.f5, hI.f6, hI.f7, hI.f8, hI.f9, hI.f10, hI.f11, hI.f12, hI.f13, hI.f14, hI.f15, hI.f16, hI.f17, hI.f18, hI.f19, hI.f20, hI.f21, hI.f22, hI.f23, hI.f24, hI.f25, hI.f26, hI.f27, hI.f28, hI.f29, hI.f30, hI.f31, hI.f32, hI.f33, hI.f34, hI.f35, hI.f36, hI.f37, hI.f38, hI.f39, hI.f40, hI.f41, hI.f42, hI.f43, hI.f44, hI.f45, hI.f46, hI.f47, hI.f48, hI.f49, hI.f50, hI.f51, hI.f52, hI.f53, hI.f54, hI.f55, hI.f56, hI.f57, hI.f58, hI.f59, hI.f60, hI.f61, hI.f62, hI.f63, hI.f64, hI.f65, hI.f66, hI.f67, hI.f68, hI.f69, hI.f70, hI.f71⟩ <;> (first | exact fun _ => rfl | skip))
    | (refine ⟨?_, ?_, ?_, ?_, ?_, ?_, ?_, ?_, ?_, ?_, ?_, ?_, ?_, ?_, ?_, ?_, ?_, ?_, ?_, ?_, ?_, ?_, ?_, ?_, ?_, ?_, ?_, ?_, ?_, ?_, ?_, ?_, ?_, ?_, ?_, ?_, ?_, ?_, ?_, ?_, ?_, ?_, ?_, ?_, ?_, ?_, ?_, ?_, ?_, ?_, ?_, ?_, ?_, ?_, ?_, ?_, ?_, ?_, ?_, ?_, ?_, ?_, ?_, ?_, ?_, ?_, ?_, ?_, ?_, ?_, ?_, ?_, ?_⟩ <;> (first | exact hI.x | exact hI.f0 | exact hI.f1 | exact hI.f2 | exact hI.f3 | exact hI.f4 | exact hI.f5 | exact hI.f6 | exact hI.f7 | exact hI.f8 | exact hI.f9 | exact hI.f10 | exact hI.f11 | exact hI.f12 | exact hI.f13 | exact hI.f14 | exact hI.f15 | exact hI.f16 | exact hI.f17 | exact hI.f18 | exact hI.f19 | exact hI.f20 | exact hI.f21 | exact hI.f22 | exact hI.f23 | exact hI.f24 | exact hI.f25 | exact hI.f26 | exact hI.f27 | exact hI.f28 | exact hI.f29 | exact hI.f30 | exact hI.f31 | exact hI.f32 | exact hI.f33 | exact hI.f34 | exact hI.f35 | exact hI.f36 | exact hI.f37 | exact hI.f38 | exact hI.f39 | exact hI.f40 | exact hI.f41 | exact hI.f42 | exact hI.f43 | exact hI.f44 | exact hI.f45 | exact hI.f46 | exact hI.f47 | exact hI.f48 | exact hI.f49 | exact hI.f50 | exact hI.f51 | exact hI.f52 | exact hI.f53 | exact hI.f54 | exact hI.f55 | exact hI.f56 | exact hI.f57 | exact hI.f58 | exact hI.f59 | exact hI.f60 | exact hI.f61 | exact hI.f62 | exact hI.f63 | exact hI.f64 | exact hI.f65 | exact hI.f66 | exact hI.f67 | exact hI.f68 | exact hI.f69 | exact hI.f70 | exact hI.f71 | exact fun _ => rfl | skip))
  · intro L us wx K a ha hp hd hun hI hK
    have HX := hI.x
    have u2 := hI.f2 (hp 2 (by kernel_rfl))
    have u4 := hI.f4 (hp 4 (by kernel_rfl))
    have cv := own_conv HO22.out (Ep.trans HX)
    clear hp HX
    replace hd := Lib.hid hd
    simp only [u2, u4] at ha
    subst ha
    simp only [Act.put, List.setIfInBounds_toArray, List.set_cons_succ, List.set_cons_zero] at hK
    go_simp
    refine hK _ _ ?_
    first
    | (refine ⟨hI.x, hI.f0, hI.f1, hI.f2, hI.f3, hI.f4, ?_, hI.f6, hI.f7, hI.f8, hI.f9, hI.f10, hI.f11, hI.f12, hI.f13, hI.f14, hI.f15, hI.f16, hI.f17, hI.f18, hI.f19, hI.f20, hI.f21, hI.f22, hI.f23, hI.f24, hI.f25, hI.f26, hI.f27, hI.f28, hI.f29, hI.f30, hI.f31, hI.f32, hI.f33, hI.f34, hI.f35, hI.f36, hI.f37, hI.f38, hI.f39, hI.f40, hI.f41, hI.f42, hI.f43, hI.f44, hI.f45, hI.f46, hI.f47, hI.f48, hI.f49, hI.f50, hI.f51, hI.f52, hI.f53, hI.f54, hI.f55, hI.f56, hI.f57, hI.f58, hI.f59, hI.f60, hI.f61, hI.f62, hI.f63, hI.f64, hI.f65, hI.f66, hI.f67, hI.f68, hI.f69, hI.f70, hI.f71⟩ <;> (first | exact fun _ => rfl | skip))
    | (refine ⟨?_, ?_, ?_, ?_, ?_, ?_, ?_, ?_, ?_, ?_, ?_, ?_, ?_, ?_, ?_, ?_, ?_, ?_, ?_, ?_, ?_, ?_, ?_, ?_, ?_, ?_, ?_, ?_, ?_, ?_, ?_, ?_, ?_, ?_, ?_, ?_, ?_, ?_, ?_, ?_, ?_, ?_, ?_, ?_, ?_, ?_, ?_, ?_, ?_, ?_, ?_, ?_, ?_, ?_, ?_, ?_, ?_, ?_, ?_, ?_, ?_, ?_, ?_, ?_, ?_, ?_, ?_, ?_, ?_, ?_, ?_, ?_, ?_⟩ <;> (first | exact hI.x | exact hI.f0 | exact hI.f1 | exact hI.f2 | exact hI.f3 | exact hI.f4 | exact hI.f5 | exact hI.f6 | exact hI.f7 | exact hI.f8 | exact hI.f9 | exact hI.f10 | exact hI.f11 | exact hI.f12 | exact hI.f13 | exact hI.f14 | exact hI.f15 | exact hI.f16 | exact hI.f17 | exact hI.f18 | exact hI.f19 | exact hI.f20 | exact hI.f21 | exact hI.f22 | exact hI.f23 | exact hI.f24 | exact hI.f25 | exact hI.f26 | exact hI.f27 | exact hI.f28 | exact hI.f29 | exact hI.f30 | exact hI.f31 | exact hI.f32 | exact hI.f33 | exact hI.f34 | exact hI.f35 | exact hI.f36 | exact hI.f37 | exact hI.f38 | exact hI.f39 | exact hI.f40 | exact hI.f41 | exact hI.f42 | exact hI.f43 | exact hI.f44 | exact hI.f45 | exact hI.f46 | exact hI.f47 | exact hI.f48 | exact hI.f49 | exact hI.f50 | exact hI.f51 | exact hI.f52 | exact hI.f53 | exact hI.f54 | exact hI.f55 | exact hI.f56 | exact hI.f57 | exact hI.f58 | exact hI.f59 | exact hI.f60 | exact hI.f61 | exact hI.f62 | exact hI.f63 | exact hI.f64 | exact hI.f65 | exact hI.f66 | exact hI.f67 | exact hI.f68 | exact hI.f69 | exact hI.f70 | exact hI.f71 | exact fun _ => rfl | skip))
  · intro L us wx K a ha hp hd hun hI hK
    have HX := hI.x
    have u2 := hI.f2 (hp 2 (by kernel_rfl))
    have u5 := hI.f5 (hp 5 (by kernel_rfl))
    clear hp HX
    replace hd := Lib.hid hd
    simp only [u2, u5] at ha
    subst ha
    simp only [Act.put, List.setIfInBounds_toArray, List.set_cons_succ, List.set_cons_zero] at hK
    go_simp
    refine hK _ _ ?_
    first
    | (refine ⟨hI.x, hI.f0, hI.f1, hI.f2, hI.f3, hI.f4, hI.f5, ?_, hI.f7, hI.f8, hI.f9, hI.f10, hI.f11, hI.f12, hI.f13, hI.f14, hI.f15, hI.f16, hI.f17, hI.f18, hI.f19, hI.f20, hI.f21, hI.f22, hI.f23, hI.f24, hI.f25, hI.f26, hI.f27, hI.f28, hI.f29, hI.f30, hI.f31, hI.f32, hI.f33, hI.f34, hI.f35, hI.f36, hI.f37, hI.f38, hI.f39, hI.f40, hI.f41, hI.f42, hI.f43, hI.f44, hI.f45, hI.f46, hI.f47, hI.f48, hI.f49, hI.f50, hI.f51, hI.f52, hI.f53, hI.f54, hI.f55, hI.f56, hI.f57, hI.f58, hI.f59, hI.f60, hI.f61, hI.f62, hI.f63, hI.f64, hI.f65, hI.f66, hI.f67, hI.f68, hI.f69, hI.f70, hI.f71⟩ <;> (first | exact fun _ => rfl | skip))
    | (refine ⟨?_, ?_, ?_, ?_, ?_, ?_, ?_, ?_, ?_, ?_, ?_, ?_, ?_, ?_, ?_, ?_, ?_, ?_, ?_, ?_, ?_, ?_, ?_, ?_, ?_, ?_, ?_, ?_, ?_, ?_, ?_, ?_, ?_, ?_, ?_, ?_, ?_, ?_, ?_, ?_, ?_, ?_, ?_, ?_, ?_, ?_, ?_, ?_, ?_, ?_, ?_, ?_, ?_, ?_, ?_, ?_, ?_, ?_, ?_, ?_, ?_, ?_, ?_, ?_, ?_, ?_, ?_, ?_, ?_, ?_, ?_, ?_, ?_⟩ <;> (first | exact hI.x | exact hI.f0 | exact hI.f1 | exact hI.f2 | exact hI.f3 | exact hI.f4 | exact hI.f5 | exact hI.f6 | exact hI.f7 | exact hI.f8 | exact hI.f9 | exact hI.f10 | exact hI.f11 | exact hI.f12 | exact hI.f13 | exact hI.f14 | exact hI.f15 | exact hI.f16 | exact hI.f17 | exact hI.f18 | exact hI.f19 | exact hI.f20 | exact hI.f21 | exact hI.f22 | exact hI.f23 | exact hI.f24 | exact hI.f25 | exact hI.f26 | exact hI.f27 | exact hI.f28 | exact hI.f29 | exact hI.f30 | exact hI.f31 | exact hI.f32 | exact hI.f33 | exact hI.f34 | exact hI.f35 | exact hI.f36 | exact hI.f37 | exact hI.f38 | exact hI.f39 | exact hI.f40 | exact hI.f41 | exact hI.f42 | exact hI.f43 | exact hI.f44 | exact hI.f45 | exact hI.f46 | exact hI.f47 | exact hI.f48 | exact hI.f49 | exact hI.f50 | exact hI.f51 | exact hI.f52 | exact hI.f53 | exact hI.f54 | exact hI.f55 | exact hI.f56 | exact hI.f57 | exact hI.f58 | exact hI.f59 | exact hI.f60 | exact hI.f61 | exact hI.f62 | exact hI.f63 | exact hI.f64 | exact hI.f65 | exact hI.f66 | exact hI.f67 | exact hI.f68 | exact hI.f69 | exact hI.f70 | exact hI.f71 | exact fun _ => rfl | skip))
    exact fun _ => congrArg Value.bool (by decide +kernel)
  · intro L us wx K a ha hp hd hun hI hK
    have HX := hI.x
    have u2 := hI.f2 (hp 2 (by kernel_rfl))
    have u6 := hI.f6 (hp 6 (by kernel_rfl))
    clear hp HX
    replace hd := Lib.hid hd
    simp only [u2, u6] at ha
    subst ha
    simp only [Act.put, List.setIfInBounds_toArray, List.set_cons_succ, List.set_cons_zero] at hK
    go_simp
    refine hK _ _ ?_
    first
    | (refine ⟨hI.x, hI.f0, hI.f1, hI.f2, hI.f3, hI.f4, hI.f5, hI.f6, ?_, hI.f8, hI.f9, hI.f10, hI.f11, hI.f12, hI.f13, hI.f14, hI.f15, hI.f16, hI.f17, hI.f18, hI.f19, hI.f20, hI.f21, hI.f22, hI.f23, hI.f24, hI.f25, hI.f26, hI.f27, hI.f28, hI.f29, hI.f30, hI.f31, hI.f32, hI.f33, hI.f34, hI.f35, hI.f36, hI.f37, hI.f38, hI.f39, hI.f40, hI.f41, hI.f42, hI.f43, hI.f44, hI.f45, hI.f46, hI.f47, hI.f48, hI.f49, hI.f50, hI.f51, hI.f52, hI.f53, hI.f54, hI.f55, hI.f56, hI.f57, hI.f58, hI.f59, hI.f60, hI.f61, hI.f62, hI.f63, hI.f64, hI.f65, hI.f66, hI.f67, hI.f68, hI.f69, hI.f70, hI.f71⟩ <;> (first | exact fun _ => rfl | skip))
    | (refine ⟨?_, ?_, ?_, ?_, ?_, ?_, ?_, ?_, ?_, ?_, ?_, ?_, ?_, ?_, ?_, ?_, ?_, ?_, ?_, ?_, ?_, ?_, ?_, ?_, ?_, ?_, ?_, ?_, ?_, ?_, ?_, ?_, ?_, ?_, ?_, ?_, ?_, ?_, ?_, ?_, ?_, ?_, ?_, ?_, ?_, ?_, ?_, ?_, ?_, ?_, ?_, ?_, ?_, ?_, ?_, ?_, ?_, ?_, ?_, ?_, ?_, ?_, ?_, ?_, ?_, ?_, ?_, ?_, ?_, ?_, ?_, ?_, ?_⟩ <;> (first | exact hI.x | exact hI.f0 | exact hI.f1 | exact hI.f2 | exact hI.f3 | exact hI.f4 | exact hI.f5 | exact hI.f6 | exact hI.f7 | exact hI.f8 | exact hI.f9 | exact hI.f10 | exact hI.f11 | exact hI.f12 | exact hI.f13 | exact hI.f14 | exact hI.f15 | exact hI.f16 | exact hI.f17 | exact hI.f18 | exact hI.f19 | exact hI.f20 | exact hI.f21 | exact hI.f22 | exact hI.f23 | exact hI.f24 | exact hI.f25 | exact hI.f26 | exact hI.f27 | exact hI.f28 | exact hI.f29 | exact hI.f30 | exact hI.f31 | exact hI.f32 | exact hI.f33 | exact hI.f34 | exact hI.f35 | exact hI.f36 | exact hI.f37 | exact hI.f38 | exact hI.f39 | exact hI.f40 | exact hI.f41 | exact hI.f42 | exact hI.f43 | exact hI.f44 | exact hI.f45 | exact hI.f46 | exact hI.f47 | exact hI.f48 | exact hI.f49 | exact hI.f50 | exact hI.f51 | exact hI.f52 | exact hI.f53 | exact hI.f54 | exact hI.f55 | exact hI.f56 | exact hI.f57 | exact hI.f58 | exact hI.f59 | exact hI.f60 | exact hI.f61 | exact hI.f62 | exact hI.f63 | exact hI.f64 | exact hI.f65 | exact hI.f66 | exact hI.f67 | exact hI.f68 | exact hI.f69 | exact hI.f70 | exact hI.f71 | exact fun _ => rfl | skip))
  · intro L us wx K a ha hp hd hun hI hK
    have HX := hI.x
    have u7 := hI.f7 (hp 7 (by kernel_rfl))
    clear hp HX
    replace hd := Lib.hid hd
    simp only [u7] at ha
    subst ha
    simp only [Act.put, List.setIfInBounds_toArray, List.set_cons_succ, List.set_cons_zero] at hK
    go_simp
    refine hK _ _ ?_
    first
    | (refine ⟨hI.x, hI.f0, hI.f1, hI.f2, hI.f3, hI.f4, hI.f5, hI.f6, hI.f7, ?_, hI.f9, hI.f10, hI.f11, hI.f12, hI.f13, hI.f14, hI.f15, hI.f16, hI.f17, hI.f18, hI.f19, hI.f20, hI.f21, hI.f22, hI.f23, hI.f24, hI.f25, hI.f26, hI.f27, hI.f28, hI.f29, hI.f30, hI.f31, hI.f32, hI.f33, hI.f34, hI.f35, hI.f36, hI.f37, hI.f38, hI.f39, hI.f40, hI.f41, hI.f42, hI.f43, hI.f44, hI.f45, hI.f46, hI.f47, hI.f48, hI.f49, hI.f50, hI.f51, hI.f52, hI.f53, hI.f54, hI.f55, hI.f56, hI.f57, hI.f58, hI.f59, hI.f60, hI.f61, hI.f62, hI.f63, hI.f64, hI.f65, hI.f66, hI.f67, hI.f68, hI.f69, hI.f70, hI.f71⟩ <;> (first | exact fun _ => rfl | skip))
    | (refine ⟨?_, ?_, ?_, ?_, ?_, ?_, ?_, ?_, ?_, ?_, ?_, ?_, ?_, ?_, ?_, ?_, ?_, ?_, ?_, ?_, ?_, ?_, ?_, ?_, ?_, ?_, ?_, ?_, ?_, ?_, ?_, ?_, ?_, ?_, ?_, ?_, ?_, ?_, ?_, ?_, ?_, ?_, ?_, ?_, ?_, ?_, ?_, ?_, ?_, ?_, ?_, ?_, ?_, ?_, ?_, ?_, ?_, ?_, ?_, ?_, ?_, ?_, ?_, ?_, ?_, ?_, ?_, ?_, ?_, ?_, ?_, ?_, ?_⟩ <;> (first | exact hI.x | exact hI.f0 | exact hI.f1 | exact hI.f2 | exact hI.f3 | exact hI.f4 | exact hI.f5 | exact hI.f6 | exact hI.f7 | exact hI.f8 | exact hI.f9 | exact hI.f10 | exact hI.f11 | exact hI.f12 | exact hI.f13 | exact hI.f14 | exact hI.f15 | exact hI.f16 | exact hI.f17 | exact hI.f18 | exact hI.f19 | exact hI.f20 | exact hI.f21 | exact hI.f22 | exact hI.f23 | exact hI.f24 | exact hI.f25 | exact hI.f26 | exact hI.f27 | exact hI.f28 | exact hI.f29 | exact hI.f30 | exact hI.f31 | exact hI.f32 | exact hI.f33 | exact hI.f34 | exact hI.f35 | exact hI.f36 | exact hI.f37 | exact hI.f38 | exact hI.f39 | exact hI.f40 | exact hI.f41 | exact hI.f42 | exact hI.f43 | exact hI.f44 | exact hI.f45 | exact hI.f46 | exact hI.f47 | exact hI.f48 | exact hI.f49 | exact hI.f50 | exact hI.f51 | exact hI.f52 | exact hI.f53 | exact hI.f54 | exact hI.f55 | exact hI.f56 | exact hI.f57 | exact hI.f58 | exact hI.f59 | exact hI.f60 | exact hI.f61 | exact hI.f62 | exact hI.f63 | exact hI.f64 | exact hI.f65 | exact hI.f66 | exact hI.f67 | exact hI.f68 | exact hI.f69 | exact hI.f70 | exact hI.f71 | exact fun _ => rfl | skip))
  · intro L us wx K a ha hp hd hun hI hK
    have HX := hI.x
    have u8 := hI.f8 (hp 8 (by kernel_rfl))
    clear hp HX
    replace hd := Lib.hid hd
    simp only [u8] at ha
    subst ha
    simp only [Act.put, List.setIfInBounds_toArray, List.set_cons_succ, List.set_cons_zero] at hK
    go_simp
    refine hK _ _ ?_
    first
    | (refine ⟨hI.x, hI.f0, hI.f1, hI.f2, hI.f3, hI.f4, hI.f5, hI.f6, hI.f7, hI.f8, ?_, hI.f10, hI.f11, hI.f12, hI.f13, hI.f14, hI.f15, hI.f16, hI.f17, hI.f18, hI.f19, hI.f20, hI.f21, hI.f22, hI.f23, hI.f24, hI.f25, hI.f26, hI.f27, hI.f28, hI.f29, hI.f30, hI.f31, hI.f32, hI.f33, hI.f34, hI.f35, hI.f36, hI.f37, hI.f38, hI.f39, hI.f40, hI.f41, hI.f42, hI.f43, hI.f44, hI.f45, hI.f46, hI.f47, hI.f48, hI.f49, hI.f50, hI.f51, hI.f52, hI.f53, hI.f54, hI.f55, hI.f56, hI.f57, hI.f58, hI.f59, hI.f60, hI.f61, hI.f62, hI.f63, hI.f64, hI.f65, hI.f66, hI.f67, hI.f68, hI.f69, hI.f70, hI.f71⟩ <;> (first | exact fun _ => rfl | skip))
    | (refine ⟨?_, ?_, ?_, ?_, ?_, ?_, ?_, ?_, ?_, ?_, ?_, ?_, ?_, ?_, ?_, ?_, ?_, ?_, ?_, ?_, ?_, ?_, ?_, ?_, ?_, ?_, ?_, ?_, ?_, ?_, ?_, ?_, ?_, ?_, ?_, ?_, ?_, ?_, ?_, ?_, ?_, ?_, ?_, ?_, ?_, ?_, ?_, ?_, ?_, ?_, ?_, ?_, ?_, ?_, ?_, ?_, ?_, ?_, ?_, ?_, ?_, ?_, ?_, ?_, ?_, ?_, ?_, ?_, ?_, ?_, ?_, ?_, ?_⟩ <;> (first | exact hI.x | exact hI.f0 | exact hI.f1 | exact hI.f2 | exact hI.f3 | exact hI.f4 | exact hI.f5 | exact hI.f6 | exact hI.f7 | exact hI.f8 | exact hI.f9 | exact hI.f10 | exact hI.f11 | exact hI.f12 | exact hI.f13 | exact hI.f14 | exact hI.f15 | exact hI.f16 | exact hI.f17 | exact hI.f18 | exact hI.f19 | exact hI.f20 | exact hI.f21 | exact hI.f22 | exact hI.f23 | exact hI.f24 | exact hI.f25 | exact hI.f26 | exact hI.f27 | exact hI.f28 | exact hI.f29 | exact hI.f30 | exact hI.f31 | exact hI.f32 | exact hI.f33 | exact hI.f34 | exact hI.f35 | exact hI.f36 | exact hI.f37 | exact hI.f38 | exact hI.f39 | exact hI.f40 | exact hI.f41 | exact hI.f42 | exact hI.f43 | exact hI.f44 | exact hI.f45 | exact hI.f46 | exact hI.f47 | exact hI.f48 | exact hI.f49 | exact hI.f50 | exact hI.f51 | exact hI.f52 | exact hI.f53 | exact hI.f54 | exact hI.f55 | exact hI.f56 | exact hI.f57 | exact hI.f58 | exact hI.f59 | exact hI.f60 | exact hI.f61 | exact hI.f62 | exact hI.f63 | exact hI.f64 | exact hI.f65 | exact hI.f66 | exact hI.f67 | exact hI.f68 | exact hI.f69 | exact hI.f70 | exact hI.f71 | exact fun _ => rfl | skip))
  · intro L us wx K a ha hp hd hun hI hK
    have HX := hI.x
    have u8 := hI.f8 (hp 8 (by kernel_rfl))
    have u9 := hI.f9 (hp 9 (by kernel_rfl))
    clear hp HX
    replace hd := Lib.hid hd
    simp only [u8, u9] at ha
    subst ha
    simp only [Act.put, List.setIfInBounds_toArray, List.set_cons_succ, List.set_cons_zero] at hK
    go_simp
    refine hK _ _ ?_
    first
    | (refine ⟨hI.x, hI.f0, hI.f1, hI.f2, hI.f3, hI.f4, hI.f5, hI.f6, hI.f7, hI.f8, hI.f9, ?_, hI.f11, hI.f12, hI.f13, hI.f14, hI.f15, hI.f16, hI.f17, hI.f18, hI.f19, hI.f20, hI.f21, hI.f22, hI.f23, hI.f24, hI.f25, hI.f26, hI.f27, hI.f28, hI.f29, hI.f30, hI.f31, hI.f32, hI.f33, hI.f34, hI.f35, hI.f36, hI.f37, hI.f38, hI.f39, hI.f40, hI.f41, hI.f42, hI.f43, hI.f44, hI.f45, hI.f46, hI.f47, hI.f48, hI.f49, hI.f50, hI.f51, hI.f52, hI.f53, hI.f54, hI.f55, hI.f56, hI.f57, hI.f58, hI.f59, hI.f60, hI.f61, hI.f62, hI.f63, hI.f64, hI.f65, hI.f66, hI.f67, hI.f68, hI.f69, hI.f70, hI.f71⟩ <;> (first | exact fun _ => rfl | skip))
    | (refine ⟨?_, ?_, ?_, ?_, ?_, ?_, ?_, ?_, ?_, ?_, ?_, ?_, ?_, ?_, ?_, ?_, ?_, ?_, ?_, ?_, ?_, ?_, ?_, ?_, ?_, ?_, ?_, ?_, ?_, ?_, ?_, ?_, ?_, ?_, ?_, ?_, ?_, ?_, ?_, ?_, ?_, ?_, ?_, ?_, ?_, ?_, ?_, ?_, ?_, ?_, ?_, ?_, ?_, ?_, ?_, ?_, ?_, ?_, ?_, ?_, ?_, ?_, ?_, ?_, ?_, ?_, ?_, ?_, ?_, ?_, ?_, ?_, ?_⟩ <;> (first | exact hI.x | exact hI.f0 | exact hI.f1 | exact hI.f2 | exact hI.f3 | exact hI.f4 | exact hI.f5 | exact hI.f6 | exact hI.f7 | exact hI.f8 | exact hI.f9 | exact hI.f10 | exact hI.f11 | exact hI.f12 | exact hI.f13 | exact hI.f14 | exact hI.f15 | exact hI.f16 | exact hI.f17 | exact hI.f18 | exact hI.f19 | exact hI.f20 | exact hI.f21 | exact hI.f22 | exact hI.f23 | exact hI.f24 | exact hI.f25 | exact hI.f26 | exact hI.f27 | exact hI.f28 | exact hI.f29 | exact hI.f30 | exact hI.f31 | exact hI.f32 | exact hI.f33 | exact hI.f34 | exact hI.f35 | exact hI.f36 | exact hI.f37 | exact hI.f38 | exact hI.f39 | exact hI.f40 | exact hI.f41 | exact hI.f42 | exact hI.f43 | exact hI.f44 | exact hI.f45 | exact hI.f46 | exact hI.f47 | exact hI.f48 | exact hI.f49 | exact hI.f50 | exact hI.f51 | exact hI.f52 | exact hI.f53 | exact hI.f54 | exact hI.f55 | exact hI.f56 | exact hI.f57 | exact hI.f58 | exact hI.f59 | exact hI.f60 | exact hI.f61 | exact hI.f62 | exact hI.f63 | exact hI.f64 | exact hI.f65 | exact hI.f66 | exact hI.f67 | exact hI.f68 | exact hI.f69 | exact hI.f70 | exact hI.f71 | exact fun _ => rfl | skip))
  · intro L us wx K a ha hp hd hun hI hK
    have HX := hI.x
    have u8 := hI.f8 (hp 8 (by kernel_rfl))
    have u10 := hI.f10 (hp 10 (by kernel_rfl))
    clear hp HX
    replace hd := Lib.hid hd
    simp only [u8, u10] at ha
    subst ha
    simp only [Act.put, List.setIfInBounds_toArray, List.set_cons_succ, List.set_cons_zero] at hK
    go_simp
    refine hK _ _ ?_
    first
    | (refine ⟨hI.x, hI.f0, hI.f1, hI.f2, hI.f3, hI.f4, hI.f5, hI.f6, hI.f7, hI.f8, hI.f9, hI.f10, ?_, hI.f12, hI.f13, hI.f14, hI.f15, hI.f16, hI.f17, hI.f18, hI.f19, hI.f20, hI.f21, hI.f22, hI.f23, hI.f24, hI.f25, hI.f26, hI.f27, hI.f28, hI.f29, hI.f30, hI.f31, hI.f32, hI.f33, hI.f34, hI.f35, hI.f36, hI.f37, hI.f38, hI.f39, hI.f40, hI.f41, hI.f42, hI.f43, hI.f44, hI.f45, hI.f46, hI.f47, hI.f48, hI.f49, hI.f50, hI.f51, hI.f52, hI.f53, hI.f54, hI.f55, hI.f56, hI.f57, hI.f58, hI.f59, hI.f60, hI.f61, hI.f62, hI.f63, hI.f64, hI.f65, hI.f66, hI.f67, hI.f68, hI.f69, hI.f70, hI.f71⟩ <;> (first | exact fun _ => rfl | skip))
    | (refine ⟨?_, ?_, ?_, ?_, ?_, ?_, ?_, ?_, ?_, ?_, ?_, ?_, ?_, ?_, ?_, ?_, ?_, ?_, ?_, ?_, ?_, ?_, ?_, ?_, ?_, ?_, ?_, ?_, ?_, ?_, ?_, ?_, ?_, ?_, ?_, ?_, ?_, ?_, ?_, ?_, ?_, ?_, ?_, ?_, ?_, ?_, ?_, ?_, ?_, ?_, ?_, ?_, ?_, ?_, ?_, ?_, ?_, ?_, ?_, ?_, ?_, ?_, ?_, ?_, ?_, ?_, ?_, ?_, ?_, ?_, ?_, ?_, ?_⟩ <;> (first | exact hI.x | exact hI.f0 | exact hI.f1 | exact hI.f2 | exact hI.f3 | exact hI.f4 | exact hI.f5 | exact hI.f6 | exact hI.f7 | exact hI.f8 | exact hI.f9 | exact hI.f10 | exact hI.f11 | exact hI.f12 | exact hI.f13 | exact hI.f14 | exact hI.f15 | exact hI.f16 | exact hI.f17 | exact hI.f18 | exact hI.f19 | exact hI.f20 | exact hI.f21 | exact hI.f22 | exact hI.f23 | exact hI.f24 | exact hI.f25 | exact hI.f26 | exact hI.f27 | exact hI.f28 | exact hI.f29 | exact hI.f30 | exact hI.f31 | exact hI.f32 | exact hI.f33 | exact hI.f34 | exact hI.f35 | exact hI.f36 | exact hI.f37 | exact hI.f38 | exact hI.f39 | exact hI.f40 | exact hI.f41 | exact hI.f42 | exact hI.f43 | exact hI.f44 | exact hI.f45 | exact hI.f46 | exact hI.f47 | exact hI.f48 | exact hI.f49 | exact hI.f50 | exact hI.f51 | exact hI.f52 | exact hI.f53 | exact hI.f54 | exact hI.f55 | exact hI.f56 | exact hI.f57 | exact hI.f58 | exact hI.f59 | exact hI.f60 | exact hI.f61 | exact hI.f62 | exact hI.f63 | exact hI.f64 | exact hI.f65 | exact hI.f66 | exact hI.f67 | exact hI.f68 | exact hI.f69 | exact hI.f70 | exact hI.f71 | exact fun _ => rfl | skip))
  · intro L us wx K a ha hp hd hun hI hK
    have HX := hI.x
    have u11 := hI.f11 (hp 11 (by kernel_rfl))
    clear hp HX
    replace hd := Lib.hid hd
    simp only [u11] at ha
    subst ha
    simp only [Act.put, List.setIfInBounds_toArray, List.set_cons_succ, List.set_cons_zero] at hK
    go_simp
    refine hK _ _ ?_
    first
    | (refine ⟨hI.x, hI.f0, hI.f1, hI.f2, hI.f3, hI.f4, hI.f5, hI.f6, hI.f7, hI.f8, hI.f9, hI.f10, hI.f11, ?_, hI.f13, hI.f14, hI.f15, hI.f16, hI.f17, hI.f18, hI.f19, hI.f20, hI.f21, hI.f22, hI.f23, hI.f24, hI.f25, hI.f26, hI.f27, hI.f28, hI.f29, hI.f30, hI.f31, hI.f32, hI.f33, hI.f34, hI.f35, hI.f36, hI.f37, hI.f38, hI.f39, hI.f40, hI.f41, hI.f42, hI.f43, hI.f44, hI.f45, hI.f46, hI.f47, hI.f48, hI.f49, hI.f50, hI.f51, hI.f52, hI.f53, hI.f54, hI.f55, hI.f56, hI.f57, hI.f58, hI.f59, hI.f60, hI.f61, hI.f62, hI.f63, hI.f64, hI.f65, hI.f66, hI.f67, hI.f68, hI.f69, hI.f70, hI.f71⟩ <;> (first | exact fun _ => rfl | skip))
    | (refine ⟨?_, ?_, ?_, ?_, ?_, ?_, ?_, ?_, ?_, ?_, ?_, ?_, ?_, ?_, ?_, ?_, ?_, ?_, ?_, ?_, ?_, ?_, ?_, ?_, ?_, ?_, ?_, ?_, ?_, ?_, ?_, ?_, ?_, ?_, ?_, ?_, ?_, ?_, ?_, ?_, ?_, ?_, ?_, ?_, ?_, ?_, ?_, ?_, ?_, ?_, ?_, ?_, ?_, ?_, ?_, ?_, ?_, ?_, ?_, ?_, ?_, ?_, ?_, ?_, ?_, ?_, ?_, ?_, ?_, ?_, ?_, ?_, ?_⟩ <;> (first | exact hI.x | exact hI.f0 | exact hI.f1 | exact hI.f2 | exact hI.f3 | exact hI.f4 | exact hI.f5 | exact hI.f6 | exact hI.f7 | exact hI.f8 | exact hI.f9 | exact hI.f10 | exact hI.f11 | exact hI.f12 | exact hI.f13 | exact hI.f14 | exact hI.f15 | exact hI.f16 | exact hI.f17 | exact hI.f18 | exact hI.f19 | exact hI.f20 | exact hI.f21 | exact hI.f22 | exact hI.f23 | exact hI.f24 | exact hI.f25 | exact hI.f26 | exact hI.f27 | exact hI.f28 | exact hI.f29 | exact hI.f30 | exact hI.f31 | exact hI.f32 | exact hI.f33 | exact hI.f34 | exact hI.f35 | exact hI.f36 | exact hI.f37 | exact hI.f38 | exact hI.f39 | exact hI.f40 | exact hI.f41 | exact hI.f42 | exact hI.f43 | exact hI.f44 | exact hI.f45 | exact hI.f46 | exact hI.f47 | exact hI.f48 | exact hI.f49 | exact hI.f50 | exact hI.f51 | exact hI.f52 | exact hI.f53 | exact hI.f54 | exact hI.f55 | exact hI.f56 | exact hI.f57 | exact hI.f58 | exact hI.f59 | exact hI.f60 | exact hI.f61 | exact hI.f62 | exact hI.f63 | exact hI.f64 | exact hI.f65 | exact hI.f66 | exact hI.f67 | exact hI.f68 | exact hI.f69 | exact hI.f70 | exact hI.f71 | exact fun _ => rfl | skip))
  · intro L us wx K a ha hp hd hun hI hK
    have HX := hI.x
    have u12 := hI.f12 (hp 12 (by kernel_rfl))
    clear hp HX
    replace hd := Lib.hid hd
    simp only [u12] at ha
    subst ha
    simp only [Act.put, List.setIfInBounds_toArray, List.set_cons_succ, List.set_cons_zero] at hK
    go_simp
    refine hK _ _ ?_
    first
    | (refine ⟨hI.x, hI.f0, hI.f1, hI.f2, hI.f3, hI.f4, hI.f5, hI.f6, hI.f7, hI.f8, hI.f9, hI.f10, hI.f11, hI.f12, ?_, hI.f14, hI.f15, hI.f16, hI.f17, hI.f18, hI.f19, hI.f20, hI.f21, hI.f22, hI.f23, hI.f24, hI.f25, hI.f26, hI.f27, hI.f28, hI.f29, hI.f30, hI.f31, hI.f32, hI.f33, hI.f34, hI.f35, hI.f36, hI.f37, hI.f38, hI.f39, hI.f40, hI.f41, hI.f42, hI.f43, hI.f44, hI.f45, hI.f46, hI.f47, hI.f48, hI.f49, hI.f50, hI.f51, hI.f52, hI.f53, hI.f54, hI.f55, hI.f56, hI.f57, hI.f58, hI.f59, hI.f60, hI.f61, hI.f62, hI.f63, hI.f64, hI.f65, hI.f66, hI.f67, hI.f68, hI.f69, hI.f70, hI.f71⟩ <;> (first | exact fun _ => rfl | skip))
    | (refine ⟨?_, ?_, ?_, ?_, ?_, ?_, ?_, ?_, ?_, ?_, ?_, ?_, ?_, ?_, ?_, ?_, ?_, ?_, ?_, ?_, ?_, ?_, ?_, ?_, ?_, ?_, ?_, ?_, ?_, ?_, ?_, ?_, ?_, ?_, ?_, ?_, ?_, ?_, ?_, ?_, ?_, ?_, ?_, ?_, ?_, ?_, ?_, ?_, ?_, ?_, ?_, ?_, ?_, ?_, ?_, ?_, ?_, ?_, ?_, ?_, ?_, ?_, ?_, ?_, ?_, ?_, ?_, ?_, ?_, ?_, ?_, ?_, ?_⟩ <;> (first | exact hI.x | exact hI.f0 | exact hI.f1 | exact hI.f2 | exact hI.f3 | exact hI.f4 | exact hI.f5 | exact hI.f6 | exact hI.f7 | exact hI.f8 | exact hI.f9 | exact hI.f10 | exact hI.f11 | exact hI.f12 | exact hI.f13 | exact hI.f14 | exact hI.f15 | exact hI.f16 | exact hI.f17 | exact hI.f18 | exact hI.f19 | exact hI.f20 | exact hI.f21 | exact hI.f22 | exact hI.f23 | exact hI.f24 | exact hI.f25 | exact hI.f26 | exact hI.f27 | exact hI.f28 | exact hI.f29 | exact hI.f30 | exact hI.f31 | exact hI.f32 | exact hI.f33 | exact hI.f34 | exact hI.f35 | exact hI.f36 | exact hI.f37 | exact hI.f38 | exact hI.f39 | exact hI.f40 | exact hI.f41 | exact hI.f42 | exact hI.f43 | exact hI.f44 | exact hI.f45 | exact hI.f46 | exact hI.f47 | exact hI.f48 | exact hI.f49 | exact hI.f50 | exact hI.f51 | exact hI.f52 | exact hI.f53 | exact hI.f54 | exact hI.f55 | exact hI.f56 | exact hI.f57 | exact hI.f58 | exact hI.f59 | exact hI.f60 | exact hI.f61 | exact hI.f62 | exact hI.f63 | exact hI.f64 | exact hI.f65 | exact hI.f66 | exact hI.f67 | exact hI.f68 | exact hI.f69 | exact hI.f70 | exact hI.f71 | exact fun _ => rfl | skip))
  · intro L us wx K a ha hp hd hun hI hK
    have HX := hI.x
    have u12 := hI.f12 (hp 12 (by kernel_rfl))
    have u13 := hI.f13 (hp 13 (by kernel_rfl))
    clear hp HX
    replace hd := Lib.hid hd
    simp only [u12, u13] at ha
    subst ha
    simp only [Act.put, List.setIfInBounds_toArray, List.set_cons_succ, List.set_cons_zero] at hK
    go_simp
    refine hK _ _ ?_
    first
    | (refine ⟨hI.x, hI.f0, hI.f1, hI.f2, hI.f3, hI.f4, hI.f5, hI.f6, hI.f7, hI.f8, hI.f9, hI.f10, hI.f11, hI.f12, hI.f13, ?_, hI.f15, hI.f16, hI.f17, hI.f18, hI.f19, hI.f20, hI.f21, hI.f22, hI.f23, hI.f24, hI.f25, hI.f26, hI.f27, hI.f28, hI.f29, hI.f30, hI.f31, hI.f32, hI.f33, hI.f34, hI.f35, hI.f36, hI.f37, hI.f38, hI.f39, hI.f40, hI.f41, hI.f42, hI.f43, hI.f44, hI.f45, hI.f46, hI.f47, hI.f48, hI.f49, hI.f50, hI.f51, hI.f52, hI.f53, hI.f54, hI.f55, hI.f56, hI.f57, hI.f58, hI.f59, hI.f60, hI.f61, hI.f62, hI.f63, hI.f64, hI.f65, hI.f66, hI.f67, hI.f68, hI.f69, hI.f70, hI.f71⟩ <;> (first | exact fun _ => rfl | skip))
    | (refine ⟨?_, ?_, ?_, ?_, ?_, ?_, ?_, ?_, ?_, ?_, ?_, ?_, ?_, ?_, ?_, ?_, ?_, ?_, ?_, ?_, ?_, ?_, ?_, ?_, ?_, ?_, ?_, ?_, ?_, ?_, ?_, ?_, ?_, ?_, ?_, ?_, ?_, ?_, ?_, ?_, ?_, ?_, ?_, ?_, ?_, ?_, ?_, ?_, ?_, ?_, ?_, ?_, ?_, ?_, ?_, ?_, ?_, ?_, ?_, ?_, ?_, ?_, ?_, ?_, ?_, ?_, ?_, ?_, ?_, ?_, ?_, ?_, ?_⟩ <;> (first | exact hI.x | exact hI.f0 | exact hI.f1 | exact hI.f2 | exact hI.f3 | exact hI.f4 | exact hI.f5 | exact hI.f6 | exact hI.f7 | exact hI.f8 | exact hI.f9 | exact hI.f10 | exact hI.f11 | exact hI.f12 | exact hI.f13 | exact hI.f14 | exact hI.f15 | exact hI.f16 | exact hI.f17 | exact hI.f18 | exact hI.f19 | exact hI.f20 | exact hI.f21 | exact hI.f22 | exact hI.f23 | exact hI.f24 | exact hI.f25 | exact hI.f26 | exact hI.f27 | exact hI.f28 | exact hI.f29 | exact hI.f30 | exact hI.f31 | exact hI.f32 | exact hI.f33 | exact hI.f34 | exact hI.f35 | exact hI.f36 | exact hI.f37 | exact hI.f38 | exact hI.f39 | exact hI.f40 | exact hI.f41 | exact hI.f42 | exact hI.f43 | exact hI.f44 | exact hI.f45 | exact hI.f46 | exact hI.f47 | exact hI.f48 | exact hI.f49 | exact hI.f50 | exact hI.f51 | exact hI.f52 | exact hI.f53 | exact hI.f54 | exact hI.f55 | exact hI.f56 | exact hI.f57 | exact hI.f58 | exact hI.f59 | exact hI.f60 | exact hI.f61 | exact hI.f62 | exact hI.f63 | exact hI.f64 | exact hI.f65 | exact hI.f66 | exact hI.f67 | exact hI.f68 | exact hI.f69 | exact hI.f70 | exact hI.f71 | exact fun _ => rfl | skip))
  · intro L us wx K a ha hp hd hun hI hK
    have HX := hI.x
    have u12 := hI.f12 (hp 12 (by kernel_rfl))
    have u14 := hI.f14 (hp 14 (by kernel_rfl))
    clear hp HX
    replace hd := Lib.hid hd
    simp only [u12, u14] at ha
    subst ha
    simp only [Act.put, List.setIfInBounds_toArray, List.set_cons_succ, List.set_cons_zero] at hK
    go_simp
    refine hK _ _ ?_
    first
    | (refine ⟨hI.x, hI.f0, hI.f1, hI.f2, hI.f3, hI.f4, hI.f5, hI.f6, hI.f7, hI.f8, hI.f9, hI.f10, hI.f11, hI.f12, hI.f13, hI.f14, ?_, hI.f16, hI.f17, hI.f18, hI.f19, hI.f20, hI.f21, hI.f22, hI.f23, hI.f24, hI.f25, hI.f26, hI.f27, hI.f28, hI.f29, hI.f30, hI.f31, hI.f32, hI.f33, hI.f34, hI.f35, hI.f36, hI.f37, hI.f38, hI.f39, hI.f40, hI.f41, hI.f42, hI.f43, hI.f44, hI.f45, hI.f46, hI.f47, hI.f48, hI.f49, hI.f50, hI.f51, hI.f52, hI.f53, hI.f54, hI.f55, hI.f56, hI.f57, hI.f58, hI.f59, hI.f60, hI.f61, hI.f62, hI.f63, hI.f64, hI.f65, hI.f66, hI.f67, hI.f68, hI.f69, hI.f70, hI.f71⟩ <;> (first | exact fun _ => rfl | skip))
    | (refine ⟨?_, ?_, ?_, ?_, ?_, ?_, ?_, ?_, ?_, ?_, ?_, ?_, ?_, ?_, ?_, ?_, ?_, ?_, ?_, ?_, ?_, ?_, ?_, ?_, ?_, ?_, ?_, ?_, ?_, ?_, ?_, ?_, ?_, ?_, ?_, ?_, ?_, ?_, ?_, ?_, ?_, ?_, ?_, ?_, ?_, ?_, ?_, ?_, ?_, ?_, ?_, ?_, ?_, ?_, ?_, ?_, ?_, ?_, ?_, ?_, ?_, ?_, ?_, ?_, ?_, ?_, ?_, ?_, ?_, ?_, ?_, ?_, ?_⟩ <;> (first | exact hI.x | exact hI.f0 | exact hI.f1 | exact hI.f2 | exact hI.f3 | exact hI.f4 | exact hI.f5 | exact hI.f6 | exact hI.f7 | exact hI.f8 | exact hI.f9 | exact hI.f10 | exact hI.f11 | exact hI.f12 | exact hI.f13 | exact hI.f14 | exact hI.f15 | exact hI.f16 | exact hI.f17 | exact hI.f18 | exact hI.f19 | exact hI.f20 | exact hI.f21 | exact hI.f22 | exact hI.f23 | exact hI.f24 | exact hI.f25 | exact hI.f26 | exact hI.f27 | exact hI.f28 | exact hI.f29 | exact hI.f30 | exact hI.f31 | exact hI.f32 | exact hI.f33 | exact hI.f34 | exact hI.f35 | exact hI.f36 | exact hI.f37 | exact hI.f38 | exact hI.f39 | exact hI.f40 | exact hI.f41 | exact hI.f42 | exact hI.f43 | exact hI.f44 | exact hI.f45 | exact hI.f46 | exact hI.f47 | exact hI.f48 | exact hI.f49 | exact hI.f50 | exact hI.f51 | exact hI.f52 | exact hI.f53 | exact hI.f54 | exact hI.f55 | exact hI.f56 | exact hI.f57 | exact hI.f58 | exact hI.f59 | exact hI.f60 | exact hI.f61 | exact hI.f62 | exact hI.f63 | exact hI.f64 | exact hI.f65 | exact hI.f66 | exact hI.f67 | exact hI.f68 | exact hI.f69 | exact hI.f70 | exact hI.f71 | exact fun _ => rfl | skip))
  · intro L us wx K a ha hp hd hun hI hK
    have HX := hI.x
    have u15 := hI.f15 (hp 15 (by kernel_rfl))
    clear hp HX
    replace hd := Lib.hid hd
    simp only [u15] at ha
    subst ha
    simp only [Act.put, List.setIfInBounds_toArray, List.set_cons_succ, List.set_cons_zero] at hK
    go_simp
    refine hK _ _ ?_
    first
    | (refine ⟨hI.x, hI.f0, hI.f1, hI.f2, hI.f3, hI.f4, hI.f5, hI.f6, hI.f7, hI.f8, hI.f9, hI.f10, hI.f11, hI.f12, hI.f13, hI.f14, hI.f15, ?_, hI.f17, hI.f18, hI.f19, hI.f20, hI.f21, hI.f22, hI.f23, hI.f24, hI.f25, hI.f26, hI.f27, hI.f28, hI.f29, hI.f30, hI.f31, hI.f32, hI.f33, hI.f34, hI.f35, hI.f36, hI.f37, hI.f38, hI.f39, hI.f40, hI.f41, hI.f42, hI.f43, hI.f44, hI.f45, hI.f46, hI.f47, hI.f48, hI.f49, hI.f50, hI.f51, hI.f52, hI.f53, hI.f54, hI.f55, hI.f56, hI.f57, hI.f58, hI.f59, hI.f60, hI.f61, hI.f62, hI.f63, hI.f64, hI.f65, hI.f66, hI.f67, hI.f68, hI.f69, hI.f70, hI.f71⟩ <;> (first | exact fun _ => rfl | skip))
    | (refine ⟨?_, ?_, ?_, ?_, ?_, ?_, ?_, ?_, ?_, ?_, ?_, ?_, ?_, ?_, ?_, ?_, ?_, ?_, ?_, ?_, ?_, ?_, ?_, ?_, ?_, ?_, ?_, ?_, ?_, ?_, ?_, ?_, ?_, ?_, ?_, ?_, ?_, ?_, ?_, ?_, ?_, ?_, ?_, ?_, ?_, ?_, ?_, ?_, ?_, ?_, ?_, ?_, ?_, ?_, ?_, ?_, ?_, ?_, ?_, ?_, ?_, ?_, ?_, ?_, ?_, ?_, ?_, ?_, ?_, ?_, ?_, ?_, ?_⟩ <;> (first | exact hI.x | exact hI.f0 | exact hI.f1 | exact hI.f2 | exact hI.f3 | exact hI.f4 | exact hI.f5 | exact hI.f6 | exact hI.f7 | exact hI.f8 | exact hI.f9 | exact hI.f10 | exact hI.f11 | exact hI.f12 | exact hI.f13 | exact hI.f14 | exact hI.f15 | exact hI.f16 | exact hI.f17 | exact hI.f18 | exact hI.f19 | exact hI.f20 | exact hI.f21 | exact hI.f22 | exact hI.f23 | exact hI.f24 | exact hI.f25 | exact hI.f26 | exact hI.f27 | exact hI.f28 | exact hI.f29 | exact hI.f30 | exact hI.f31 | exact hI.f32 | exact hI.f33 | exact hI.f34 | exact hI.f35 | exact hI.f36 | exact hI.f37 | exact hI.f38 | exact hI.f39 | exact hI.f40 | exact hI.f41 | exact hI.f42 | exact hI.f43 | exact hI.f44 | exact hI.f45 | exact hI.f46 | exact hI.f47 | exact hI.f48 | exact hI.f49 | exact hI.f50 | exact hI.f51 | exact hI.f52 | exact hI.f53 | exact hI.f54 | exact hI.f55 | exact hI.f56 | exact hI.f57 | exact hI.f58 | exact hI.f59 | exact hI.f60 | exact hI.f61 | exact hI.f62 | exact hI.f63 | exact hI.f64 | exact hI.f65 | exact hI.f66 | exact hI.f67 | exact hI.f68 | exact hI.f69 | exact hI.f70 | exact hI.f71 | exact fun _ => rfl | skip))
  · intro L us wx K a ha hp hd hun hI hK
    have HX := hI.x
    have u16 := hI.f16 (hp 16 (by kernel_rfl))
    clear hp HX
    replace hd := Lib.hid hd
    simp only [u16] at ha
    subst ha
    simp only [Act.put, List.setIfInBounds_toArray, List.set_cons_succ, List.set_cons_zero] at hK
    go_simp
    refine hK _ _ ?_
    first
    | (refine ⟨hI.x, hI.f0, hI.f1, hI.f2, hI.f3, hI.f4, hI.f5, hI.f6, hI.f7, hI.f8, hI.f9, hI.f10, hI.f11, hI.f12, hI.f13, hI.f14, hI.f15, hI.f16, ?_, hI.f18, hI.f19, hI.f20, hI.f21, hI.f22, hI.f23, hI.f24, hI.f25, hI.f26, hI.f27, hI.f28, hI.f29, hI.f30, hI.f31, hI.f32, hI.f33, hI.f34, hI.f35, hI.f36, hI.f37, hI.f38, hI.f39, hI.f40, hI.f41, hI.f42, hI.f43, hI.f44, hI.f45, hI.f46, hI.f47, hI.f48, hI.f49, hI.f50, hI.f51, hI.f52, hI.f53, hI.f54, hI.f55, hI.f56, hI.f57, hI.f58, hI.f59, hI.f60, hI.f61, hI.f62, hI.f63, hI.f64, hI.f65, hI.f66, hI.f67, hI.f68, hI.f69, hI.f70, hI.f71⟩ <;> (first | exact fun _ => rfl | skip))
    | (refine ⟨?_, ?_, ?_, ?_, ?_, ?_, ?_, ?_, ?_, ?_, ?_, ?_, ?_, ?_, ?_, ?_, ?_, ?_, ?_, ?_, ?_, ?_, ?_, ?_, ?_, ?_, ?_, ?_, ?_, ?_, ?_, ?_, ?_, ?_, ?_, ?_, ?_, ?_, ?_, ?_, ?_, ?_, ?_, ?_, ?_, ?_, ?_, ?_, ?_, ?_, ?_, ?_, ?_, ?_, ?_, ?_, ?_, ?_, ?_, ?_, ?_, ?_, ?_, ?_, ?_, ?_, ?_, ?_, ?_, ?_, ?_, ?_, ?_⟩ <;> (first | exact hI.x | exact hI.f0 | exact hI.f1 | exact hI.f2 | exact hI.f3 | exact hI.f4 | exact hI.f5 | exact hI.f6 | exact hI.f7 | exact hI.f8 | exact hI.f9 | exact hI.f10 | exact hI.f11 | exact hI.f12 | exact hI.f13 | exact hI.f14 | exact hI.f15 | exact hI.f16 | exact hI.f17 | exact hI.f18 | exact hI.f19 | exact hI.f20 | exact hI.f21 | exact hI.f22 | exact hI.f23 | exact hI.f24 | exact hI.f25 | exact hI.f26 | exact hI.f27 | exact hI.f28 | exact hI.f29 | exact hI.f30 | exact hI.f31 | exact hI.f32 | exact hI.f33 | exact hI.f34 | exact hI.f35 | exact hI.f36 | exact hI.f37 | exact hI.f38 | exact hI.f39 | exact hI.f40 | exact hI.f41 | exact hI.f42 | exact hI.f43 | exact hI.f44 | exact hI.f45 | exact hI.f46 | exact hI.f47 | exact hI.f48 | exact hI.f49 | exact hI.f50 | exact hI.f51 | exact hI.f52 | exact hI.f53 | exact hI.f54 | exact hI.f55 | exact hI.f56 | exact hI.f57 | exact hI.f58 | exact hI.f59 | exact hI.f60 | exact hI.f61 | exact hI.f62 | exact hI.f63 | exact hI.f64 | exact hI.f65 | exact hI.f66 | exact hI.f67 | exact hI.f68 | exact hI.f69 | exact hI.f70 | exact hI.f71 | exact fun _ => rfl | skip))
  · intro L us wx K a ha hp hd hun hI hK
    have HX := hI.x
    have u16 := hI.f16 (hp 16 (by kernel_rfl))
    have u17 := hI.f17 (hp 17 (by kernel_rfl))
    clear hp HX
    replace hd := Lib.hid hd
    simp only [u16, u17] at ha
    subst ha
    simp only [Act.put, List.setIfInBounds_toArray, List.set_cons_succ, List.set_cons_zero] at hK
    go_simp
    refine hK _ _ ?_
    first
    | (refine ⟨hI.x, hI.f0, hI.f1, hI.f2, hI.f3, hI.f4, hI.f5, hI.f6, hI.f7, hI.f8, hI.f9, hI.f10, hI.f11, hI.f12, hI.f13, hI.f14, hI.f15, hI.f16, hI.f17, ?_, hI.f19, hI.f20, hI.f21, hI.f22, hI.f23, hI.f24, hI.f25, hI.f26, hI.f27, hI.f28, hI.f29, hI.f30, hI.f31, hI.f32, hI.f33, hI.f34, hI.f35, hI.f36, hI.f37, hI.f38, hI.f39, hI.f40, hI.f41, hI.f42, hI.f43, hI.f44, hI.f45, hI.f46, hI.f47, hI.f48, hI.f49, hI.f50, hI.f51, hI.f52, hI.f53, hI.f54, hI.f55, hI.f56, hI.f57, hI.f58, hI.f59, hI.f60, hI.f61, hI.f62, hI.f63, hI.f64, hI.f65, hI.f66, hI.f67, hI.f68, hI.f69, hI.f70, hI.f71⟩ <;> (first | exact fun _ => rfl | skip))
    | (refine ⟨?_, ?_, ?_, ?_, ?_, ?_, ?_, ?_, ?_, ?_, ?_, ?_, ?_, ?_, ?_, ?_, ?_, ?_, ?_, ?_, ?_, ?_, ?_, ?_, ?_, ?_, ?_, ?_, ?_, ?_, ?_, ?_, ?_, ?_, ?_, ?_, ?_, ?_, ?_, ?_, ?_, ?_, ?_, ?_, ?_, ?_, ?_, ?_, ?_, ?_, ?_, ?_, ?_, ?_, ?_, ?_, ?_, ?_, ?_, ?_, ?_, ?_, ?_, ?_, ?_, ?_, ?_, ?_, ?_, ?_, ?_, ?_, ?_⟩ <;> (first | exact hI.x | exact hI.f0 | exact hI.f1 | exact hI.f2 | exact hI.f3 | exact hI.f4 | exact hI.f5 | exact hI.f6 | exact hI.f7 | exact hI.f8 | exact hI.f9 | exact hI.f10 | exact hI.f11 | exact hI.f12 | exact hI.f13 | exact hI.f14 | exact hI.f15 | exact hI.f16 | exact hI.f17 | exact hI.f18 | exact hI.f19 | exact hI.f20 | exact hI.f21 | exact hI.f22 | exact hI.f23 | exact hI.f24 | exact hI.f25 | exact hI.f26 | exact hI.f27 | exact hI.f28 | exact hI.f29 | exact hI.f30 | exact hI.f31 | exact hI.f32 | exact hI.f33 | exact hI.f34 | exact hI.f35 | exact hI.f36 | exact hI.f37 | exact hI.f38 | exact hI.f39 | exact hI.f40 | exact hI.f41 | exact hI.f42 | exact hI.f43 | exact hI.f44 | exact hI.f45 | exact hI.f46 | exact hI.f47 | exact hI.f48 | exact hI.f49 | exact hI.f50 | exact hI.f51 | exact hI.f52 | exact hI.f53 | exact hI.f54 | exact hI.f55 | exact hI.f56 | exact hI.f57 | exact hI.f58 | exact hI.f59 | exact hI.f60 | exact hI.f61 | exact hI.f62 | exact hI.f63 | exact hI.f64 | exact hI.f65 | exact hI.f66 | exact hI.f67 | exact hI.f68 | exact hI.f69 | exact hI.f70 | exact hI.f71 | exact fun _ => rfl | skip))
  · intro L us wx K a ha hp hd hun hI hK
    have HX := hI.x
    have u16 := hI.f16 (hp 16 (by kernel_rfl))
    have u18 := hI.f18 (hp 18 (by kernel_rfl))
    clear hp HX
    replace hd := Lib.hid hd
    simp only [u16, u18] at ha
    subst ha
    simp only [Act.put, List.setIfInBounds_toArray, List.set_cons_succ, List.set_cons_zero] at hK
    go_simp
    refine hK _ _ ?_
    first
    | (refine ⟨hI.x, hI.f0, hI.f1, hI.f2, hI.f3, hI.f4, hI.f5, hI.f6, hI.f7, hI.f8, hI.f9, hI.f10, hI.f11, hI.f12, hI.f13, hI.f14, hI.f15, hI.f16, hI.f17, hI.f18, ?_, hI.f20, hI.f21, hI.f22, hI.f23, hI.f24, hI.f25, hI.f26, hI.f27, hI.f28, hI.f29, hI.f30, hI.f31, hI.f32, hI.f33, hI.f34, hI.f35, hI.f36, hI.f37, hI.f38, hI.f39, hI.f40, hI.f41, hI.f42, hI.f43, hI.f44, hI.f45, hI.f46, hI.f47, hI.f48, hI.f49, hI.f50, hI.f51, hI.f52, hI.f53, hI.f54, hI.f55, hI.f56, hI.f57, hI.f58, hI.f59, hI.f60, hI.f61, hI.f62, hI.f63, hI.f64, hI.f65, hI.f66, hI.f67, hI.f68, hI.f69, hI.f70, hI.f71⟩ <;> (first | exact fun _ => rfl | skip))
    | (refine ⟨?_, ?_, ?_, ?_, ?_, ?_, ?_, ?_, ?_, ?_, ?_, ?_, ?_, ?_, ?_, ?_, ?_, ?_, ?_, ?_, ?_, ?_, ?_, ?_, ?_, ?_, ?_, ?_, ?_, ?_, ?_, ?_, ?_, ?_, ?_, ?_, ?_, ?_, ?_, ?_, ?_, ?_, ?_, ?_, ?_, ?_, ?_, ?_, ?_, ?_, ?_, ?_, ?_, ?_, ?_, ?_, ?_, ?_, ?_, ?_, ?_, ?_, ?_, ?_, ?_, ?_, ?_, ?_, ?_, ?_, ?_, ?_, ?_⟩ <;> (first | exact hI.x | exact hI.f0 | exact hI.f1 | exact hI.f2 | exact hI.f3 | exact hI.f4 | exact hI.f5 | exact hI.f6 | exact hI.f7 | exact hI.f8 | exact hI.f9 | exact hI.f10 | exact hI.f11 | exact hI.f12 | exact hI.f13 | exact hI.f14 | exact hI.f15 | exact hI.f16 | exact hI.f17 | exact hI.f18 | exact hI.f19 | exact hI.f20 | exact hI.f21 | exact hI.f22 | exact hI.f23 | exact hI.f24 | exact hI.f25 | exact hI.f26 | exact hI.f27 | exact hI.f28 | exact hI.f29 | exact hI.f30 | exact hI.f31 | exact hI.f32 | exact hI.f33 | exact hI.f34 | exact hI.f35 | exact hI.f36 | exact hI.f37 | exact hI.f38 | exact hI.f39 | exact hI.f40 | exact hI.f41 | exact hI.f42 | exact hI.f43 | exact hI.f44 | exact hI.f45 | exact hI.f46 | exact hI.f47 | exact hI.f48 | exact hI.f49 | exact hI.f50 | exact hI.f51 | exact hI.f52 | exact hI.f53 | exact hI.f54 | exact hI.f55 | exact hI.f56 | exact hI.f57 | exact hI.f58 | exact hI.f59 | exact hI.f60 | exact hI.f61 | exact hI.f62 | exact hI.f63 | exact hI.f64 | exact hI.f65 | exact hI.f66 | exact hI.f67 | exact hI.f68 | exact hI.f69 | exact hI.f70 | exact hI.f71 | exact fun _ => rfl | skip))
  · intro L us wx K a ha hp hd hun hI hK
    have HX := hI.x
    have u16 := hI.f16 (hp 16 (by kernel_rfl))
    have u19 := hI.f19 (hp 19 (by kernel_rfl))
    clear hp HX
    replace hd := Lib.hid hd
    simp only [u16, u19] at ha
    subst ha
    simp only [Act.put, List.setIfInBounds_toArray, List.set_cons_succ, List.set_cons_zero] at hK
    go_simp
    refine hK _ _ ?_
    first
    | (refine ⟨hI.x, hI.f0, hI.f1, hI.f2, hI.f3, hI.f4, hI.f5, hI.f6, hI.f7, hI.f8, hI.f9, hI.f10, hI.f11, hI.f12, hI.f13, hI.f14, hI.f15, hI.f16, hI.f17, hI.f18, hI.f19, ?_, hI.f21, hI.f22, hI.f23, hI.f24, hI.f25, hI.f26, hI.f27, hI.f28, hI.f29, hI.f30, hI.f31, hI.f32, hI.f33, hI.f34, hI.f35, hI.f36, hI.f37, hI.f38, hI.f39, hI.f40, hI.f41, hI.f42, hI.f43, hI.f44, hI.f45, hI.f46, hI.f47, hI.f48, hI.f49, hI.f50, hI.f51, hI.f52, hI.f53, hI.f54, hI.f55, hI.f56, hI.f57, hI.f58, hI.f59, hI.f60, hI.f61, hI.f62, hI.f63, hI.f64, hI.f65, hI.f66, hI.f67, hI.f68, hI.f69, hI.f70, hI.f71⟩ <;> (first | exact fun _ => rfl | skip))
    | (refine ⟨?_, ?_, ?_, ?_, ?_, ?_, ?_, ?_, ?_, ?_, ?_, ?_, ?_, ?_, ?_, ?_, ?_, ?_, ?_, ?_, ?_, ?_, ?_, ?_, ?_, ?_, ?_, ?_, ?_, ?_, ?_, ?_, ?_, ?_, ?_, ?_, ?_, ?_, ?_, ?_, ?_, ?_, ?_, ?_, ?_, ?_, ?_, ?_, ?_, ?_, ?_, ?_, ?_, ?_, ?_, ?_, ?_, ?_, ?_, ?_, ?_, ?_, ?_, ?_, ?_, ?_, ?_, ?_, ?_, ?_, ?_, ?_, ?_⟩ <;> (first | exact hI.x | exact hI.f0 | exact hI.f1 | exact hI.f2 | exact hI.f3 | exact hI.f4 | exact hI.f5 | exact hI.f6 | exact hI.f7 | exact hI.f8 | exact hI.f9 | exact hI.f10 | exact hI.f11 | exact hI.f12 | exact hI.f13 | exact hI.f14 | exact hI.f15 | exact hI.f16 | exact hI.f17 | exact hI.f18 | exact hI.f19 | exact hI.f20 | exact hI.f21 | exact hI.f22 | exact hI.f23 | exact hI.f24 | exact hI.f25 | exact hI.f26 | exact hI.f27 | exact hI.f28 | exact hI.f29 | exact hI.f30 | exact hI.f31 | exact hI.f32 | exact hI.f33 | exact hI.f34 | exact hI.f35 | exact hI.f36 | exact hI.f37 | exact hI.f38 | exact hI.f39 | exact hI.f40 | exact hI.f41 | exact hI.f42 | exact hI.f43 | exact hI.f44 | exact hI.f45 | exact hI.f46 | exact hI.f47 | exact hI.f48 | exact hI.f49 | exact hI.f50 | exact hI.f51 | exact hI.f52 | exact hI.f53 | exact hI.f54 | exact hI.f55 | exact hI.f56 | exact hI.f57 | exact hI.f58 | exact hI.f59 | exact hI.f60 | exact hI.f61 | exact hI.f62 | exact hI.f63 | exact hI.f64 | exact hI.f65 | exact hI.f66 | exact hI.f67 | exact hI.f68 | exact hI.f69 | exact hI.f70 | exact hI.f71 | exact fun _ => rfl | skip))
  · intro L us wx K a ha hp hd hun hI hK
    have HX := hI.x
    have u20 := hI.f20 (hp 20 (by kernel_rfl))
    clear hp HX
    replace hd := Lib.hid hd
    simp only [u20] at ha
    subst ha
    simp only [Act.put, List.setIfInBounds_toArray, List.set_cons_succ, List.set_cons_zero] at hK
    go_simp
    refine hK _ _ ?_
    first
    | (refine ⟨hI.x, hI.f0, hI.f1, hI.f2, hI.f3, hI.f4, hI.f5, hI.f6, hI.f7, hI.f8, hI.f9, hI.f10, hI.f11, hI.f12, hI.f13, hI.f14, hI.f15, hI.f16, hI.f17, hI.f18, hI.f19, hI.f20, ?_, hI.f22, hI.f23, hI.f24, hI.f25, hI.f26, hI.f27, hI.f28, hI.f29, hI.f30, hI.f31, hI.f32, hI.f33, hI.f34, hI.f35, hI.f36, hI.f37, hI.f38, hI.f39, hI.f40, hI.f41, hI.f42, hI.f43, hI.f44, hI.f45, hI.f46, hI.f47, hI.f48, hI.f49, hI.f50, hI.f51, hI.f52, hI.f53, hI.f54, hI.f55, hI.f56, hI.f57, hI.f58, hI.f59, hI.f60, hI.f61, hI.f62, hI.f63, hI.f64, hI.f65, hI.f66, hI.f67, hI.f68, hI.f69, hI.f70, hI.f71⟩ <;> (first | exact fun _ => rfl | skip))
    | (refine ⟨?_, ?_, ?_, ?_, ?_, ?_, ?_, ?_, ?_, ?_, ?_, ?_, ?_, ?_, ?_, ?_, ?_, ?_, ?_, ?_, ?_, ?_, ?_, ?_, ?_, ?_, ?_, ?_, ?_, ?_, ?_, ?_, ?_, ?_, ?_, ?_, ?_, ?_, ?_, ?_, ?_, ?_, ?_, ?_, ?_, ?_, ?_, ?_, ?_, ?_, ?_, ?_, ?_, ?_, ?_, ?_, ?_, ?_, ?_, ?_, ?_, ?_, ?_, ?_, ?_, ?_, ?_, ?_, ?_, ?_, ?_, ?_, ?_⟩ <;> (first | exact hI.x | exact hI.f0 | exact hI.f1 | exact hI.f2 | exact hI.f3 | exact hI.f4 | exact hI.f5 | exact hI.f6 | exact hI.f7 | exact hI.f8 | exact hI.f9 | exact hI.f10 | exact hI.f11 | exact hI.f12 | exact hI.f13 | exact hI.f14 | exact hI.f15 | exact hI.f16 | exact hI.f17 | exact hI.f18 | exact hI.f19 | exact hI.f20 | exact hI.f21 | exact hI.f22 | exact hI.f23 | exact hI.f24 | exact hI.f25 | exact hI.f26 | exact hI.f27 | exact hI.f28 | exact hI.f29 | exact hI.f30 | exact hI.f31 | exact hI.f32 | exact hI.f33 | exact hI.f34 | exact hI.f35 | exact hI.f36 | exact hI.f37 | exact hI.f38 | exact hI.f39 | exact hI.f40 | exact hI.f41 | exact hI.f42 | exact hI.f43 | exact hI.f44 | exact hI.f45 | exact hI.f46 | exact hI.f47 | exact hI.f48 | exact hI.f49 | exact hI.f50 | exact hI.f51 | exact hI.f52 | exact hI.f53 | exact hI.f54 | exact hI.f55 | exact hI.f56 | exact hI.f57 | exact hI.f58 | exact hI.f59 | exact hI.f60 | exact hI.f61 | exact hI.f62 | exact hI.f63 | exact hI.f64 | exact hI.f65 | exact hI.f66 | exact hI.f67 | exact hI.f68 | exact hI.f69 | exact hI.f70 | exact hI.f71 | exact fun _ => rfl | skip))
  · intro L us wx K a ha hp hd hun hI hK
    have HX := hI.x
    have u21 := hI.f21 (hp 21 (by kernel_rfl))
    clear hp HX
    replace hd := Lib.hid hd
    simp only [u21] at ha
    subst ha
    simp only [Act.put, List.setIfInBounds_toArray, List.set_cons_succ, List.set_cons_zero] at hK
    go_simp
    refine hK _ _ ?_
    first
    | (refine ⟨hI.x, hI.f0, hI.f1, hI.f2, hI.f3, hI.f4, hI.f5, hI.f6, hI.f7, hI.f8, hI.f9, hI.f10, hI.f11, hI.f12, hI.f13, hI.f14, hI.f15, hI.f16, hI.f17, hI.f18, hI.f19, hI.f20, hI.f21, ?_, hI.f23, hI.f24, hI.f25, hI.f26, hI.f27, hI.f28, hI.f29, hI.f30, hI.f31, hI.f32, hI.f33, hI.f34, hI.f35, hI.f36, hI.f37, hI.f38, hI.f39, hI.f40, hI.f41, hI.f42, hI.f43, hI.f44, hI.f45, hI.f46, hI.f47, hI.f48, hI.f49, hI.f50, hI.f51, hI.f52, hI.f53, hI.f54, hI.f55, hI.f56, hI.f57, hI.f58, hI.f59, hI.f60, hI.f61, hI.f62, hI.f63, hI.f64, hI.f65, hI.f66, hI.f67, hI.f68, hI.f69, hI.f70, hI.f71⟩ <;> (first | exact fun _ => rfl | skip))
    | (refine ⟨?_, ?_, ?_, ?_, ?_, ?_, ?_, ?_, ?_, ?_, ?_, ?_, ?_, ?_, ?_, ?_, ?_, ?_, ?_, ?_, ?_, ?_, ?_, ?_, ?_, ?_, ?_, ?_, ?_, ?_, ?_, ?_, ?_, ?_, ?_, ?_, ?_, ?_, ?_, ?_, ?_, ?_, ?_, ?_, ?_, ?_, ?_, ?_, ?_, ?_, ?_, ?_, ?_, ?_, ?_, ?_, ?_, ?_, ?_, ?_, ?_, ?_, ?_, ?_, ?_, ?_, ?_, ?_, ?_, ?_, ?_, ?_, ?_⟩ <;> (first | exact hI.x | exact hI.f0 | exact hI.f1 | exact hI.f2 | exact hI.f3 | exact hI.f4 | exact hI.f5 | exact hI.f6 | exact hI.f7 | exact hI.f8 | exact hI.f9 | exact hI.f10 | exact hI.f11 | exact hI.f12 | exact hI.f13 | exact hI.f14 | exact hI.f15 | exact hI.f16 | exact hI.f17 | exact hI.f18 | exact hI.f19 | exact hI.f20 | exact hI.f21 | exact hI.f22 | exact hI.f23 | exact hI.f24 | exact hI.f25 | exact hI.f26 | exact hI.f27 | exact hI.f28 | exact hI.f29 | exact hI.f30 | exact hI.f31 | exact hI.f32 | exact hI.f33 | exact hI.f34 | exact hI.f35 | exact hI.f36 | exact hI.f37 | exact hI.f38 | exact hI.f39 | exact hI.f40 | exact hI.f41 | exact hI.f42 | exact hI.f43 | exact hI.f44 | exact hI.f45 | exact hI.f46 | exact hI.f47 | exact hI.f48 | exact hI.f49 | exact hI.f50 | exact hI.f51 | exact hI.f52 | exact hI.f53 | exact hI.f54 | exact hI.f55 | exact hI.f56 | exact hI.f57 | exact hI.f58 | exact hI.f59 | exact hI.f60 | exact hI.f61 | exact hI.f62 | exact hI.f63 | exact hI.f64 | exact hI.f65 | exact hI.f66 | exact hI.f67 | exact hI.f68 | exact hI.f69 | exact hI.f70 | exact hI.f71 | exact fun _ => rfl | skip))
  · intro L us wx K a ha hp hd hun hI hK
    have HX := hI.x
    have u21 := hI.f21 (hp 21 (by kernel_rfl))
    have u22 := hI.f22 (hp 22 (by kernel_rfl))
    clear hp HX
    replace hd := Lib.hid hd
    simp only [u21, u22] at ha
    subst ha
    simp only [Act.put, List.setIfInBounds_toArray, List.set_cons_succ, List.set_cons_zero] at hK
    go_simp
    refine hK _ _ ?_
    first
    | (refine ⟨hI.x, hI.f0, hI.f1, hI.f2, hI.f3, hI.f4, hI.f5, hI.f6, hI.f7, hI.f8, hI.f9, hI.f10, hI.f11, hI.f12, hI.f13, hI.f14, hI.f15, hI.f16, hI.f17, hI.f18, hI.f19, hI.f20, hI.f21, hI.f22, ?_, hI.f24, hI.f25, hI.f26, hI.f27, hI.f28, hI.f29, hI.f30, hI.f31, hI.f32, hI.f33, hI.f34, hI.f35, hI.f36, hI.f37, hI.f38, hI.f39, hI.f40, hI.f41, hI.f42, hI.f43, hI.f44, hI.f45, hI.f46, hI.f47, hI.f48, hI.f49, hI.f50, hI.f51, hI.f52, hI.f53, hI.f54, hI.f55, hI.f56, hI.f57, hI.f58, hI.f59, hI.f60, hI.f61, hI.f62, hI.f63, hI.f64, hI.f65, hI.f66, hI.f67, hI.f68, hI.f69, hI.f70, hI.f71⟩ <;> (first | exact fun _ => rfl | skip))
    | (refine ⟨?_, ?_, ?_, ?_, ?_, ?_, ?_, ?_, ?_, ?_, ?_, ?_, ?_, ?_, ?_, ?_, ?_, ?_, ?_, ?_, ?_, ?_, ?_, ?_, ?_, ?_, ?_, ?_, ?_, ?_, ?_, ?_, ?_, ?_, ?_, ?_, ?_, ?_, ?_, ?_, ?_, ?_, ?_, ?_, ?_, ?_, ?_, ?_, ?_, ?_, ?_, ?_, ?_, ?_, ?_, ?_, ?_, ?_, ?_, ?_, ?_, ?_, ?_, ?_, ?_, ?_, ?_, ?_, ?_, ?_, ?_, ?_, ?_⟩ <;> (first | exact hI.x | exact hI.f0 | exact hI.f1 | exact hI.f2 | exact hI.f3 | exact hI.f4 | exact hI.f5 | exact hI.f6 | exact hI.f7 | exact hI.f8 | exact hI.f9 | exact hI.f10 | exact hI.f11 | exact hI.f12 | exact hI.f13 | exact hI.f14 | exact hI.f15 | exact hI.f16 | exact hI.f17 | exact hI.f18 | exact hI.f19 | exact hI.f20 | exact hI.f21 | exact hI.f22 | exact hI.f23 | exact hI.f24 | exact hI.f25 | exact hI.f26 | exact hI.f27 | exact hI.f28 | exact hI.f29 | exact hI.f30 | exact hI.f31 | exact hI.f32 | exact hI.f33 | exact hI.f34 | exact hI.f35 | exact hI.f36 | exact hI.f37 | exact hI.f38 | exact hI.f39 | exact hI.f40 | exact hI.f41 | exact hI.f42 | exact hI.f43 | exact hI.f44 | exact hI.f45 | exact hI.f46 | exact hI.f47 | exact hI.f48 | exact hI.f49 | exact hI.f50 | exact hI.f51 | exact hI.f52 | exact hI.f53 | exact hI.f54 | exact hI.f55 | exact hI.f56 | exact hI.f57 | exact hI.f58 | exact hI.f59 | exact hI.f60 | exact hI.f61 | exact hI.f62 | exact hI.f63 | exact hI.f64 | exact hI.f65 | exact hI.f66 | exact hI.f67 | exact hI.f68 | exact hI.f69 | exact hI.f70 | exact hI.f71 | exact fun _ => rfl | skip))
  · intro L us wx K a ha hp hd hun hI hK
    have HX := hI.x
    have u21 := hI.f21 (hp 21 (by kernel_rfl))
    have u23 := hI.f23 (hp 23 (by kernel_rfl))
    clear hp HX
    replace hd := Lib.hid hd
    simp only [u21, u23] at ha
    subst ha
    simp only [Act.put, List.setIfInBounds_toArray, List.set_cons_succ, List.set_cons_zero] at hK
    go_simp
    refine hK _ _ ?_
    first
    | (refine ⟨hI.x, hI.f0, hI.f1, hI.f2, hI.f3, hI.f4, hI.f5, hI.f6, hI.f7, hI.f8, hI.f9, hI.f10, hI.f11, hI.f12, hI.f13, hI.f14, hI.f15, hI.f16, hI.f17, hI.f18, hI.f19, hI.f20, hI.f21, hI.f22, hI.f23, ?_, hI.f25, hI.f26, hI.f27, hI.f28, hI.f29, hI.f30, hI.f31, hI.f32, hI.f33, hI.f34, hI.f35, hI.f36, hI.f37, hI.f38, hI.f39, hI.f40, hI.f41, hI.f42, hI.f43, hI.f44, hI.f45, hI.f46, hI.f47, hI.f48, hI.f49, hI.f50, hI.f51, hI.f52, hI.f53, hI.f54, hI.f55, hI.f56, hI.f57, hI.f58, hI.f59, hI.f60, hI.f61, hI.f62, hI.f63, hI.f64, hI.f65, hI.f66, hI.f67, hI.f68, hI.f69, hI.f70, hI.f71⟩ <;> (first | exact fun _ => rfl | skip))
    | (refine ⟨?_, ?_, ?_, ?_, ?_, ?_, ?_, ?_, ?_, ?_, ?_, ?_, ?_, ?_, ?_, ?_, ?_, ?_, ?_, ?_, ?_, ?_, ?_, ?_, ?_, ?_, ?_, ?_, ?_, ?_, ?_, ?_, ?_, ?_, ?_, ?_, ?_, ?_, ?_, ?_, ?_, ?_, ?_, ?_, ?_, ?_, ?_, ?_, ?_, ?_, ?_, ?_, ?_, ?_, ?_, ?_, ?_, ?_, ?_, ?_, ?_, ?_, ?_, ?_, ?_, ?_, ?_, ?_, ?_, ?_, ?_, ?_, ?_⟩ <;> (first | exact hI.x | exact hI.f0 | exact hI.f1 | exact hI.f2 | exact hI.f3 | exact hI.f4 | exact hI.f5 | exact hI.f6 | exact hI.f7 | exact hI.f8 | exact hI.f9 | exact hI.f10 | exact hI.f11 | exact hI.f12 | exact hI.f13 | exact hI.f14 | exact hI.f15 | exact hI.f16 | exact hI.f17 | exact hI.f18 | exact hI.f19 | exact hI.f20 | exact hI.f21 | exact hI.f22 | exact hI.f23 | exact hI.f24 | exact hI.f25 | exact hI.f26 | exact hI.f27 | exact hI.f28 | exact hI.f29 | exact hI.f30 | exact hI.f31 | exact hI.f32 | exact hI.f33 | exact hI.f34 | exact hI.f35 | exact hI.f36 | exact hI.f37 | exact hI.f38 | exact hI.f39 | exact hI.f40 | exact hI.f41 | exact hI.f42 | exact hI.f43 | exact hI.f44 | exact hI.f45 | exact hI.f46 | exact hI.f47 | exact hI.f48 | exact hI.f49 | exact hI.f50 | exact hI.f51 | exact hI.f52 | exact hI.f53 | exact hI.f54 | exact hI.f55 | exact hI.f56 | exact hI.f57 | exact hI.f58 | exact hI.f59 | exact hI.f60 | exact hI.f61 | exact hI.f62 | exact hI.f63 | exact hI.f64 | exact hI.f65 | exact hI.f66 | exact hI.f67 | exact hI.f68 | exact hI.f69 | exact hI.f70 | exact hI.f71 | exact fun _ => rfl | skip))
  · intro L us wx K a ha hp hd hun hI hK
    have HX := hI.x
    have u21 := hI.f21 (hp 21 (by kernel_rfl))
    have u24 := hI.f24 (hp 24 (by kernel_rfl))
    have bb := (Ek.trans HX).cell Hk.out.2.1
    clear hp HX
    replace hd := Lib.hid hd
    simp only [u21, u24] at ha
    subst ha
    simp only [Act.put, List.setIfInBounds_toArray, List.set_cons_succ, List.set_cons_zero] at hK
    go_simp
    refine hK _ _ ?_
    first
    | (refine ⟨hI.x, hI.f0, hI.f1, hI.f2, hI.f3, hI.f4, hI.f5, hI.f6, hI.f7, hI.f8, hI.f9, hI.f10, hI.f11, hI.f12, hI.f13, hI.f14, hI.f15, hI.f16, hI.f17, hI.f18, hI.f19, hI.f20, hI.f21, hI.f22, hI.f23, hI.f24, ?_, hI.f26, hI.f27, hI.f28, hI.f29, hI.f30, hI.f31, hI.f32, hI.f33, hI.f34, hI.f35, hI.f36, hI.f37, hI.f38, hI.f39, hI.f40, hI.f41, hI.f42, hI.f43, hI.f44, hI.f45, hI.f46, hI.f47, hI.f48, hI.f49, hI.f50, hI.f51, hI.f52, hI.f53, hI.f54, hI.f55, hI.f56, hI.f57, hI.f58, hI.f59, hI.f60, hI.f61, hI.f62, hI.f63, hI.f64, hI.f65, hI.f66, hI.f67, hI.f68, hI.f69, hI.f70, hI.f71⟩ <;> (first | exact fun _ => rfl | skip))
    | (refine ⟨?_, ?_, ?_, ?_, ?_, ?_, ?_, ?_, ?_, ?_, ?_, ?_, ?_, ?_, ?_, ?_, ?_, ?_, ?_, ?_, ?_, ?_, ?_, ?_, ?_, ?_, ?_, ?_, ?_, ?_, ?_, ?_, ?_, ?_, ?_, ?_, ?_, ?_, ?_, ?_, ?_, ?_, ?_, ?_, ?_, ?_, ?_, ?_, ?_, ?_, ?_, ?_, ?_, ?_, ?_, ?_, ?_, ?_, ?_, ?_, ?_, ?_, ?_, ?_, ?_, ?_, ?_, ?_, ?_, ?_, ?_, ?_, ?_⟩ <;> (first | exact hI.x | exact hI.f0 | exact hI.f1 | exact hI.f2 | exact hI.f3 | exact hI.f4 | exact hI.f5 | exact hI.f6 | exact hI.f7 | exact hI.f8 | exact hI.f9 | exact hI.f10 | exact hI.f11 | exact hI.f12 | exact hI.f13 | exact hI.f14 | exact hI.f15 | exact hI.f16 | exact hI.f17 | exact hI.f18 | exact hI.f19 | exact hI.f20 | exact hI.f21 | exact hI.f22 | exact hI.f23 | exact hI.f24 | exact hI.f25 | exact hI.f26 | exact hI.f27 | exact hI.f28 | exact hI.f29 | exact hI.f30 | exact hI.f31 | exact hI.f32 | exact hI.f33 | exact hI.f34 | exact hI.f35 | exact hI.f36 | exact hI.f37 | exact hI.f38 | exact hI.f39 | exact hI.f40 | exact hI.f41 | exact hI.f42 | exact hI.f43 | exact hI.f44 | exact hI.f45 | exact hI.f46 | exact hI.f47 | exact hI.f48 | exact hI.f49 | exact hI.f50 | exact hI.f51 | exact hI.f52 | exact hI.f53 | exact hI.f54 | exact hI.f55 | exact hI.f56 | exact hI.f57 | exact hI.f58 | exact hI.f59 | exact hI.f60 | exact hI.f61 | exact hI.f62 | exact hI.f63 | exact hI.f64 | exact hI.f65 | exact hI.f66 | exact hI.f67 | exact hI.f68 | exact hI.f69 | exact hI.f70 | exact hI.f71 | exact fun _ => rfl | skip))
  · intro L us wx K a ha hp hd hun hI hK
    have HX := hI.x
    have u21 := hI.f21 (hp 21 (by kernel_rfl))
    have u25 := hI.f25 (hp 25 (by kernel_rfl))
    clear hp HX
    replace hd := Lib.hid hd
    simp only [u21, u25] at ha
    subst ha
    simp only [Act.put, List.setIfInBounds_toArray, List.set_cons_succ, List.set_cons_zero] at hK
    go_simp
    refine hK _ _ ?_
    first
    | (refine ⟨hI.x, hI.f0, hI.f1, hI.f2, hI.f3, hI.f4, hI.f5, hI.f6, hI.f7, hI.f8, hI.f9, hI.f10, hI.f11, hI.f12, hI.f13, hI.f14, hI.f15, hI.f16, hI.f17, hI.f18, hI.f19, hI.f20, hI.f21, hI.f22, hI.f23, hI.f24, hI.f25, ?_, hI.f27, hI.f28, hI.f29, hI.f30, hI.f31, hI.f32, hI.f33, hI.f34, hI.f35, hI.f36, hI.f37, hI.f38, hI.f39, hI.f40, hI.f41, hI.f42, hI.f43, hI.f44, hI.f45, hI.f46, hI.f47, hI.f48, hI.f49, hI.f50, hI.f51, hI.f52, hI.f53, hI.f54, hI.f55, hI.f56, hI.f57, hI.f58, hI.f59, hI.f60, hI.f61, hI.f62, hI.f63, hI.f64, hI.f65, hI.f66, hI.f67, hI.f68, hI.f69, hI.f70, hI.f71⟩ <;> (first | exact fun _ => rfl | skip))
    | (refine ⟨?_, ?_, ?_, ?_, ?_, ?_, ?_, ?_, ?_, ?_, ?_, ?_, ?_, ?_, ?_, ?_, ?_, ?_, ?_, ?_, ?_, ?_, ?_, ?_, ?_, ?_, ?_, ?_, ?_, ?_, ?_, ?_, ?_, ?_, ?_, ?_, ?_, ?_, ?_, ?_, ?_, ?_, ?_, ?_, ?_, ?_, ?_, ?_, ?_, ?_, ?_, ?_, ?_, ?_, ?_, ?_, ?_, ?_, ?_, ?_, ?_, ?_, ?_, ?_, ?_, ?_, ?_, ?_, ?_, ?_, ?_, ?_, ?_⟩ <;> (first | exact hI.x | exact hI.f0 | exact hI.f1 | exact hI.f2 | exact hI.f3 | exact hI.f4 | exact hI.f5 | exact hI.f6 | exact hI.f7 | exact hI.f8 | exact hI.f9 | exact hI.f10 | exact hI.f11 | exact hI.f12 | exact hI.f13 | exact hI.f14 | exact hI.f15 | exact hI.f16 | exact hI.f17 | exact hI.f18 | exact hI.f19 | exact hI.f20 | exact hI.f21 | exact hI.f22 | exact hI.f23 | exact hI.f24 | exact hI.f25 | exact hI.f26 | exact hI.f27 | exact hI.f28 | exact hI.f29 | exact hI.f30 | exact hI.f31 | exact hI.f32 | exact hI.f33 | exact hI.f34 | exact hI.f35 | exact hI.f36 | exact hI.f37 | exact hI.f38 | exact hI.f39 | exact hI.f40 | exact hI.f41 | exact hI.f42 | exact hI.f43 | exact hI.f44 | exact hI.f45 | exact hI.f46 | exact hI.f47 | exact hI.f48 | exact hI.f49 | exact hI.f50 | exact hI.f51 | exact hI.f52 | exact hI.f53 | exact hI.f54 | exact hI.f55 | exact hI.f56 | exact hI.f57 | exact hI.f58 | exact hI.f59 | exact hI.f60 | exact hI.f61 | exact hI.f62 | exact hI.f63 | exact hI.f64 | exact hI.f65 | exact hI.f66 | exact hI.f67 | exact hI.f68 | exact hI.f69 | exact hI.f70 | exact hI.f71 | exact fun _ => rfl | skip))
  · intro L us wx K a ha hp hd hun hI hK
    have HX := hI.x
    have u21 := hI.f21 (hp 21 (by kernel_rfl))
    have u26 := hI.f26 (hp 26 (by kernel_rfl))
    clear hp HX
    replace hd := Lib.hid hd
    simp only [u21, u26] at ha
    subst ha
    simp only [Act.put, List.setIfInBounds_toArray, List.set_cons_succ, List.set_cons_zero] at hK
    go_simp
    refine hK _ _ ?_
    first
    | (refine ⟨hI.x, hI.f0, hI.f1, hI.f2, hI.f3, hI.f4, hI.f5, hI.f6, hI.f7, hI.f8, hI.f9, hI.f10, hI.f11, hI.f12, hI.f13, hI.f14, hI.f15, hI.f16, hI.f17, hI.f18, hI.f19, hI.f20, hI.f21, hI.f22, hI.f23, hI.f24, hI.f25, hI.f26, ?_, hI.f28, hI.f29, hI.f30, hI.f31, hI.f32, hI.f33, hI.f34, hI.f35, hI.f36, hI.f37, hI.f38, hI.f39, hI.f40, hI.f41, hI.f42, hI.f43, hI.f44, hI.f45, hI.f46, hI.f47, hI.f48, hI.f49, hI.f50, hI.f51, hI.f52, hI.f53, hI.f54, hI.f55, hI.f56, hI.f57, hI.f58, hI.f59, hI.f60, hI.f61, hI.f62, hI.f63, hI.f64, hI.f65, hI.f66, hI.f67, hI.f68, hI.f69, hI.f70, hI.f71⟩ <;> (first | exact fun _ => rfl | skip))
    | (refine ⟨?_, ?_, ?_, ?_, ?_, ?_, ?_, ?_, ?_, ?_, ?_, ?_, ?_, ?_, ?_, ?_, ?_, ?_, ?_, ?_, ?_, ?_, ?_, ?_, ?_, ?_, ?_, ?_, ?_, ?_, ?_, ?_, ?_, ?_, ?_, ?_, ?_, ?_, ?_, ?_, ?_, ?_, ?_, ?_, ?_, ?_, ?_, ?_, ?_, ?_, ?_, ?_, ?_, ?_, ?_, ?_, ?_, ?_, ?_, ?_, ?_, ?_, ?_, ?_, ?_, ?_, ?_, ?_, ?_, ?_, ?_, ?_, ?_⟩ <;> (first | exact hI.x | exact hI.f0 | exact hI.f1 | exact hI.f2 | exact hI.f3 | exact hI.f4 | exact hI.f5 | exact hI.f6 | exact hI.f7 | exact hI.f8 | exact hI.f9 | exact hI.f10 | exact hI.f11 | exact hI.f12 | exact hI.f13 | exact hI.f14 | exact hI.f15 | exact hI.f16 | exact hI.f17 | exact hI.f18 | exact hI.f19 | exact hI.f20 | exact hI.f21 | exact hI.f22 | exact hI.f23 | exact hI.f24 | exact hI.f25 | exact hI.f26 | exact hI.f27 | exact hI.f28 | exact hI.f29 | exact hI.f30 | exact hI.f31 | exact hI.f32 | exact hI.f33 | exact hI.f34 | exact hI.f35 | exact hI.f36 | exact hI.f37 | exact hI.f38 | exact hI.f39 | exact hI.f40 | exact hI.f41 | exact hI.f42 | exact hI.f43 | exact hI.f44 | exact hI.f45 | exact hI.f46 | exact hI.f47 | exact hI.f48 | exact hI.f49 | exact hI.f50 | exact hI.f51 | exact hI.f52 | exact hI.f53 | exact hI.f54 | exact hI.f55 | exact hI.f56 | exact hI.f57 | exact hI.f58 | exact hI.f59 | exact hI.f60 | exact hI.f61 | exact hI.f62 | exact hI.f63 | exact hI.f64 | exact hI.f65 | exact hI.f66 | exact hI.f67 | exact hI.f68 | exact hI.f69 | exact hI.f70 | exact hI.f71 | exact fun _ => rfl | skip))
  · intro L us wx K a ha hp hd hun hI hK
    have HX := hI.x
    have u21 := hI.f21 (hp 21 (by kernel_rfl))
    have u27 := hI.f27 (hp 27 (by kernel_rfl))
    clear hp HX
    replace hd := Lib.hid hd
    simp only [u21, u27] at ha
    subst ha
    simp only [Act.put, List.setIfInBounds_toArray, List.set_cons_succ, List.set_cons_zero] at hK
    go_simp
    refine hK _ _ ?_
    first
    | (refine ⟨hI.x, hI.f0, hI.f1, hI.f2, hI.f3, hI.f4, hI.f5, hI.f6, hI.f7, hI.f8, hI.f9, hI.f10, hI.f11, hI.f12, hI.f13, hI.f14, hI.f15, hI.f16, hI.f17, hI.f18, hI.f19, hI.f20, hI.f21, hI.f22, hI.f23, hI.f24, hI.f25, hI.f26, hI.f27, ?_, hI.f29, hI.f30, hI.f31, hI.f32, hI.f33, hI.f34, hI.f35, hI.f36, hI.f37, hI.f38, hI.f39, hI.f40, hI.f41, hI.f42, hI.f43, hI.f44, hI.f45, hI.f46, hI.f47, hI.f48, hI.f49, hI.f50, hI.f51, hI.f52, hI.f53, hI.f54, hI.f55, hI.f56, hI.f57, hI.f58, hI.f59, hI.f60, hI.f61, hI.f62, hI.f63, hI.f64, hI.f65, hI.f66, hI.f67, hI.f68, hI.f69, hI.f70, hI.f71⟩ <;> (first | exact fun _ => rfl | skip))
    | (refine ⟨?_, ?_, ?_, ?_, ?_, ?_, ?_, ?_, ?_, ?_, ?_, ?_, ?_, ?_, ?_, ?_, ?_, ?_, ?_, ?_, ?_, ?_, ?_, ?_, ?_, ?_, ?_, ?_, ?_, ?_, ?_, ?_, ?_, ?_, ?_, ?_, ?_, ?_, ?_, ?_, ?_, ?_, ?_, ?_, ?_, ?_, ?_, ?_, ?_, ?_, ?_, ?_, ?_, ?_, ?_, ?_, ?_, ?_, ?_, ?_, ?_, ?_, ?_, ?_, ?_, ?_, ?_, ?_, ?_, ?_, ?_, ?_, ?_⟩ <;> (first | exact hI.x | exact hI.f0 | exact hI.f1 | exact hI.f2 | exact hI.f3 | exact hI.f4 | exact hI.f5 | exact hI.f6 | exact hI.f7 | exact hI.f8 | exact hI.f9 | exact hI.f10 | exact hI.f11 | exact hI.f12 | exact hI.f13 | exact hI.f14 | exact hI.f15 | exact hI.f16 | exact hI.f17 | exact hI.f18 | exact hI.f19 | exact hI.f20 | exact hI.f21 | exact hI.f22 | exact hI.f23 | exact hI.f24 | exact hI.f25 | exact hI.f26 | exact hI.f27 | exact hI.f28 | exact hI.f29 | exact hI.f30 | exact hI.f31 | exact hI.f32 | exact hI.f33 | exact hI.f34 | exact hI.f35 | exact hI.f36 | exact hI.f37 | exact hI.f38 | exact hI.f39 | exact hI.f40 | exact hI.f41 | exact hI.f42 | exact hI.f43 | exact hI.f44 | exact hI.f45 | exact hI.f46 | exact hI.f47 | exact hI.f48 | exact hI.f49 | exact hI.f50 | exact hI.f51 | exact hI.f52 | exact hI.f53 | exact hI.f54 | exact hI.f55 | exact hI.f56 | exact hI.f57 | exact hI.f58 | exact hI.f59 | exact hI.f60 | exact hI.f61 | exact hI.f62 | exact hI.f63 | exact hI.f64 | exact hI.f65 | exact hI.f66 | exact hI.f67 | exact hI.f68 | exact hI.f69 | exact hI.f70 | exact hI.f71 | exact fun _ => rfl | skip))
  · intro L us wx K a ha hp hd hun hI hK
    have HX := hI.x
    have u28 := hI.f28 (hp 28 (by kernel_rfl))
    clear hp HX
    replace hd := Lib.hid hd
    simp only [u28] at ha
    subst ha
    simp only [Act.put, List.setIfInBounds_toArray, List.set_cons_succ, List.set_cons_zero] at hK
    go_simp
    refine hK _ _ ?_
    first
    | (refine ⟨hI.x, hI.f0, hI.f1, hI.f2, hI.f3, hI.f4, hI.f5, hI.f6, hI.f7, hI.f8, hI.f9, hI.f10, hI.f11, hI.f12, hI.f13, hI.f14, hI.f15, hI.f16, hI.f17, hI.f18, hI.f19, hI.f20, hI.f21, hI.f22, hI.f23, hI.f24, hI.f25, hI.f26, hI.f27, hI.f28, ?_, hI.f30, hI.f31, hI.f32, hI.f33, hI.f34, hI.f35, hI.f36, hI.f37, hI.f38, hI.f39, hI.f40, hI.f41, hI.f42, hI.f43, hI.f44, hI.f45, hI.f46, hI.f47, hI.f48, hI.f49, hI.f50, hI.f51, hI.f52, hI.f53, hI.f54, hI.f55, hI.f56, hI.f57, hI.f58, hI.f59, hI.f60, hI.f61, hI.f62, hI.f63, hI.f64, hI.f65, hI.f66, hI.f67, hI.f68, hI.f69, hI.f70, hI.f71⟩ <;> (first | exact fun _ => rfl | skip))
    | (refine ⟨?_, ?_, ?_, ?_, ?_, ?_, ?_, ?_, ?_, ?_, ?_, ?_, ?_, ?_, ?_, ?_, ?_, ?_, ?_, ?_, ?_, ?_, ?_, ?_, ?_, ?_, ?_, ?_, ?_, ?_, ?_, ?_, ?_, ?_, ?_, ?_, ?_, ?_, ?_, ?_, ?_, ?_, ?_, ?_, ?_, ?_, ?_, ?_, ?_, ?_, ?_, ?_, ?_, ?_, ?_, ?_, ?_, ?_, ?_, ?_, ?_, ?_, ?_, ?_, ?_, ?_, ?_, ?_, ?_, ?_, ?_, ?_, ?_⟩ <;> (first | exact hI.x | exact hI.f0 | exact hI.f1 | exact hI.f2 | exact hI.f3 | exact hI.f4 | exact hI.f5 | exact hI.f6 | exact hI.f7 | exact hI.f8 | exact hI.f9 | exact hI.f10 | exact hI.f11 | exact hI.f12 | exact hI.f13 | exact hI.f14 | exact hI.f15 | exact hI.f16 | exact hI.f17 | exact hI.f18 | exact hI.f19 | exact hI.f20 | exact hI.f21 | exact hI.f22 | exact hI.f23 | exact hI.f24 | exact hI.f25 | exact hI.f26 | exact hI.f27 | exact hI.f28 | exact hI.f29 | exact hI.f30 | exact hI.f31 | exact hI.f32 | exact hI.f33 | exact hI.f34 | exact hI.f35 | exact hI.f36 | exact hI.f37 | exact hI.f38 | exact hI.f39 | exact hI.f40 | exact hI.f41 | exact hI.f42 | exact hI.f43 | exact hI.f44 | exact hI.f45 | exact hI.f46 | exact hI.f47 | exact hI.f48 | exact hI.f49 | exact hI.f50 | exact hI.f51 | exact hI.f52 | exact hI.f53 | exact hI.f54 | exact hI.f55 | exact hI.f56 | exact hI.f57 | exact hI.f58 | exact hI.f59 | exact hI.f60 | exact hI.f61 | exact hI.f62 | exact hI.f63 | exact hI.f64 | exact hI.f65 | exact hI.f66 | exact hI.f67 | exact hI.f68 | exact hI.f69 | exact hI.f70 | exact hI.f71 | exact fun _ => rfl | skip))
  · intro L us wx K a ha hp hd hun hI hK
    have HX := hI.x
    have u29 := hI.f29 (hp 29 (by kernel_rfl))
    clear hp HX
    replace hd := Lib.hid hd
    simp only [u29] at ha
    subst ha
    simp only [Act.put, List.setIfInBounds_toArray, List.set_cons_succ, List.set_cons_zero] at hK
    go_simp
    refine hK _ _ ?_
    first
    | (refine ⟨hI.x, hI.f0, hI.f1, hI.f2, hI.f3, hI.f4, hI.f5, hI.f6, hI.f7, hI.f8, hI.f9, hI.f10, hI.f11, hI.f12, hI.f13, hI.f14, hI.f15, hI.f16, hI.f17, hI.f18, hI.f19, hI.f20, hI.f21, hI.f22, hI.f23, hI.f24, hI.f25, hI.f26, hI.f27, hI.f28, hI.f29, ?_, hI.f31, hI.f32, hI.f33, hI.f34, hI.f35, hI.f36, hI.f37, hI.f38, hI.f39, hI.f40, hI.f41, hI.f42, hI.f43, hI.f44, hI.f45, hI.f46, hI.f47, hI.f48, hI.f49, hI.f50, hI.f51, hI.f52, hI.f53, hI.f54, hI.f55, hI.f56, hI.f57, hI.f58, hI.f59, hI.f60, hI.f61, hI.f62, hI.f63, hI.f64, hI.f65, hI.f66, hI.f67, hI.f68, hI.f69, hI.f70, hI.f71⟩ <;> (first | exact fun _ => rfl | skip))
    | (refine ⟨?_, ?_, ?_, ?_, ?_, ?_, ?_, ?_, ?_, ?_, ?_, ?_, ?_, ?_, ?_, ?_, ?_, ?_, ?_, ?_, ?_, ?_, ?_, ?_, ?_, ?_, ?_, ?_, ?_, ?_, ?_, ?_, ?_, ?_, ?_, ?_, ?_, ?_, ?_, ?_, ?_, ?_, ?_, ?_, ?_, ?_, ?_, ?_, ?_, ?_, ?_, ?_, ?_, ?_, ?_, ?_, ?_, ?_, ?_, ?_, ?_, ?_, ?_, ?_, ?_, ?_, ?_, ?_, ?_, ?_, ?_, ?_, ?_⟩ <;> (first | exact hI.x | exact hI.f0 | exact hI.f1 | exact hI.f2 | exact hI.f3 | exact hI.f4 | exact hI.f5 | exact hI.f6 | exact hI.f7 | exact hI.f8 | exact hI.f9 | exact hI.f10 | exact hI.f11 | exact hI.f12 | exact hI.f13 | exact hI.f14 | exact hI.f15 | exact hI.f16 | exact hI.f17 | exact hI.f18 | exact hI.f19 | exact hI.f20 | exact hI.f21 | exact hI.f22 | exact hI.f23 | exact hI.f24 | exact hI.f25 | exact hI.f26 | exact hI.f27 | exact hI.f28 | exact hI.f29 | exact hI.f30 | exact hI.f31 | exact hI.f32 | exact hI.f33 | exact hI.f34 | exact hI.f35 | exact hI.f36 | exact hI.f37 | exact hI.f38 | exact hI.f39 | exact hI.f40 | exact hI.f41 | exact hI.f42 | exact hI.f43 | exact hI.f44 | exact hI.f45 | exact hI.f46 | exact hI.f47 | exact hI.f48 | exact hI.f49 | exact hI.f50 | exact hI.f51 | exact hI.f52 | exact hI.f53 | exact hI.f54 | exact hI.f55 | exact hI.f56 | exact hI.f57 | exact hI.f58 | exact hI.f59 | exact hI.f60 | exact hI.f61 | exact hI.f62 | exact hI.f63 | exact hI.f64 | exact hI.f65 | exact hI.f66 | exact hI.f67 | exact hI.f68 | exact hI.f69 | exact hI.f70 | exact hI.f71 | exact fun _ => rfl | skip))
  · intro L us wx K a ha hp hd hun hI hK
    have HX := hI.x
    have u29 := hI.f29 (hp 29 (by kernel_rfl))
    have u30 := hI.f30 (hp 30 (by kernel_rfl))
    clear hp HX
    replace hd := Lib.hid hd
    simp only [u29, u30] at ha
    subst ha
    simp only [Act.put, List.setIfInBounds_toArray, List.set_cons_succ, List.set_cons_zero] at hK
    go_simp
    refine hK _ _ ?_
    first
    | (refine ⟨hI.x, hI.f0, hI.f1, hI.f2, hI.f3, hI.f4, hI.f5, hI.f6, hI.f7, hI.f8, hI.f9, hI.f10, hI.f11, hI.f12, hI.f13, hI.f14, hI.f15, hI.f16, hI.f17, hI.f18, hI.f19, hI.f20, hI.f21, hI.f22, hI.f23, hI.f24, hI.f25, hI.f26, hI.f27, hI.f28, hI.f29, hI.f30, ?_, hI.f32, hI.f33, hI.f34, hI.f35, hI.f36, hI.f37, hI.f38, hI.f39, hI.f40, hI.f41, hI.f42, hI.f43, hI.f44, hI.f45, hI.f46, hI.f47, hI.f48, hI.f49, hI.f50, hI.f51, hI.f52, hI.f53, hI.f54, hI.f55, hI.f56, hI.f57, hI.f58, hI.f59, hI.f60, hI.f61, hI.f62, hI.f63, hI.f64, hI.f65, hI.f66, hI.f67, hI.f68, hI.f69, hI.f70, hI.f71⟩ <;> (first | exact fun _ => rfl | skip))
    | (refine ⟨?_, ?_, ?_, ?_, ?_, ?_, ?_, ?_, ?_, ?_, ?_, ?_, ?_, ?_, ?_, ?_, ?_, ?_, ?_, ?_, ?_, ?_, ?_, ?_, ?_, ?_, ?_, ?_, ?_, ?_, ?_, ?_, ?_, ?_, ?_, ?_, ?_, ?_, ?_, ?_, ?_, ?_, ?_, ?_, ?_, ?_, ?_, ?_, ?_, ?_, ?_, ?_, ?_, ?_, ?_, ?_, ?_, ?_, ?_, ?_, ?_, ?_, ?_, ?_, ?_, ?_, ?_, ?_, ?_, ?_, ?_, ?_, ?_⟩ <;> (first | exact hI.x | exact hI.f0 | exact hI.f1 | exact hI.f2 | exact hI.f3 | exact hI.f4 | exact hI.f5 | exact hI.f6 | exact hI.f7 | exact hI.f8 | exact hI.f9 | exact hI.f10 | exact hI.f11 | exact hI.f12 | exact hI.f13 | exact hI.f14 | exact hI.f15 | exact hI.f16 | exact hI.f17 | exact hI.f18 | exact hI.f19 | exact hI.f20 | exact hI.f21 | exact hI.f22 | exact hI.f23 | exact hI.f24 | exact hI.f25 | exact hI.f26 | exact hI.f27 | exact hI.f28 | exact hI.f29 | exact hI.f30 | exact hI.f31 | exact hI.f32 | exact hI.f33 | exact hI.f34 | exact hI.f35 | exact hI.f36 | exact hI.f37 | exact hI.f38 | exact hI.f39 | exact hI.f40 | exact hI.f41 | exact hI.f42 | exact hI.f43 | exact hI.f44 | exact hI.f45 | exact hI.f46 | exact hI.f47 | exact hI.f48 | exact hI.f49 | exact hI.f50 | exact hI.f51 | exact hI.f52 | exact hI.f53 | exact hI.f54 | exact hI.f55 | exact hI.f56 | exact hI.f57 | exact hI.f58 | exact hI.f59 | exact hI.f60 | exact hI.f61 | exact hI.f62 | exact hI.f63 | exact hI.f64 | exact hI.f65 | exact hI.f66 | exact hI.f67 | exact hI.f68 | exact hI.f69 | exact hI.f70 | exact hI.f71 | exact fun _ => rfl | skip))
  · intro L us wx K a ha hp hd hun hI hK
    have HX := hI.x
    have u29 := hI.f29 (hp 29 (by kernel_rfl))
    have u31 := hI.f31 (hp 31 (by kernel_rfl))
    clear hp HX
    replace hd := Lib.hid hd
    simp only [u29, u31] at ha
    subst ha
    simp only [Act.put, List.setIfInBounds_toArray, List.set_cons_succ, List.set_cons_zero] at hK
    go_simp
    refine hK _ _ ?_
    first
    | (refine ⟨hI.x, hI.f0, hI.f1, hI.f2, hI.f3, hI.f4, hI.f5, hI.f6, hI.f7, hI.f8, hI.f9, hI.f10, hI.f11, hI.f12, hI.f13, hI.f14, hI.f15, hI.f16, hI.f17, hI.f18, hI.f19, hI.f20, hI.f21, hI.f22, hI.f23, hI.f24, hI.f25, hI.f26, hI.f27, hI.f28, hI.f29, hI.f30, hI.f31, ?_, hI.f33, hI.f34, hI.f35, hI.f36, hI.f37, hI.f38, hI.f39, hI.f40, hI.f41, hI.f42, hI.f43, hI.f44, hI.f45, hI.f46, hI.f47, hI.f48, hI.f49, hI.f50, hI.f51, hI.f52, hI.f53, hI.f54, hI.f55, hI.f56, hI.f57, hI.f58, hI.f59, hI.f60, hI.f61, hI.f62, hI.f63, hI.f64, hI.f65, hI.f66, hI.f67, hI.f68, hI.f69, hI.f70, hI.f71⟩ <;> (first | exact fun _ => rfl | skip))
    | (refine ⟨?_, ?_, ?_, ?_, ?_, ?_, ?_, ?_, ?_, ?_, ?_, ?_, ?_, ?_, ?_, ?_, ?_, ?_, ?_, ?_, ?_, ?_, ?_, ?_, ?_, ?_, ?_, ?_, ?_, ?_, ?_, ?_, ?_, ?_, ?_, ?_, ?_, ?_, ?_, ?_, ?_, ?_, ?_, ?_, ?_, ?_, ?_, ?_, ?_, ?_, ?_, ?_, ?_, ?_, ?_, ?_, ?_, ?_, ?_, ?_, ?_, ?_, ?_, ?_, ?_, ?_, ?_, ?_, ?_, ?_, ?_, ?_, ?_⟩ <;> (first | exact hI.x | exact hI.f0 | exact hI.f1 | exact hI.f2 | exact hI.f3 | exact hI.f4 | exact hI.f5 | exact hI.f6 | exact hI.f7 | exact hI.f8 | exact hI.f9 | exact hI.f10 | exact hI.f11 | exact hI.f12 | exact hI.f13 | exact hI.f14 | exact hI.f15 | exact hI.f16 | exact hI.f17 | exact hI.f18 | exact hI.f19 | exact hI.f20 | exact hI.f21 | exact hI.f22 | exact hI.f23 | exact hI.f24 | exact hI.f25 | exact hI.f26 | exact hI.f27 | exact hI.f28 | exact hI.f29 | exact hI.f30 | exact hI.f31 | exact hI.f32 | exact hI.f33 | exact hI.f34 | exact hI.f35 | exact hI.f36 | exact hI.f37 | exact hI.f38 | exact hI.f39 | exact hI.f40 | exact hI.f41 | exact hI.f42 | exact hI.f43 | exact hI.f44 | exact hI.f45 | exact hI.f46 | exact hI.f47 | exact hI.f48 | exact hI.f49 | exact hI.f50 | exact hI.f51 | exact hI.f52 | exact hI.f53 | exact hI.f54 | exact hI.f55 | exact hI.f56 | exact hI.f57 | exact hI.f58 | exact hI.f59 | exact hI.f60 | exact hI.f61 | exact hI.f62 | exact hI.f63 | exact hI.f64 | exact hI.f65 | exact hI.f66 | exact hI.f67 | exact hI.f68 | exact hI.f69 | exact hI.f70 | exact hI.f71 | exact fun _ => rfl | skip))
  · intro L us wx K a ha hp hd hun hI hK
    have HX := hI.x
    have u29 := hI.f29 (hp 29 (by kernel_rfl))
    have u32 := hI.f32 (hp 32 (by kernel_rfl))
    have bb := (Ek.trans HX).cell Hk.out.2.2
    clear hp HX
    replace hd := Lib.hid hd
    simp only [u29, u32] at ha
    subst ha
    simp only [Act.put, List.setIfInBounds_toArray, List.set_cons_succ, List.set_cons_zero] at hK
    go_simp
    refine hK _ _ ?_
    first
    | (refine ⟨hI.x, hI.f0, hI.f1, hI.f2, hI.f3, hI.f4, hI.f5, hI.f6, hI.f7, hI.f8, hI.f9, hI.f10, hI.f11, hI.f12, hI.f13, hI.f14, hI.f15, hI.f16, hI.f17, hI.f18, hI.f19, hI.f20, hI.f21, hI.f22, hI.f23, hI.f24, hI.f25, hI.f26, hI.f27, hI.f28, hI.f29, hI.f30, hI.f31, hI.f32, ?_, hI.f34, hI.f35, hI.f36, hI.f37, hI.f38, hI.f39, hI.f40, hI.f41, hI.f42, hI.f43, hI.f44, hI.f45, hI.f46, hI.f47, hI.f48, hI.f49, hI.f50, hI.f51, hI.f52, hI.f53, hI.f54, hI.f55, hI.f56, hI.f57, hI.f58, hI.f59, hI.f60, hI.f61, hI.f62, hI.f63, hI.f64, hI.f65, hI.f66, hI.f67, hI.f68, hI.f69, hI.f70, hI.f71⟩ <;> (first | exact fun _ => rfl | skip))
    | (refine ⟨?_, ?_, ?_, ?_, ?_, ?_, ?_, ?_, ?_, ?_, ?_, ?_, ?_, ?_, ?_, ?_, ?_, ?_, ?_, ?_, ?_, ?_, ?_, ?_, ?_, ?_, ?_, ?_, ?_, ?_, ?_, ?_, ?_, ?_, ?_, ?_, ?_, ?_, ?_, ?_, ?_, ?_, ?_, ?_, ?_, ?_, ?_, ?_, ?_, ?_, ?_, ?_, ?_, ?_, ?_, ?_, ?_, ?_, ?_, ?_, ?_, ?_, ?_, ?_, ?_, ?_, ?_, ?_, ?_, ?_, ?_, ?_, ?_⟩ <;> (first | exact hI.x | exact hI.f0 | exact hI.f1 | exact hI.f2 | exact hI.f3 | exact hI.f4 | exact hI.f5 | exact hI.f6 | exact hI.f7 | exact hI.f8 | exact hI.f9 | exact hI.f10 | exact hI.f11 | exact hI.f12 | exact hI.f13 | exact hI.f14 | exact hI.f15 | exact hI.f16 | exact hI.f17 | exact hI.f18 | exact hI.f19 | exact hI.f20 | exact hI.f21 | exact hI.f22 | exact hI.f23 | exact hI.f24 | exact hI.f25 | exact hI.f26 | exact hI.f27 | exact hI.f28 | exact hI.f29 | exact hI.f30 | exact hI.f31 | exact hI.f32 | exact hI.f33 | exact hI.f34 | exact hI.f35 | exact hI.f36 | exact hI.f37 | exact hI.f38 | exact hI.f39 | exact hI.f40 | exact hI.f41 | exact hI.f42 | exact hI.f43 | exact hI.f44 | exact hI.f45 | exact hI.f46 | exact hI.f47 | exact hI.f48 | exact hI.f49 | exact hI.f50 | exact hI.f51 | exact hI.f52 | exact hI.f53 | exact hI.f54 | exact hI.f55 | exact hI.f56 | exact hI.f57 | exact hI.f58 | exact hI.f59 | exact hI.f60 | exact hI.f61 | exact hI.f62 | exact hI.f63 | exact hI.f64 | exact hI.f65 | exact hI.f66 | exact hI.f67 | exact hI.f68 | exact hI.f69 | exact hI.f70 | exact hI.f71 | exact fun _ => rfl | skip))
  · intro L us wx K a ha hp hd hun hI hK
    have HX := hI.x
    have u29 := hI.f29 (hp 29 (by kernel_rfl))
    have u33 := hI.f33 (hp 33 (by kernel_rfl))
    clear hp HX
    replace hd := Lib.hid hd
    simp only [u29, u33] at ha
    subst ha
    simp only [Act.put, List.setIfInBounds_toArray, List.set_cons_succ, List.set_cons_zero] at hK
    go_simp
    refine hK _ _ ?_
    first
    | (refine ⟨hI.x, hI.f0, hI.f1, hI.f2, hI.f3, hI.f4, hI.f5, hI.f6, hI.f7, hI.f8, hI.f9, hI.f10, hI.f11, hI.f12, hI.f13, hI.f14, hI.f15, hI.f16, hI.f17, hI.f18, hI.f19, hI.f20, hI.f21, hI.f22, hI.f23, hI.f24, hI.f25, hI.f26, hI.f27, hI.f28, hI.f29, hI.f30, hI.f31, hI.f32, hI.f33, ?_, hI.f35, hI.f36, hI.f37, hI.f38, hI.f39, hI.f40, hI.f41, hI.f42, hI.f43, hI.f44, hI.f45, hI.f46, hI.f47, hI.f48, hI.f49, hI.f50, hI.f51, hI.f52, hI.f53, hI.f54, hI.f55, hI.f56, hI.f57, hI.f58, hI.f59, hI.f60, hI.f61, hI.f62, hI.f63, hI.f64, hI.f65, hI.f66, hI.f67, hI.f68, hI.f69, hI.f70, hI.f71⟩ <;> (first | exact fun _ => rfl | skip))
    | (refine ⟨?_, ?_, ?_, ?_, ?_, ?_, ?_, ?_, ?_, ?_, ?_, ?_, ?_, ?_, ?_, ?_, ?_, ?_, ?_, ?_, ?_, ?_, ?_, ?_, ?_, ?_, ?_, ?_, ?_, ?_, ?_, ?_, ?_, ?_, ?_, ?_, ?_, ?_, ?_, ?_, ?_, ?_, ?_, ?_, ?_, ?_, ?_, ?_, ?_, ?_, ?_, ?_, ?_, ?_, ?_, ?_, ?_, ?_, ?_, ?_, ?_, ?_, ?_, ?_, ?_, ?_, ?_, ?_, ?_, ?_, ?_, ?_, ?_⟩ <;> (first | exact hI.x | exact hI.f0 | exact hI.f1 | exact hI.f2 | exact hI.f3 | exact hI.f4 | exact hI.f5 | exact hI.f6 | exact hI.f7 | exact hI.f8 | exact hI.f9 | exact hI.f10 | exact hI.f11 | exact hI.f12 | exact hI.f13 | exact hI.f14 | exact hI.f15 | exact hI.f16 | exact hI.f17 | exact hI.f18 | exact hI.f19 | exact hI.f20 | exact hI.f21 | exact hI.f22 | exact hI.f23 | exact hI.f24 | exact hI.f25 | exact hI.f26 | exact hI.f27 | exact hI.f28 | exact hI.f29 | exact hI.f30 | exact hI.f31 | exact hI.f32 | exact hI.f33 | exact hI.f34 | exact hI.f35 | exact hI.f36 | exact hI.f37 | exact hI.f38 | exact hI.f39 | exact hI.f40 | exact hI.f41 | exact hI.f42 | exact hI.f43 | exact hI.f44 | exact hI.f45 | exact hI.f46 | exact hI.f47 | exact hI.f48 | exact hI.f49 | exact hI.f50 | exact hI.f51 | exact hI.f52 | exact hI.f53 | exact hI.f54 | exact hI.f55 | exact hI.f56 | exact hI.f57 | exact hI.f58 | exact hI.f59 | exact hI.f60 | exact hI.f61 | exact hI.f62 | exact hI.f63 | exact hI.f64 | exact hI.f65 | exact hI.f66 | exact hI.f67 | exact hI.f68 | exact hI.f69 | exact hI.f70 | exact hI.f71 | exact fun _ => rfl | skip))
  · intro L us wx K a ha hp hd hun hI hK
    have HX := hI.x
    have u29 := hI.f29 (hp 29 (by kernel_rfl))
    have u34 := hI.f34 (hp 34 (by kernel_rfl))
    clear hp HX
    replace hd := Lib.hid hd
    simp only [u29, u34] at ha
    subst ha
    simp only [Act.put, List.setIfInBounds_toArray, List.set_cons_succ, List.set_cons_zero] at hK
    go_simp
    refine hK _ _ ?_
    first
    | (refine ⟨hI.x, hI.f0, hI.f1, hI.f2, hI.f3, hI.f4, hI.f5, hI.f6, hI.f7, hI.f8, hI.f9, hI.f10, hI.f11, hI.f12, hI.f13, hI.f14, hI.f15, hI.f16, hI.f17, hI.f18, hI.f19, hI.f20, hI.f21, hI.f22, hI.f23, hI.f24, hI.f25, hI.f26, hI.f27, hI.f28, hI.f29, hI.f30, hI.f31, hI.f32, hI.f33, hI.f34, ?_, hI.f36, hI.f37, hI.f38, hI.f39, hI.f40, hI.f41, hI.f42, hI.f43, hI.f44, hI.f45, hI.f46, hI.f47, hI.f48, hI.f49, hI.f50, hI.f51, hI.f52, hI.f53, hI.f54, hI.f55, hI.f56, hI.f57, hI.f58, hI.f59, hI.f60, hI.f61, hI.f62, hI.f63, hI.f64, hI.f65, hI.f66, hI.f67, hI.f68, hI.f69, hI.f70, hI.f71⟩ <;> (first | exact fun _ => rfl | skip))
    | (refine ⟨?_, ?_, ?_, ?_, ?_, ?_, ?_, ?_, ?_, ?_, ?_, ?_, ?_, ?_, ?_, ?_, ?_, ?_, ?_, ?_, ?_, ?_, ?_, ?_, ?_, ?_, ?_, ?_, ?_, ?_, ?_, ?_, ?_, ?_, ?_, ?_, ?_, ?_, ?_, ?_, ?_, ?_, ?_, ?_, ?_, ?_, ?_, ?_, ?_, ?_, ?_, ?_, ?_, ?_, ?_, ?_, ?_, ?_, ?_, ?_, ?_, ?_, ?_, ?_, ?_, ?_, ?_, ?_, ?_, ?_, ?_, ?_, ?_⟩ <;> (first | exact hI.x | exact hI.f0 | exact hI.f1 | exact hI.f2 | exact hI.f3 | exact hI.f4 | exact hI.f5 | exact hI.f6 | exact hI.f7 | exact hI.f8 | exact hI.f9 | exact hI.f10 | exact hI.f11 | exact hI.f12 | exact hI.f13 | exact hI.f14 | exact hI.f15 | exact hI.f16 | exact hI.f17 | exact hI.f18 | exact hI.f19 | exact hI.f20 | exact hI.f21 | exact hI.f22 | exact hI.f23 | exact hI.f24 | exact hI.f25 | exact hI.f26 | exact hI.f27 | exact hI.f28 | exact hI.f29 | exact hI.f30 | exact hI.f31 | exact hI.f32 | exact hI.f33 | exact hI.f34 | exact hI.f35 | exact hI.f36 | exact hI.f37 | exact hI.f38 | exact hI.f39 | exact hI.f40 | exact hI.f41 | exact hI.f42 | exact hI.f43 | exact hI.f44 | exact hI.f45 | exact hI.f46 | exact hI.f47 | exact hI.f48 | exact hI.f49 | exact hI.f50 | exact hI.f51 | exact hI.f52 | exact hI.f53 | exact hI.f54 | exact hI.f55 | exact hI.f56 | exact hI.f57 | exact hI.f58 | exact hI.f59 | exact hI.f60 | exact hI.f61 | exact hI.f62 | exact hI.f63 | exact hI.f64 | exact hI.f65 | exact hI.f66 | exact hI.f67 | exact hI.f68 | exact hI.f69 | exact hI.f70 | exact hI.f71 | exact fun _ => rfl | skip))
  · intro L us wx K a ha hp hd hun hI hK
    have HX := hI.x
    have u35 := hI.f35 (hp 35 (by kernel_rfl))
    clear hp HX
    replace hd := Lib.hid hd
    simp only [u35] at ha
    subst ha
    simp only [Act.put, List.setIfInBounds_toArray, List.set_cons_succ, List.set_cons_zero] at hK
    go_simp
    refine hK _ _ ?_
    first
    | (refine ⟨hI.x, hI.f0, hI.f1, hI.f2, hI.f3, hI.f4, hI.f5, hI.f6, hI.f7, hI.f8, hI.f9, hI.f10, hI.f11, hI.f12, hI.f13, hI.f14, hI.f15, hI.f16, hI.f17, hI.f18, hI.f19, hI.f20, hI.f21, hI.f22, hI.f23, hI.f24, hI.f25, hI.f26, hI.f27, hI.f28, hI.f29, hI.f30, hI.f31, hI.f32, hI.f33, hI.f34, hI.f35, ?_, hI.f37, hI.f38, hI.f39, hI.f40, hI.f41, hI.f42, hI.f43, hI.f44, hI.f45, hI.f46, hI.f47, hI.f48, hI.f49, hI.f50, hI.f51, hI.f52, hI.f53, hI.f54, hI.f55, hI.f56, hI.f57, hI.f58, hI.f59, hI.f60, hI.f61, hI.f62, hI.f63, hI.f64, hI.f65, hI.f66, hI.f67, hI.f68, hI.f69, hI.f70, hI.f71⟩ <;> (first | exact fun _ => rfl | skip))
    | (refine ⟨?_, ?_, ?_, ?_, ?_, ?_, ?_, ?_, ?_, ?_, ?_, ?_, ?_, ?_, ?_, ?_, ?_, ?_, ?_, ?_, ?_, ?_, ?_, ?_, ?_, ?_, ?_, ?_, ?_, ?_, ?_, ?_, ?_, ?_, ?_, ?_, ?_, ?_, ?_, ?_, ?_, ?_, ?_, ?_, ?_, ?_, ?_, ?_, ?_, ?_, ?_, ?_, ?_, ?_, ?_, ?_, ?_, ?_, ?_, ?_, ?_, ?_, ?_, ?_, ?_, ?_, ?_, ?_, ?_, ?_, ?_, ?_, ?_⟩ <;> (first | exact hI.x | exact hI.f0 | exact hI.f1 | exact hI.f2 | exact hI.f3 | exact hI.f4 | exact hI.f5 | exact hI.f6 | exact hI.f7 | exact hI.f8 | exact hI.f9 | exact hI.f10 | exact hI.f11 | exact hI.f12 | exact hI.f13 | exact hI.f14 | exact hI.f15 | exact hI.f16 | exact hI.f17 | exact hI.f18 | exact hI.f19 | exact hI.f20 | exact hI.f21 | exact hI.f22 | exact hI.f23 | exact hI.f24 | exact hI.f25 | exact hI.f26 | exact hI.f27 | exact hI.f28 | exact hI.f29 | exact hI.f30 | exact hI.f31 | exact hI.f32 | exact hI.f33 | exact hI.f34 | exact hI.f35 | exact hI.f36 | exact hI.f37 | exact hI.f38 | exact hI.f39 | exact hI.f40 | exact hI.f41 | exact hI.f42 | exact hI.f43 | exact hI.f44 | exact hI.f45 | exact hI.f46 | exact hI.f47 | exact hI.f48 | exact hI.f49 | exact hI.f50 | exact hI.f51 | exact hI.f52 | exact hI.f53 | exact hI.f54 | exact hI.f55 | exact hI.f56 | exact hI.f57 | exact hI.f58 | exact hI.f59 | exact hI.f60 | exact hI.f61 | exact hI.f62 | exact hI.f63 | exact hI.f64 | exact hI.f65 | exact hI.f66 | exact hI.f67 | exact hI.f68 | exact hI.f69 | exact hI.f70 | exact hI.f71 | exact fun _ => rfl | skip))
  · intro L us wx K a ha hp hd hun hI hK
    have HX := hI.x
    have u36 := hI.f36 (hp 36 (by kernel_rfl))
    clear hp HX
    replace hd := Lib.hid hd
    simp only [u36] at ha
    subst ha
    simp only [Act.put, List.setIfInBounds_toArray, List.set_cons_succ, List.set_cons_zero] at hK
    go_simp
    refine hK _ _ ?_
    first
    | (refine ⟨hI.x, hI.f0, hI.f1, hI.f2, hI.f3, hI.f4, hI.f5, hI.f6, hI.f7, hI.f8, hI.f9, hI.f10, hI.f11, hI.f12, hI.f13, hI.f14, hI.f15, hI.f16, hI.f17, hI.f18, hI.f19, hI.f20, hI.f21, hI.f22, hI.f23, hI.f24, hI.f25, hI.f26, hI.f27, hI.f28, hI.f29, hI.f30, hI.f31, hI.f32, hI.f33, hI.f34, hI.f35, hI.f36, ?_, hI.f38, hI.f39, hI.f40, hI.f41, hI.f42, hI.f43, hI.f44, hI.f45, hI.f46, hI.f47, hI.f48, hI.f49, hI.f50, hI.f51, hI.f52, hI.f53, hI.f54, hI.f55, hI.f56, hI.f57, hI.f58, hI.f59, hI.f60, hI.f61, hI.f62, hI.f63, hI.f64, hI.f65, hI.f66, hI.f67, hI.f68, hI.f69, hI.f70, hI.f71⟩ <;> (first | exact fun _ => rfl | skip))
    | (refine ⟨?_, ?_, ?_, ?_, ?_, ?_, ?_, ?_, ?_, ?_, ?_, ?_, ?_, ?_, ?_, ?_, ?_, ?_, ?_, ?_, ?_, ?_, ?_, ?_, ?_, ?_, ?_, ?_, ?_, ?_, ?_, ?_, ?_, ?_, ?_, ?_, ?_, ?_, ?_, ?_, ?_, ?_, ?_, ?_, ?_, ?_, ?_, ?_, ?_, ?_, ?_, ?_, ?_, ?_, ?_, ?_, ?_, ?_, ?_, ?_, ?_, ?_, ?_, ?_, ?_, ?_, ?_, ?_, ?_, ?_, ?_, ?_, ?_⟩ <;> (first | exact hI.x | exact hI.f0 | exact hI.f1 | exact hI.f2 | exact hI.f3 | exact hI.f4 | exact hI.f5 | exact hI.f6 | exact hI.f7 | exact hI.f8 | exact hI.f9 | exact hI.f10 | exact hI.f11 | exact hI.f12 | exact hI.f13 | exact hI.f14 | exact hI.f15 | exact hI.f16 | exact hI.f17 | exact hI.f18 | exact hI.f19 | exact hI.f20 | exact hI.f21 | exact hI.f22 | exact hI.f23 | exact hI.f24 | exact hI.f25 | exact hI.f26 | exact hI.f27 | exact hI.f28 | exact hI.f29 | exact hI.f30 | exact hI.f31 | exact hI.f32 | exact hI.f33 | exact hI.f34 | exact hI.f35 | exact hI.f36 | exact hI.f37 | exact hI.f38 | exact hI.f39 | exact hI.f40 | exact hI.f41 | exact hI.f42 | exact hI.f43 | exact hI.f44 | exact hI.f45 | exact hI.f46 | exact hI.f47 | exact hI.f48 | exact hI.f49 | exact hI.f50 | exact hI.f51 | exact hI.f52 | exact hI.f53 | exact hI.f54 | exact hI.f55 | exact hI.f56 | exact hI.f57 | exact hI.f58 | exact hI.f59 | exact hI.f60 | exact hI.f61 | exact hI.f62 | exact hI.f63 | exact hI.f64 | exact hI.f65 | exact hI.f66 | exact hI.f67 | exact hI.f68 | exact hI.f69 | exact hI.f70 | exact hI.f71 | exact fun _ => rfl | skip))
  · intro L us wx K a ha hp hd hun hI hK
    have HX := hI.x
    have u36 := hI.f36 (hp 36 (by kernel_rfl))
    have u37 := hI.f37 (hp 37 (by kernel_rfl))
    clear hp HX
    replace hd := Lib.hid hd
    simp only [u36, u37] at ha
    subst ha
    simp only [Act.put, List.setIfInBounds_toArray, List.set_cons_succ, List.set_cons_zero] at hK
    go_simp
    refine hK _ _ ?_
    first
    | (refine ⟨hI.x, hI.f0, hI.f1, hI.f2, hI.f3, hI.f4, hI.f5, hI.f6, hI.f7, hI.f8, hI.f9, hI.f10, hI.f11, hI.f12, hI.f13, hI.f14, hI.f15, hI.f16, hI.f17, hI.f18, hI.f19, hI.f20, hI.f21, hI.f22, hI.f23, hI.f24, hI.f25, hI.f26, hI.f27, hI.f28, hI.f29, hI.f30, hI.f31, hI.f32, hI.f33, hI.f34, hI.f35, hI.f36, hI.f37, ?_, hI.f39, hI.f40, hI.f41, hI.f42, hI.f43, hI.f44, hI.f45, hI.f46, hI.f47, hI.f48, hI.f49, hI.f50, hI.f51, hI.f52, hI.f53, hI.f54, hI.f55, hI.f56, hI.f57, hI.f58, hI.f59, hI.f60, hI.f61, hI.f62, hI.f63, hI.f64, hI.f65, hI.f66, hI.f67, hI.f68, hI.f69, hI.f70, hI.f71⟩ <;> (first | exact fun _ => rfl | skip))
    | (refine ⟨?_, ?_, ?_, ?_, ?_, ?_, ?_, ?_, ?_, ?_, ?_, ?_, ?_, ?_, ?_, ?_, ?_, ?_, ?_, ?_, ?_, ?_, ?_, ?_, ?_, ?_, ?_, ?_, ?_, ?_, ?_, ?_, ?_, ?_, ?_, ?_, ?_, ?_, ?_, ?_, ?_, ?_, ?_, ?_, ?_, ?_, ?_, ?_, ?_, ?_, ?_, ?_, ?_, ?_, ?_, ?_, ?_, ?_, ?_, ?_, ?_, ?_, ?_, ?_, ?_, ?_, ?_, ?_, ?_, ?_, ?_, ?_, ?_⟩ <;> (first | exact hI.x | exact hI.f0 | exact hI.f1 | exact hI.f2 | exact hI.f3 | exact hI.f4 | exact hI.f5 | exact hI.f6 | exact hI.f7 | exact hI.f8 | exact hI.f9 | exact hI.f10 | exact hI.f11 | exact hI.f12 | exact hI.f13 | exact hI.f14 | exact hI.f15 | exact hI.f16 | exact hI.f17 | exact hI.f18 | exact hI.f19 | exact hI.f20 | exact hI.f21 | exact hI.f22 | exact hI.f23 | exact hI.f24 | exact hI.f25 | exact hI.f26 | exact hI.f27 | exact hI.f28 | exact hI.f29 | exact hI.f30 | exact hI.f31 | exact hI.f32 | exact hI.f33 | exact hI.f34 | exact hI.f35 | exact hI.f36 | exact hI.f37 | exact hI.f38 | exact hI.f39 | exact hI.f40 | exact hI.f41 | exact hI.f42 | exact hI.f43 | exact hI.f44 | exact hI.f45 | exact hI.f46 | exact hI.f47 | exact hI.f48 | exact hI.f49 | exact hI.f50 | exact hI.f51 | exact hI.f52 | exact hI.f53 | exact hI.f54 | exact hI.f55 | exact hI.f56 | exact hI.f57 | exact hI.f58 | exact hI.f59 | exact hI.f60 | exact hI.f61 | exact hI.f62 | exact hI.f63 | exact hI.f64 | exact hI.f65 | exact hI.f66 | exact hI.f67 | exact hI.f68 | exact hI.f69 | exact hI.f70 | exact hI.f71 | exact fun _ => rfl | skip))
  · intro L us wx K a ha hp hd hun hI hK
    have HX := hI.x
    have u36 := hI.f36 (hp 36 (by kernel_rfl))
    have u38 := hI.f38 (hp 38 (by kernel_rfl))
    clear hp HX
    replace hd := Lib.hid hd
    simp only [u36, u38] at ha
    subst ha
    simp only [Act.put, List.setIfInBounds_toArray, List.set_cons_succ, List.set_cons_zero] at hK
    go_simp
    refine hK _ _ ?_
    first
    | (refine ⟨hI.x, hI.f0, hI.f1, hI.f2, hI.f3, hI.f4, hI.f5, hI.f6, hI.f7, hI.f8, hI.f9, hI.f10, hI.f11, hI.f12, hI.f13, hI.f14, hI.f15, hI.f16, hI.f17, hI.f18, hI.f19, hI.f20, hI.f21, hI.f22, hI.f23, hI.f24, hI.f25, hI.f26, hI.f27, hI.f28, hI.f29, hI.f30, hI.f31, hI.f32, hI.f33, hI.f34, hI.f35, hI.f36, hI.f37, hI.f38, ?_, hI.f40, hI.f41, hI.f42, hI.f43, hI.f44, hI.f45, hI.f46, hI.f47, hI.f48, hI.f49, hI.f50, hI.f51, hI.f52, hI.f53, hI.f54, hI.f55, hI.f56, hI.f57, hI.f58, hI.f59, hI.f60, hI.f61, hI.f62, hI.f63, hI.f64, hI.f65, hI.f66, hI.f67, hI.f68, hI.f69, hI.f70, hI.f71⟩ <;> (first | exact fun _ => rfl | skip))
    | (refine ⟨?_, ?_, ?_, ?_, ?_, ?_, ?_, ?_, ?_, ?_, ?_, ?_, ?_, ?_, ?_, ?_, ?_, ?_, ?_, ?_, ?_, ?_, ?_, ?_, ?_, ?_, ?_, ?_, ?_, ?_, ?_, ?_, ?_, ?_, ?_, ?_, ?_, ?_, ?_, ?_, ?_, ?_, ?_, ?_, ?_, ?_, ?_, ?_, ?_, ?_, ?_, ?_, ?_, ?_, ?_, ?_, ?_, ?_, ?_, ?_, ?_, ?_, ?_, ?_, ?_, ?_, ?_, ?_, ?_, ?_, ?_, ?_, ?_⟩ <;> (first | exact hI.x | exact hI.f0 | exact hI.f1 | exact hI.f2 | exact hI.f3 | exact hI.f4 | exact hI.f5 | exact hI.f6 | exact hI.f7 | exact hI.f8 | exact hI.f9 | exact hI.f10 | exact hI.f11 | exact hI.f12 | exact hI.f13 | exact hI.f14 | exact hI.f15 | exact hI.f16 | exact hI.f17 | exact hI.f18 | exact hI.f19 | exact hI.f20 | exact hI.f21 | exact hI.f22 | exact hI.f23 | exact hI.f24 | exact hI.f25 | exact hI.f26 | exact hI.f27 | exact hI.f28 | exact hI.f29 | exact hI.f30 | exact hI.f31 | exact hI.f32 | exact hI.f33 | exact hI.f34 | exact hI.f35 | exact hI.f36 | exact hI.f37 | exact hI.f38 | exact hI.f39 | exact hI.f40 | exact hI.f41 | exact hI.f42 | exact hI.f43 | exact hI.f44 | exact hI.f45 | exact hI.f46 | exact hI.f47 | exact hI.f48 | exact hI.f49 | exact hI.f50 | exact hI.f51 | exact hI.f52 | exact hI.f53 | exact hI.f54 | exact hI.f55 | exact hI.f56 | exact hI.f57 | exact hI.f58 | exact hI.f59 | exact hI.f60 | exact hI.f61 | exact hI.f62 | exact hI.f63 | exact hI.f64 | exact hI.f65 | exact hI.f66 | exact hI.f67 | exact hI.f68 | exact hI.f69 | exact hI.f70 | exact hI.f71 | exact fun _ => rfl | skip))
  · intro L us wx K a ha hp hd hun hI hK
    have HX := hI.x
    have u39 := hI.f39 (hp 39 (by kernel_rfl))
    clear hp HX
    replace hd := Lib.hid hd
    simp only [u39] at ha
    subst ha
    simp only [Act.put, List.setIfInBounds_toArray, List.set_cons_succ, List.set_cons_zero] at hK
    go_simp
    refine hK _ _ ?_
    first
    | (refine ⟨hI.x, hI.f0, hI.f1, hI.f2, hI.f3, hI.f4, hI.f5, hI.f6, hI.f7, hI.f8, hI.f9, hI.f10, hI.f11, hI.f12, hI.f13, hI.f14, hI.f15, hI.f16, hI.f17, hI.f18, hI.f19, hI.f20, hI.f21, hI.f22, hI.f23, hI.f24, hI.f25, hI.f26, hI.f27, hI.f28, hI.f29, hI.f30, hI.f31, hI.f32, hI.f33, hI.f34, hI.f35, hI.f36, hI.f37, hI.f38, hI.f39, ?_, hI.f41, hI.f42, hI.f43, hI.f44, hI.f45, hI.f46, hI.f47, hI.f48, hI.f49, hI.f50, hI.f51, hI.f52, hI.f53, hI.f54, hI.f55, hI.f56, hI.f57, hI.f58, hI.f59, hI.f60, hI.f61, hI.f62, hI.f63, hI.f64, hI.f65, hI.f66, hI.f67, hI.f68, hI.f69, hI.f70, hI.f71⟩ <;> (first | exact fun _ => rfl | skip))
    | (refine ⟨?_, ?_, ?_, ?_, ?_, ?_, ?_, ?_, ?_, ?_, ?_, ?_, ?_, ?_, ?_, ?_, ?_, ?_, ?_, ?_, ?_, ?_, ?_, ?_, ?_, ?_, ?_, ?_, ?_, ?_, ?_, ?_, ?_, ?_, ?_, ?_, ?_, ?_, ?_, ?_, ?_, ?_, ?_, ?_, ?_, ?_, ?_, ?_, ?_, ?_, ?_, ?_, ?_, ?_, ?_, ?_, ?_, ?_, ?_, ?_, ?_, ?_, ?_, ?_, ?_, ?_, ?_, ?_, ?_, ?_, ?_, ?_, ?_⟩ <;> (first | exact hI.x | exact hI.f0 | exact hI.f1 | exact hI.f2 | exact hI.f3 | exact hI.f4 | exact hI.f5 | exact hI.f6 | exact hI.f7 | exact hI.f8 | exact hI.f9 | exact hI.f10 | exact hI.f11 | exact hI.f12 | exact hI.f13 | exact hI.f14 | exact hI.f15 | exact hI.f16 | exact hI.f17 | exact hI.f18 | exact hI.f19 | exact hI.f20 | exact hI.f21 | exact hI.f22 | exact hI.f23 | exact hI.f24 | exact hI.f25 | exact hI.f26 | exact hI.f27 | exact hI.f28 | exact hI.f29 | exact hI.f30 | exact hI.f31 | exact hI.f32 | exact hI.f33 | exact hI.f34 | exact hI.f35 | exact hI.f36 | exact hI.f37 | exact hI.f38 | exact hI.f39 | exact hI.f40 | exact hI.f41 | exact hI.f42 | exact hI.f43 | exact hI.f44 | exact hI.f45 | exact hI.f46 | exact hI.f47 | exact hI.f48 | exact hI.f49 | exact hI.f50 | exact hI.f51 | exact hI.f52 | exact hI.f53 | exact hI.f54 | exact hI.f55 | exact hI.f56 | exact hI.f57 | exact hI.f58 | exact hI.f59 | exact hI.f60 | exact hI.f61 | exact hI.f62 | exact hI.f63 | exact hI.f64 | exact hI.f65 | exact hI.f66 | exact hI.f67 | exact hI.f68 | exact hI.f69 | exact hI.f70 | exact hI.f71 | exact fun _ => rfl | skip))
  · intro L us wx K a ha hp hd hun hI hK
    have HX := hI.x
    have u40 := hI.f40 (hp 40 (by kernel_rfl))
    clear hp HX
    replace hd := Lib.hid hd
    simp only [u40] at ha
    subst ha
    simp only [Act.put, List.setIfInBounds_toArray, List.set_cons_succ, List.set_cons_zero] at hK
    go_simp
    refine hK _ _ ?_
    first
    | (refine ⟨hI.x, hI.f0, hI.f1, hI.f2, hI.f3, hI.f4, hI.f5, hI.f6, hI.f7, hI.f8, hI.f9, hI.f10, hI.f11, hI.f12, hI.f13, hI.f14, hI.f15, hI.f16, hI.f17, hI.f18, hI.f19, hI.f20, hI.f21, hI.f22, hI.f23, hI.f24, hI.f25, hI.f26, hI.f27, hI.f28, hI.f29, hI.f30, hI.f31, hI.f32, hI.f33, hI.f34, hI.f35, hI.f36, hI.f37, hI.f38, hI.f39, hI.f40, ?_, hI.f42, hI.f43, hI.f44, hI.f45, hI.f46, hI.f47, hI.f48, hI.f49, hI.f50, hI.f51, hI.f52, hI.f53, hI.f54, hI.f55, hI.f56, hI.f57, hI.f58, hI.f59, hI.f60, hI.f61, hI.f62, hI.f63, hI.f64, hI.f65, hI.f66, hI.f67, hI.f68, hI.f69, hI.f70, hI.f71⟩ <;> (first | exact fun _ => rfl | skip))
    | (refine ⟨?_, ?_, ?_, ?_, ?_, ?_, ?_, ?_, ?_, ?_, ?_, ?_, ?_, ?_, ?_, ?_, ?_, ?_, ?_, ?_, ?_, ?_, ?_, ?_, ?_, ?_, ?_, ?_, ?_, ?_, ?_, ?_, ?_, ?_, ?_, ?_, ?_, ?_, ?_, ?_, ?_, ?_, ?_, ?_, ?_, ?_, ?_, ?_, ?_, ?_, ?_, ?_, ?_, ?_, ?_, ?_, ?_, ?_, ?_, ?_, ?_, ?_, ?_, ?_, ?_, ?_, ?_, ?_, ?_, ?_, ?_, ?_, ?_⟩ <;> (first | exact hI.x | exact hI.f0 | exact hI.f1 | exact hI.f2 | exact hI.f3 | exact hI.f4 | exact hI.f5 | exact hI.f6 | exact hI.f7 | exact hI.f8 | exact hI.f9 | exact hI.f10 | exact hI.f11 | exact hI.f12 | exact hI.f13 | exact hI.f14 | exact hI.f15 | exact hI.f16 | exact hI.f17 | exact hI.f18 | exact hI.f19 | exact hI.f20 | exact hI.f21 | exact hI.f22 | exact hI.f23 | exact hI.f24 | exact hI.f25 | exact hI.f26 | exact hI.f27 | exact hI.f28 | exact hI.f29 | exact hI.f30 | exact hI.f31 | exact hI.f32 | exact hI.f33 | exact hI.f34 | exact hI.f35 | exact hI.f36 | exact hI.f37 | exact hI.f38 | exact hI.f39 | exact hI.f40 | exact hI.f41 | exact hI.f42 | exact hI.f43 | exact hI.f44 | exact hI.f45 | exact hI.f46 | exact hI.f47 | exact hI.f48 | exact hI.f49 | exact hI.f50 | exact hI.f51 | exact hI.f52 | exact hI.f53 | exact hI.f54 | exact hI.f55 | exact hI.f56 | exact hI.f57 | exact hI.f58 | exact hI.f59 | exact hI.f60 | exact hI.f61 | exact hI.f62 | exact hI.f63 | exact hI.f64 | exact hI.f65 | exact hI.f66 | exact hI.f67 | exact hI.f68 | exact hI.f69 | exact hI.f70 | exact hI.f71 | exact fun _ => rfl | skip))
  · intro L us wx K a ha hp hd hun hI hK
    have HX := hI.x
    have u40 := hI.f40 (hp 40 (by kernel_rfl))
    have u41 := hI.f41 (hp 41 (by kernel_rfl))
    have bb := (HB33.out.ext (Em.trans HX)).cell
    clear hp HX
    replace hd := Lib.hid hd
    simp only [u40, u41] at ha
    subst ha
    simp only [Act.put, List.setIfInBounds_toArray, List.set_cons_succ, List.set_cons_zero] at hK
    go_simp
    refine hK _ _ ?_
    first
    | (refine ⟨hI.x, hI.f0, hI.f1, hI.f2, hI.f3, hI.f4, hI.f5, hI.f6, hI.f7, hI.f8, hI.f9, hI.f10, hI.f11, hI.f12, hI.f13, hI.f14, hI.f15, hI.f16, hI.f17, hI.f18, hI.f19, hI.f20, hI.f21, hI.f22, hI.f23, hI.f24, hI.f25, hI.f26, hI.f27, hI.f28, hI.f29, hI.f30, hI.f31, hI.f32, hI.f33, hI.f34, hI.f35, hI.f36, hI.f37, hI.f38, hI.f39, hI.f40, hI.f41, ?_, hI.f43, hI.f44, hI.f45, hI.f46, hI.f47, hI.f48, hI.f49, hI.f50, hI.f51, hI.f52, hI.f53, hI.f54, hI.f55, hI.f56, hI.f57, hI.f58, hI.f59, hI.f60, hI.f61, hI.f62, hI.f63, hI.f64, hI.f65, hI.f66, hI.f67, hI.f68, hI.f69, hI.f70, hI.f71⟩ <;> (first | exact fun _ => rfl | skip))
    | (refine ⟨?_, ?_, ?_, ?_, ?_, ?_, ?_, ?_, ?_, ?_, ?_, ?_, ?_, ?_, ?_, ?_, ?_, ?_, ?_, ?_, ?_, ?_, ?_, ?_, ?_, ?_, ?_, ?_, ?_, ?_, ?_, ?_, ?_, ?_, ?_, ?_, ?_, ?_, ?_, ?_, ?_, ?_, ?_, ?_, ?_, ?_, ?_, ?_, ?_, ?_, ?_, ?_, ?_, ?_, ?_, ?_, ?_, ?_, ?_, ?_, ?_, ?_, ?_, ?_, ?_, ?_, ?_, ?_, ?_, ?_, ?_, ?_, ?_⟩ <;> (first | exact hI.x | exact hI.f0 | exact hI.f1 | exact hI.f2 | exact hI.f3 | exact hI.f4 | exact hI.f5 | exact hI.f6 | exact hI.f7 | exact hI.f8 | exact hI.f9 | exact hI.f10 | exact hI.f11 | exact hI.f12 | exact hI.f13 | exact hI.f14 | exact hI.f15 | exact hI.f16 | exact hI.f17 | exact hI.f18 | exact hI.f19 | exact hI.f20 | exact hI.f21 | exact hI.f22 | exact hI.f23 | exact hI.f24 | exact hI.f25 | exact hI.f26 | exact hI.f27 | exact hI.f28 | exact hI.f29 | exact hI.f30 | exact hI.f31 | exact hI.f32 | exact hI.f33 | exact hI.f34 | exact hI.f35 | exact hI.f36 | exact hI.f37 | exact hI.f38 | exact hI.f39 | exact hI.f40 | exact hI.f41 | exact hI.f42 | exact hI.f43 | exact hI.f44 | exact hI.f45 | exact hI.f46 | exact hI.f47 | exact hI.f48 | exact hI.f49 | exact hI.f50 | exact hI.f51 | exact hI.f52 | exact hI.f53 | exact hI.f54 | exact hI.f55 | exact hI.f56 | exact hI.f57 | exact hI.f58 | exact hI.f59 | exact hI.f60 | exact hI.f61 | exact hI.f62 | exact hI.f63 | exact hI.f64 | exact hI.f65 | exact hI.f66 | exact hI.f67 | exact hI.f68 | exact hI.f69 | exact hI.f70 | exact hI.f71 | exact fun _ => rfl | skip))
  · intro L us wx K a ha hp hd hun hI hK
    have HX := hI.x
    have u40 := hI.f40 (hp 40 (by kernel_rfl))
    have u42 := hI.f42 (hp 42 (by kernel_rfl))
    clear hp HX
    replace hd := Lib.hid hd
    simp only [u40, u42] at ha
    subst ha
    simp only [Act.put, List.setIfInBounds_toArray, List.set_cons_succ, List.set_cons_zero] at hK
    go_simp
    refine hK _ _ ?_
    first
    | (refine ⟨hI.x, hI.f0, hI.f1, hI.f2, hI.f3, hI.f4, hI.f5, hI.f6, hI.f7, hI.f8, hI.f9, hI.f10, hI.f11, hI.f12, hI.f13, hI.f14, hI.f15, hI.f16, hI.f17, hI.f18, hI.f19, hI.f20, hI.f21, hI.f22, hI.f23, hI.f24, hI.f25, hI.f26, hI.f27, hI.f28, hI.f29, hI.f30, hI.f31, hI.f32, hI.f33, hI.f34, hI.f35, hI.f36, hI.f37, hI.f38, hI.f39, hI.f40, hI.f41, hI.f42, ?_, hI.f44, hI.f45, hI.f46, hI.f47, hI.f48, hI.f49, hI.f50, hI.f51, hI.f52, hI.f53, hI.f54, hI.f55, hI.f56, hI.f57, hI.f58, hI.f59, hI.f60, hI.f61, hI.f62, hI.f63, hI.f64, hI.f65, hI.f66, hI.f67, hI.f68, hI.f69, hI.f70, hI.f71⟩ <;> (first | exact fun _ => rfl | skip))
    | (refine ⟨?_, ?_, ?_, ?_, ?_, ?_, ?_, ?_, ?_, ?_, ?_, ?_, ?_, ?_, ?_, ?_, ?_, ?_, ?_, ?_, ?_, ?_, ?_, ?_, ?_, ?_, ?_, ?_, ?_, ?_, ?_, ?_, ?_, ?_, ?_, ?_, ?_, ?_, ?_, ?_, ?_, ?_, ?_, ?_, ?_, ?_, ?_, ?_, ?_, ?_, ?_, ?_, ?_, ?_, ?_, ?_, ?_, ?_, ?_, ?_, ?_, ?_, ?_, ?_, ?_, ?_, ?_, ?_, ?_, ?_, ?_, ?_, ?_⟩ <;> (first | exact hI.x | exact hI.f0 | exact hI.f1 | exact hI.f2 | exact hI.f3 | exact hI.f4 | exact hI.f5 | exact hI.f6 | exact hI.f7 | exact hI.f8 | exact hI.f9 | exact hI.f10 | exact hI.f11 | exact hI.f12 | exact hI.f13 | exact hI.f14 | exact hI.f15 | exact hI.f16 | exact hI.f17 | exact hI.f18 | exact hI.f19 | exact hI.f20 | exact hI.f21 | exact hI.f22 | exact hI.f23 | exact hI.f24 | exact hI.f25 | exact hI.f26 | exact hI.f27 | exact hI.f28 | exact hI.f29 | exact hI.f30 | exact hI.f31 | exact hI.f32 | exact hI.f33 | exact hI.f34 | exact hI.f35 | exact hI.f36 | exact hI.f37 | exact hI.f38 | exact hI.f39 | exact hI.f40 | exact hI.f41 | exact hI.f42 | exact hI.f43 | exact hI.f44 | exact hI.f45 | exact hI.f46 | exact hI.f47 | exact hI.f48 | exact hI.f49 | exact hI.f50 | exact hI.f51 | exact hI.f52 | exact hI.f53 | exact hI.f54 | exact hI.f55 | exact hI.f56 | exact hI.f57 | exact hI.f58 | exact hI.f59 | exact hI.f60 | exact hI.f61 | exact hI.f62 | exact hI.f63 | exact hI.f64 | exact hI.f65 | exact hI.f66 | exact hI.f67 | exact hI.f68 | exact hI.f69 | exact hI.f70 | exact hI.f71 | exact fun _ => rfl | skip))
  · intro L us wx K a ha hp hd hun hI hK
    have HX := hI.x
    have u40 := hI.f40 (hp 40 (by kernel_rfl))
    have u43 := hI.f43 (hp 43 (by kernel_rfl))
    clear hp HX
    replace hd := Lib.hid hd
    simp only [u40, u43] at ha
    subst ha
    simp only [Act.put, List.setIfInBounds_toArray, List.set_cons_succ, List.set_cons_zero] at hK
    go_simp
    refine hK _ _ ?_
    first
    | (refine ⟨hI.x, hI.f0, hI.f1, hI.f2, hI.f3, hI.f4, hI.f5, hI.f6, hI.f7, hI.f8, hI.f9, hI.f10, hI.f11, hI.f12, hI.f13, hI.f14, hI.f15, hI.f16, hI.f17, hI.f18, hI.f19, hI.f20, hI.f21, hI.f22, hI.f23, hI.f24, hI.f25, hI.f26, hI.f27, hI.f28, hI.f29, hI.f30, hI.f31, hI.f32, hI.f33, hI.f34, hI.f35, hI.f36, hI.f37, hI.f38, hI.f39, hI.f40, hI.f41, hI.f42, hI.f43, ?_, hI.f45, hI.f46, hI.f47, hI.f48, hI.f49, hI.f50, hI.f51, hI.f52, hI.f53, hI.f54, hI.f55, hI.f56, hI.f57, hI.f58, hI.f59, hI.f60, hI.f61, hI.f62, hI.f63, hI.f64, hI.f65, hI.f66, hI.f67, hI.f68, hI.f69, hI.f70, hI.f71⟩ <;> (first | exact fun _ => rfl | skip))
    | (refine ⟨?_, ?_, ?_, ?_, ?_, ?_, ?_, ?_, ?_, ?_, ?_, ?_, ?_, ?_, ?_, ?_, ?_, ?_, ?_, ?_, ?_, ?_, ?_, ?_, ?_, ?_, ?_, ?_, ?_, ?_, ?_, ?_, ?_, ?_, ?_, ?_, ?_, ?_, ?_, ?_, ?_, ?_, ?_, ?_, ?_, ?_, ?_, ?_, ?_, ?_, ?_, ?_, ?_, ?_, ?_, ?_, ?_, ?_, ?_, ?_, ?_, ?_, ?_, ?_, ?_, ?_, ?_, ?_, ?_, ?_, ?_, ?_, ?_⟩ <;> (first | exact hI.x | exact hI.f0 | exact hI.f1 | exact hI.f2 | exact hI.f3 | exact hI.f4 | exact hI.f5 | exact hI.f6 | exact hI.f7 | exact hI.f8 | exact hI.f9 | exact hI.f10 | exact hI.f11 | exact hI.f12 | exact hI.f13 | exact hI.f14 | exact hI.f15 | exact hI.f16 | exact hI.f17 | exact hI.f18 | exact hI.f19 | exact hI.f20 | exact hI.f21 | exact hI.f22 | exact hI.f23 | exact hI.f24 | exact hI.f25 | exact hI.f26 | exact hI.f27 | exact hI.f28 | exact hI.f29 | exact hI.f30 | exact hI.f31 | exact hI.f32 | exact hI.f33 | exact hI.f34 | exact hI.f35 | exact hI.f36 | exact hI.f37 | exact hI.f38 | exact hI.f39 | exact hI.f40 | exact hI.f41 | exact hI.f42 | exact hI.f43 | exact hI.f44 | exact hI.f45 | exact hI.f46 | exact hI.f47 | exact hI.f48 | exact hI.f49 | exact hI.f50 | exact hI.f51 | exact hI.f52 | exact hI.f53 | exact hI.f54 | exact hI.f55 | exact hI.f56 | exact hI.f57 | exact hI.f58 | exact hI.f59 | exact hI.f60 | exact hI.f61 | exact hI.f62 | exact hI.f63 | exact hI.f64 | exact hI.f65 | exact hI.f66 | exact hI.f67 | exact hI.f68 | exact hI.f69 | exact hI.f70 | exact hI.f71 | exact fun _ => rfl | skip))
  · intro L us wx K a ha hp hd hun hI hK
    have HX := hI.x
    have u40 := hI.f40 (hp 40 (by kernel_rfl))
    have u44 := hI.f44 (hp 44 (by kernel_rfl))
    clear hp HX
    replace hd := Lib.hid hd
    simp only [u40, u44] at ha
    subst ha
    simp only [Act.put, List.setIfInBounds_toArray, List.set_cons_succ, List.set_cons_zero] at hK
    go_simp
    refine hK _ _ ?_
    first
    | (refine ⟨hI.x, hI.f0, hI.f1, hI.f2, hI.f3, hI.f4, hI.f5, hI.f6, hI.f7, hI.f8, hI.f9, hI.f10, hI.f11, hI.f12, hI.f13, hI.f14, hI.f15, hI.f16, hI.f17, hI.f18, hI.f19, hI.f20, hI.f21, hI.f22, hI.f23, hI.f24, hI.f25, hI.f26, hI.f27, hI.f28, hI.f29, hI.f30, hI.f31, hI.f32, hI.f33, hI.f34, hI.f35, hI.f36, hI.f37, hI.f38, hI.f39, hI.f40, hI.f41, hI.f42, hI.f43, hI.f44, ?_, hI.f46, hI.f47, hI.f48, hI.f49, hI.f50, hI.f51, hI.f52, hI.f53, hI.f54, hI.f55, hI.f56, hI.f57, hI.f58, hI.f59, hI.f60, hI.f61, hI.f62, hI.f63, hI.f64, hI.f65, hI.f66, hI.f67, hI.f68, hI.f69, hI.f70, hI.f71⟩ <;> (first | exact fun _ => rfl | skip))
    | (refine ⟨?_, ?_, ?_, ?_, ?_, ?_, ?_, ?_, ?_, ?_, ?_, ?_, ?_, ?_, ?_, ?_, ?_, ?_, ?_, ?_, ?_, ?_, ?_, ?_, ?_, ?_, ?_, ?_, ?_, ?_, ?_, ?_, ?_, ?_, ?_, ?_, ?_, ?_, ?_, ?_, ?_, ?_, ?_, ?_, ?_, ?_, ?_, ?_, ?_, ?_, ?_, ?_, ?_, ?_, ?_, ?_, ?_, ?_, ?_, ?_, ?_, ?_, ?_, ?_, ?_, ?_, ?_, ?_, ?_, ?_, ?_, ?_, ?_⟩ <;> (first | exact hI.x | exact hI.f0 | exact hI.f1 | exact hI.f2 | exact hI.f3 | exact hI.f4 | exact hI.f5 | exact hI.f6 | exact hI.f7 | exact hI.f8 | exact hI.f9 | exact hI.f10 | exact hI.f11 | exact hI.f12 | exact hI.f13 | exact hI.f14 | exact hI.f15 | exact hI.f16 | exact hI.f17 | exact hI.f18 | exact hI.f19 | exact hI.f20 | exact hI.f21 | exact hI.f22 | exact hI.f23 | exact hI.f24 | exact hI.f25 | exact hI.f26 | exact hI.f27 | exact hI.f28 | exact hI.f29 | exact hI.f30 | exact hI.f31 | exact hI.f32 | exact hI.f33 | exact hI.f34 | exact hI.f35 | exact hI.f36 | exact hI.f37 | exact hI.f38 | exact hI.f39 | exact hI.f40 | exact hI.f41 | exact hI.f42 | exact hI.f43 | exact hI.f44 | exact hI.f45 | exact hI.f46 | exact hI.f47 | exact hI.f48 | exact hI.f49 | exact hI.f50 | exact hI.f51 | exact hI.f52 | exact hI.f53 | exact hI.f54 | exact hI.f55 | exact hI.f56 | exact hI.f57 | exact hI.f58 | exact hI.f59 | exact hI.f60 | exact hI.f61 | exact hI.f62 | exact hI.f63 | exact hI.f64 | exact hI.f65 | exact hI.f66 | exact hI.f67 | exact hI.f68 | exact hI.f69 | exact hI.f70 | exact hI.f71 | exact fun _ => rfl | skip))
  · intro L us wx K a ha hp hd hun hI hK
    have HX := hI.x
    have u45 := hI.f45 (hp 45 (by kernel_rfl))
    clear hp HX
    replace hd := Lib.hid hd
    simp only [u45] at ha
    subst ha
    simp only [Act.put, List.setIfInBounds_toArray, List.set_cons_succ, List.set_cons_zero] at hK
    go_simp
    refine hK _ _ ?_
    first
    | (refine ⟨hI.x, hI.f0, hI.f1, hI.f2, hI.f3, hI.f4, hI.f5, hI.f6, hI.f7, hI.f8, hI.f9, hI.f10, hI.f11, hI.f12, hI.f13, hI.f14, hI.f15, hI.f16, hI.f17, hI.f18, hI.f19, hI.f20, hI.f21, hI.f22, hI.f23, hI.f24, hI.f25, hI.f26, hI.f27, hI.f28, hI.f29, hI.f30, hI.f31, hI.f32, hI.f33, hI.f34, hI.f35, hI.f36, hI.f37, hI.f38, hI.f39, hI.f40, hI.f41, hI.f42, hI.f43, hI.f44, hI.f45, ?_, hI.f47, hI.f48, hI.f49, hI.f50, hI.f51, hI.f52, hI.f53, hI.f54, hI.f55, hI.f56, hI.f57, hI.f58, hI.f59, hI.f60, hI.f61, hI.f62, hI.f63, hI.f64, hI.f65, hI.f66, hI.f67, hI.f68, hI.f69, hI.f70, hI.f71⟩ <;> (first | exact fun _ => rfl | skip))
    | (refine ⟨?_, ?_, ?_, ?_, ?_, ?_, ?_, ?_, ?_, ?_, ?_, ?_, ?_, ?_, ?_, ?_, ?_, ?_, ?_, ?_, ?_, ?_, ?_, ?_, ?_, ?_, ?_, ?_, ?_, ?_, ?_, ?_, ?_, ?_, ?_, ?_, ?_, ?_, ?_, ?_, ?_, ?_, ?_, ?_, ?_, ?_, ?_, ?_, ?_, ?_, ?_, ?_, ?_, ?_, ?_, ?_, ?_, ?_, ?_, ?_, ?_, ?_, ?_, ?_, ?_, ?_, ?_, ?_, ?_, ?_, ?_, ?_, ?_⟩ <;> (first | exact hI.x | exact hI.f0 | exact hI.f1 | exact hI.f2 | exact hI.f3 | exact hI.f4 | exact hI.f5 | exact hI.f6 | exact hI.f7 | exact hI.f8 | exact hI.f9 | exact hI.f10 | exact hI.f11 | exact hI.f12 | exact hI.f13 | exact hI.f14 | exact hI.f15 | exact hI.f16 | exact hI.f17 | exact hI.f18 | exact hI.f19 | exact hI.f20 | exact hI.f21 | exact hI.f22 | exact hI.f23 | exact hI.f24 | exact hI.f25 | exact hI.f26 | exact hI.f27 | exact hI.f28 | exact hI.f29 | exact hI.f30 | exact hI.f31 | exact hI.f32 | exact hI.f33 | exact hI.f34 | exact hI.f35 | exact hI.f36 | exact hI.f37 | exact hI.f38 | exact hI.f39 | exact hI.f40 | exact hI.f41 | exact hI.f42 | exact hI.f43 | exact hI.f44 | exact hI.f45 | exact hI.f46 | exact hI.f47 | exact hI.f48 | exact hI.f49 | exact hI.f50 | exact hI.f51 | exact hI.f52 | exact hI.f53 | exact hI.f54 | exact hI.f55 | exact hI.f56 | exact hI.f57 | exact hI.f58 | exact hI.f59 | exact hI.f60 | exact hI.f61 | exact hI.f62 | exact hI.f63 | exact hI.f64 | exact hI.f65 | exact hI.f66 | exact hI.f67 | exact hI.f68 | exact hI.f69 | exact hI.f70 | exact hI.f71 | exact fun _ => rfl | skip))
  · intro L us wx K a ha hp hd hun hI hK
    have HX := hI.x
    have u46 := hI.f46 (hp 46 (by kernel_rfl))
    clear hp HX
    replace hd := Lib.hid hd
    simp only [u46] at ha
    subst ha
    simp only [Act.put, List.setIfInBounds_toArray, List.set_cons_succ, List.set_cons_zero] at hK
    go_simp
    refine hK _ _ ?_
    first
    | (refine ⟨hI.x, hI.f0, hI.f1, hI.f2, hI.f3, hI.f4, hI.f5, hI.f6, hI.f7, hI.f8, hI.f9, hI.f10, hI.f11, hI.f12, hI.f13, hI.f14, hI.f15, hI.f16, hI.f17, hI.f18, hI.f19, hI.f20, hI.f21, hI.f22, hI.f23, hI.f24, hI.f25, hI.f26, hI.f27, hI.f28, hI.f29, hI.f30, hI.f31, hI.f32, hI.f33, hI.f34, hI.f35, hI.f36, hI.f37, hI.f38, hI.f39, hI.f40, hI.f41, hI.f42, hI.f43, hI.f44, hI.f45, hI.f46, ?_, hI.f48, hI.f49, hI.f50, hI.f51, hI.f52, hI.f53, hI.f54, hI.f55, hI.f56, hI.f57, hI.f58, hI.f59, hI.f60, hI.f61, hI.f62, hI.f63, hI.f64, hI.f65, hI.f66, hI.f67, hI.f68, hI.f69, hI.f70, hI.f71⟩ <;> (first | exact fun _ => rfl | skip))
    | (refine ⟨?_, ?_, ?_, ?_, ?_, ?_, ?_, ?_, ?_, ?_, ?_, ?_, ?_, ?_, ?_, ?_, ?_, ?_, ?_, ?_, ?_, ?_, ?_, ?_, ?_, ?_, ?_, ?_, ?_, ?_, ?_, ?_, ?_, ?_, ?_, ?_, ?_, ?_, ?_, ?_, ?_, ?_, ?_, ?_, ?_, ?_, ?_, ?_, ?_, ?_, ?_, ?_, ?_, ?_, ?_, ?_, ?_, ?_, ?_, ?_, ?_, ?_, ?_, ?_, ?_, ?_, ?_, ?_, ?_, ?_, ?_, ?_, ?_⟩ <;> (first | exact hI.x | exact hI.f0 | exact hI.f1 | exact hI.f2 | exact hI.f3 | exact hI.f4 | exact hI.f5 | exact hI.f6 | exact hI.f7 | exact hI.f8 | exact hI.f9 | exact hI.f10 | exact hI.f11 | exact hI.f12 | exact hI.f13 | exact hI.f14 | exact hI.f15 | exact hI.f16 | exact hI.f17 | exact hI.f18 | exact hI.f19 | exact hI.f20 | exact hI.f21 | exact hI.f22 | exact hI.f23 | exact hI.f24 | exact hI.f25 | exact hI.f26 | exact hI.f27 | exact hI.f28 | exact hI.f29 | exact hI.f30 | exact hI.f31 | exact hI.f32 | exact hI.f33 | exact hI.f34 | exact hI.f35 | exact hI.f36 | exact hI.f37 | exact hI.f38 | exact hI.f39 | exact hI.f40 | exact hI.f41 | exact hI.f42 | exact hI.f43 | exact hI.f44 | exact hI.f45 | exact hI.f46 | exact hI.f47 | exact hI.f48 | exact hI.f49 | exact hI.f50 | exact hI.f51 | exact hI.f52 | exact hI.f53 | exact hI.f54 | exact hI.f55 | exact hI.f56 | exact hI.f57 | exact hI.f58 | exact hI.f59 | exact hI.f60 | exact hI.f61 | exact hI.f62 | exact hI.f63 | exact hI.f64 | exact hI.f65 | exact hI.f66 | exact hI.f67 | exact hI.f68 | exact hI.f69 | exact hI.f70 | exact hI.f71 | exact fun _ => rfl | skip))
  · intro L us wx K a ha hp hd hun hI hK
    have HX := hI.x
    have u46 := hI.f46 (hp 46 (by kernel_rfl))
    have u47 := hI.f47 (hp 47 (by kernel_rfl))
    have bb := (HB33.out.ext (Em.trans HX)).cell
    clear hp HX
    replace hd := Lib.hid hd
    simp only [u46, u47] at ha
    subst ha
    simp only [Act.put, List.setIfInBounds_toArray, List.set_cons_succ, List.set_cons_zero] at hK
    go_simp
    refine hK _ _ ?_
    first
    | (refine ⟨hI.x, hI.f0, hI.f1, hI.f2, hI.f3, hI.f4, hI.f5, hI.f6, hI.f7, hI.f8, hI.f9, hI.f10, hI.f11, hI.f12, hI.f13, hI.f14, hI.f15, hI.f16, hI.f17, hI.f18, hI.f19, hI.f20, hI.f21, hI.f22, hI.f23, hI.f24, hI.f25, hI.f26, hI.f27, hI.f28, hI.f29, hI.f30, hI.f31, hI.f32, hI.f33, hI.f34, hI.f35, hI.f36, hI.f37, hI.f38, hI.f39, hI.f40, hI.f41, hI.f42, hI.f43, hI.f44, hI.f45, hI.f46, hI.f47, ?_, hI.f49, hI.f50, hI.f51, hI.f52, hI.f53, hI.f54, hI.f55, hI.f56, hI.f57, hI.f58, hI.f59, hI.f60, hI.f61, hI.f62, hI.f63, hI.f64, hI.f65, hI.f66, hI.f67, hI.f68, hI.f69, hI.f70, hI.f71⟩ <;> (first | exact fun _ => rfl | skip))
    | (refine ⟨?_, ?_, ?_, ?_, ?_, ?_, ?_, ?_, ?_, ?_, ?_, ?_, ?_, ?_, ?_, ?_, ?_, ?_, ?_, ?_, ?_, ?_, ?_, ?_, ?_, ?_, ?_, ?_, ?_, ?_, ?_, ?_, ?_, ?_, ?_, ?_, ?_, ?_, ?_, ?_, ?_, ?_, ?_, ?_, ?_, ?_, ?_, ?_, ?_, ?_, ?_, ?_, ?_, ?_, ?_, ?_, ?_, ?_, ?_, ?_, ?_, ?_, ?_, ?_, ?_, ?_, ?_, ?_, ?_, ?_, ?_, ?_, ?_⟩ <;> (first | exact hI.x | exact hI.f0 | exact hI.f1 | exact hI.f2 | exact hI.f3 | exact hI.f4 | exact hI.f5 | exact hI.f6 | exact hI.f7 | exact hI.f8 | exact hI.f9 | exact hI.f10 | exact hI.f11 | exact hI.f12 | exact hI.f13 | exact hI.f14 | exact hI.f15 | exact hI.f16 | exact hI.f17 | exact hI.f18 | exact hI.f19 | exact hI.f20 | exact hI.f21 | exact hI.f22 | exact hI.f23 | exact hI.f24 | exact hI.f25 | exact hI.f26 | exact hI.f27 | exact hI.f28 | exact hI.f29 | exact hI.f30 | exact hI.f31 | exact hI.f32 | exact hI.f33 | exact hI.f34 | exact hI.f35 | exact hI.f36 | exact hI.f37 | exact hI.f38 | exact hI.f39 | exact hI.f40 | exact hI.f41 | exact hI.f42 | exact hI.f43 | exact hI.f44 | exact hI.f45 | exact hI.f46 | exact hI.f47 | exact hI.f48 | exact hI.f49 | exact hI.f50 | exact hI.f51 | exact hI.f52 | exact hI.f53 | exact hI.f54 | exact hI.f55 | exact hI.f56 | exact hI.f57 | exact hI.f58 | exact hI.f59 | exact hI.f60 | exact hI.f61 | exact hI.f62 | exact hI.f63 | exact hI.f64 | exact hI.f65 | exact hI.f66 | exact hI.f67 | exact hI.f68 | exact hI.f69 | exact hI.f70 | exact hI.f71 | exact fun _ => rfl | skip))
  · intro L us wx K a ha hp hd hun hI hK
    have HX := hI.x
    have u46 := hI.f46 (hp 46 (by kernel_rfl))
    have u48 := hI.f48 (hp 48 (by kernel_rfl))
    clear hp HX
    replace hd := Lib.hid hd
    simp only [u46, u48] at ha
    subst ha
    simp only [Act.put, List.setIfInBounds_toArray, List.set_cons_succ, List.set_cons_zero] at hK
    go_simp
    refine hK _ _ ?_
    first
    | (refine ⟨hI.x, hI.f0, hI.f1, hI.f2, hI.f3, hI.f4, hI.f5, hI.f6, hI.f7, hI.f8, hI.f9, hI.f10, hI.f11, hI.f12, hI.f13, hI.f14, hI.f15, hI.f16, hI.f17, hI.f18, hI.f19, hI.f20, hI.f21, hI.f22, hI.f23, hI.f24, hI.f25, hI.f26, hI.f27, hI.f28, hI.f29, hI.f30, hI.f31, hI.f32, hI.f33, hI.f34, hI.f35, hI.f36, hI.f37, hI.f38, hI.f39, hI.f40, hI.f41, hI.f42, hI.f43, hI.f44, hI.f45, hI.f46, hI.f47, hI.f48, ?_, hI.f50, hI.f51, hI.f52, hI.f53, hI.f54, hI.f55, hI.f56, hI.f57, hI.f58, hI.f59, hI.f60, hI.f61, hI.f62, hI.f63, hI.f64, hI.f65, hI.f66, hI.f67, hI.f68, hI.f69, hI.f70, hI.f71⟩ <;> (first | exact fun _ => rfl | skip))
    | (refine ⟨?_, ?_, ?_, ?_, ?_, ?_, ?_, ?_, ?_, ?_, ?_, ?_, ?_, ?_, ?_, ?_, ?_, ?_, ?_, ?_, ?_, ?_, ?_, ?_, ?_, ?_, ?_, ?_, ?_, ?_, ?_, ?_, ?_, ?_, ?_, ?_, ?_, ?_, ?_, ?_, ?_, ?_, ?_, ?_, ?_, ?_, ?_, ?_, ?_, ?_, ?_, ?_, ?_, ?_, ?_, ?_, ?_, ?_, ?_, ?_, ?_, ?_, ?_, ?_, ?_, ?_, ?_, ?_, ?_, ?_, ?_, ?_, ?_⟩ <;> (first | exact hI.x | exact hI.f0 | exact hI.f1 | exact hI.f2 | exact hI.f3 | exact hI.f4 | exact hI.f5 | exact hI.f6 | exact hI.f7 | exact hI.f8 | exact hI.f9 | exact hI.f10 | exact hI.f11 | exact hI.f12 | exact hI.f13 | exact hI.f14 | exact hI.f15 | exact hI.f16 | exact hI.f17 | exact hI.f18 | exact hI.f19 | exact hI.f20 | exact hI.f21 | exact hI.f22 | exact hI.f23 | exact hI.f24 | exact hI.f25 | exact hI.f26 | exact hI.f27 | exact hI.f28 | exact hI.f29 | exact hI.f30 | exact hI.f31 | exact hI.f32 | exact hI.f33 | exact hI.f34 | exact hI.f35 | exact hI.f36 | exact hI.f37 | exact hI.f38 | exact hI.f39 | exact hI.f40 | exact hI.f41 | exact hI.f42 | exact hI.f43 | exact hI.f44 | exact hI.f45 | exact hI.f46 | exact hI.f47 | exact hI.f48 | exact hI.f49 | exact hI.f50 | exact hI.f51 | exact hI.f52 | exact hI.f53 | exact hI.f54 | exact hI.f55 | exact hI.f56 | exact hI.f57 | exact hI.f58 | exact hI.f59 | exact hI.f60 | exact hI.f61 | exact hI.f62 | exact hI.f63 | exact hI.f64 | exact hI.f65 | exact hI.f66 | exact hI.f67 | exact hI.f68 | exact hI.f69 | exact hI.f70 | exact hI.f71 | exact fun _ => rfl | skip))
  · intro L us wx K a ha hp hd hun hI hK
    have HX := hI.x
    have u46 := hI.f46 (hp 46 (by kernel_rfl))
    have u49 := hI.f49 (hp 49 (by kernel_rfl))
    have b0 := (Em.trans HX).cell Hm.out.2.1
    have b1 := (Em.trans HX).cell Hm.out.2.2.1
    have b2 := (Em.trans HX).cell Hm.out.2.2.2.1
    have b3 := (Em.trans HX).cell Hm.out.2.2.2.2.1
    have b4 := (Em.trans HX).cell Hm.out.2.2.2.2.2.1
    have b5 := (Em.trans HX).cell Hm.out.2.2.2.2.2.2
    clear hp HX
    replace hd := Lib.hid hd
    simp only [u46, u49] at ha
    subst ha
    simp only [Act.put, List.setIfInBounds_toArray, List.set_cons_succ, List.set_cons_zero] at hK
    go_simp
    refine hK _ _ ?_
    first
    | (refine ⟨hI.x, hI.f0, hI.f1, hI.f2, hI.f3, hI.f4, hI.f5, hI.f6, hI.f7, hI.f8, hI.f9, hI.f10, hI.f11, hI.f12, hI.f13, hI.f14, hI.f15, hI.f16, hI.f17, hI.f18, hI.f19, hI.f20, hI.f21, hI.f22, hI.f23, hI.f24, hI.f25, hI.f26, hI.f27, hI.f28, hI.f29, hI.f30, hI.f31, hI.f32, hI.f33, hI.f34, hI.f35, hI.f36, hI.f37, hI.f38, hI.f39, hI.f40, hI.f41, hI.f42, hI.f43, hI.f44, hI.f45, hI.f46, hI.f47, hI.f48, hI.f49, ?_, hI.f51, hI.f52, hI.f53, hI.f54, hI.f55, hI.f56, hI.f57, hI.f58, hI.f59, hI.f60, hI.f61, hI.f62, hI.f63, hI.f64, hI.f65, hI.f66, hI.f67, hI.f68, hI.f69, hI.f70, hI.f71⟩ <;> (first | exact fun _ => rfl | skip))
    | (refine ⟨?_, ?_, ?_, ?_, ?_, ?_, ?_, ?_, ?_, ?_, ?_, ?_, ?_, ?_, ?_, ?_, ?_, ?_, ?_, ?_, ?_, ?_, ?_, ?_, ?_, ?_, ?_, ?_, ?_, ?_, ?_, ?_, ?_, ?_, ?_, ?_, ?_, ?_, ?_, ?_, ?_, ?_, ?_, ?_, ?_, ?_, ?_, ?_, ?_, ?_, ?_, ?_, ?_, ?_, ?_, ?_, ?_, ?_, ?_, ?_, ?_, ?_, ?_, ?_, ?_, ?_, ?_, ?_, ?_, ?_, ?_, ?_, ?_⟩ <;> (first | exact hI.x | exact hI.f0 | exact hI.f1 | exact hI.f2 | exact hI.f3 | exact hI.f4 | exact hI.f5 | exact hI.f6 | exact hI.f7 | exact hI.f8 | exact hI.f9 | exact hI.f10 | exact hI.f11 | exact hI.f12 | exact hI.f13 | exact hI.f14 | exact hI.f15 | exact hI.f16 | exact hI.f17 | exact hI.f18 | exact hI.f19 | exact hI.f20 | exact hI.f21 | exact hI.f22 | exact hI.f23 | exact hI.f24 | exact hI.f25 | exact hI.f26 | exact hI.f27 | exact hI.f28 | exact hI.f29 | exact hI.f30 | exact hI.f31 | exact hI.f32 | exact hI.f33 | exact hI.f34 | exact hI.f35 | exact hI.f36 | exact hI.f37 | exact hI.f38 | exact hI.f39 | exact hI.f40 | exact hI.f41 | exact hI.f42 | exact hI.f43 | exact hI.f44 | exact hI.f45 | exact hI.f46 | exact hI.f47 | exact hI.f48 | exact hI.f49 | exact hI.f50 | exact hI.f51 | exact hI.f52 | exact hI.f53 | exact hI.f54 | exact hI.f55 | exact hI.f56 | exact hI.f57 | exact hI.f58 | exact hI.f59 | exact hI.f60 | exact hI.f61 | exact hI.f62 | exact hI.f63 | exact hI.f64 | exact hI.f65 | exact hI.f66 | exact hI.f67 | exact hI.f68 | exact hI.f69 | exact hI.f70 | exact hI.f71 | exact fun _ => rfl | skip))
  · intro L us wx K a ha hp hd hun hI hK
    have HX := hI.x
    have u46 := hI.f46 (hp 46 (by kernel_rfl))
    clear hp HX
    replace hd := Lib.hid hd
    simp only [u46] at ha
    subst ha
    simp only [Act.put, List.setIfInBounds_toArray, List.set_cons_succ, List.set_cons_zero] at hK
    go_simp
    refine hK _ _ ?_
    first
    | (refine ⟨hI.x, hI.f0, hI.f1, hI.f2, hI.f3, hI.f4, hI.f5, hI.f6, hI.f7, hI.f8, hI.f9, hI.f10, hI.f11, hI.f12, hI.f13, hI.f14, hI.f15, hI.f16, hI.f17, hI.f18, hI.f19, hI.f20, hI.f21, hI.f22, hI.f23, hI.f24, hI.f25, hI.f26, hI.f27, hI.f28, hI.f29, hI.f30, hI.f31, hI.f32, hI.f33, hI.f34, hI.f35, hI.f36, hI.f37, hI.f38, hI.f39, hI.f40, hI.f41, hI.f42, hI.f43, hI.f44, hI.f45, hI.f46, hI.f47, hI.f48, hI.f49, hI.f50, ?_, hI.f52, hI.f53, hI.f54, hI.f55, hI.f56, hI.f57, hI.f58, hI.f59, hI.f60, hI.f61, hI.f62, hI.f63, hI.f64, hI.f65, hI.f66, hI.f67, hI.f68, hI.f69, hI.f70, hI.f71⟩ <;> (first | exact fun _ => rfl | skip))
    | (refine ⟨?_, ?_, ?_, ?_, ?_, ?_, ?_, ?_, ?_, ?_, ?_, ?_, ?_, ?_, ?_, ?_, ?_, ?_, ?_, ?_, ?_, ?_, ?_, ?_, ?_, ?_, ?_, ?_, ?_, ?_, ?_, ?_, ?_, ?_, ?_, ?_, ?_, ?_, ?_, ?_, ?_, ?_, ?_, ?_, ?_, ?_, ?_, ?_, ?_, ?_, ?_, ?_, ?_, ?_, ?_, ?_, ?_, ?_, ?_, ?_, ?_, ?_, ?_, ?_, ?_, ?_, ?_, ?_, ?_, ?_, ?_, ?_, ?_⟩ <;> (first | exact hI.x | exact hI.f0 | exact hI.f1 | exact hI.f2 | exact hI.f3 | exact hI.f4 | exact hI.f5 | exact hI.f6 | exact hI.f7 | exact hI.f8 | exact hI.f9 | exact hI.f10 | exact hI.f11 | exact hI.f12 | exact hI.f13 | exact hI.f14 | exact hI.f15 | exact hI.f16 | exact hI.f17 | exact hI.f18 | exact hI.f19 | exact hI.f20 | exact hI.f21 | exact hI.f22 | exact hI.f23 | exact hI.f24 | exact hI.f25 | exact hI.f26 | exact hI.f27 | exact hI.f28 | exact hI.f29 | exact hI.f30 | exact hI.f31 | exact hI.f32 | exact hI.f33 | exact hI.f34 | exact hI.f35 | exact hI.f36 | exact hI.f37 | exact hI.f38 | exact hI.f39 | exact hI.f40 | exact hI.f41 | exact hI.f42 | exact hI.f43 | exact hI.f44 | exact hI.f45 | exact hI.f46 | exact hI.f47 | exact hI.f48 | exact hI.f49 | exact hI.f50 | exact hI.f51 | exact hI.f52 | exact hI.f53 | exact hI.f54 | exact hI.f55 | exact hI.f56 | exact hI.f57 | exact hI.f58 | exact hI.f59 | exact hI.f60 | exact hI.f61 | exact hI.f62 | exact hI.f63 | exact hI.f64 | exact hI.f65 | exact hI.f66 | exact hI.f67 | exact hI.f68 | exact hI.f69 | exact hI.f70 | exact hI.f71 | exact fun _ => rfl | skip))
  · intro L us wx K a ha hp hd hun hI hK
    have HX := hI.x
    have u46 := hI.f46 (hp 46 (by kernel_rfl))
    have u51 := hI.f51 (hp 51 (by kernel_rfl))
    clear hp HX
    replace hd := Lib.hid hd
    simp only [u46, u51] at ha
    subst ha
    simp only [Act.put, List.setIfInBounds_toArray, List.set_cons_succ, List.set_cons_zero] at hK
    go_simp
    refine hK _ _ ?_
    first
    | (refine ⟨hI.x, hI.f0, hI.f1, hI.f2, hI.f3, hI.f4, hI.f5, hI.f6, hI.f7, hI.f8, hI.f9, hI.f10, hI.f11, hI.f12, hI.f13, hI.f14, hI.f15, hI.f16, hI.f17, hI.f18, hI.f19, hI.f20, hI.f21, hI.f22, hI.f23, hI.f24, hI.f25, hI.f26, hI.f27, hI.f28, hI.f29, hI.f30, hI.f31, hI.f32, hI.f33, hI.f34, hI.f35, hI.f36, hI.f37, hI.f38, hI.f39, hI.f40, hI.f41, hI.f42, hI.f43, hI.f44, hI.f45, hI.f46, hI.f47, hI.f48, hI.f49, hI.f50, hI.f51, ?_, hI.f53, hI.f54, hI.f55, hI.f56, hI.f57, hI.f58, hI.f59, hI.f60, hI.f61, hI.f62, hI.f63, hI.f64, hI.f65, hI.f66, hI.f67, hI.f68, hI.f69, hI.f70, hI.f71⟩ <;> (first | exact fun _ => rfl | skip))
    | (refine ⟨?_, ?_, ?_, ?_, ?_, ?_, ?_, ?_, ?_, ?_, ?_, ?_, ?_, ?_, ?_, ?_, ?_, ?_, ?_, ?_, ?_, ?_, ?_, ?_, ?_, ?_, ?_, ?_, ?_, ?_, ?_, ?_, ?_, ?_, ?_, ?_, ?_, ?_, ?_, ?_, ?_, ?_, ?_, ?_, ?_, ?_, ?_, ?_, ?_, ?_, ?_, ?_, ?_, ?_, ?_, ?_, ?_, ?_, ?_, ?_, ?_, ?_, ?_, ?_, ?_, ?_, ?_, ?_, ?_, ?_, ?_, ?_, ?_⟩ <;> (first | exact hI.x | exact hI.f0 | exact hI.f1 | exact hI.f2 | exact hI.f3 | exact hI.f4 | exact hI.f5 | exact hI.f6 | exact hI.f7 | exact hI.f8 | exact hI.f9 | exact hI.f10 | exact hI.f11 | exact hI.f12 | exact hI.f13 | exact hI.f14 | exact hI.f15 | exact hI.f16 | exact hI.f17 | exact hI.f18 | exact hI.f19 | exact hI.f20 | exact hI.f21 | exact hI.f22 | exact hI.f23 | exact hI.f24 | exact hI.f25 | exact hI.f26 | exact hI.f27 | exact hI.f28 | exact hI.f29 | exact hI.f30 | exact hI.f31 | exact hI.f32 | exact hI.f33 | exact hI.f34 | exact hI.f35 | exact hI.f36 | exact hI.f37 | exact hI.f38 | exact hI.f39 | exact hI.f40 | exact hI.f41 | exact hI.f42 | exact hI.f43 | exact hI.f44 | exact hI.f45 | exact hI.f46 | exact hI.f47 | exact hI.f48 | exact hI.f49 | exact hI.f50 | exact hI.f51 | exact hI.f52 | exact hI.f53 | exact hI.f54 | exact hI.f55 | exact hI.f56 | exact hI.f57 | exact hI.f58 | exact hI.f59 | exact hI.f60 | exact hI.f61 | exact hI.f62 | exact hI.f63 | exact hI.f64 | exact hI.f65 | exact hI.f66 | exact hI.f67 | exact hI.f68 | exact hI.f69 | exact hI.f70 | exact hI.f71 | exact fun _ => rfl | skip))
  · intro L us wx K a ha hp hd hun hI hK
    have HX := hI.x
    have u46 := hI.f46 (hp 46 (by kernel_rfl))
    have u50 := hI.f50 (hp 50 (by kernel_rfl))
    have u52 := hI.f52 (hp 52 (by kernel_rfl))
    have hbe := brick_eq
    clear hp HX
    replace hd := Lib.hid hd
    simp only [u46, u50, u52] at ha
    subst ha
    simp only [Act.put, List.setIfInBounds_toArray, List.set_cons_succ, List.set_cons_zero] at hK
    go_simp
    refine hK _ _ ?_
    first
    | (refine ⟨hI.x, hI.f0, hI.f1, hI.f2, hI.f3, hI.f4, hI.f5, hI.f6, hI.f7, hI.f8, hI.f9, hI.f10, hI.f11, hI.f12, hI.f13, hI.f14, hI.f15, hI.f16, hI.f17, hI.f18, hI.f19, hI.f20, hI.f21, hI.f22, hI.f23, hI.f24, hI.f25, hI.f26, hI.f27, hI.f28, hI.f29, hI.f30, hI.f31, hI.f32, hI.f33, hI.f34, hI.f35, hI.f36, hI.f37, hI.f38, hI.f39, hI.f40, hI.f41, hI.f42, hI.f43, hI.f44, hI.f45, hI.f46, hI.f47, hI.f48, hI.f49, hI.f50, hI.f51, hI.f52, ?_, hI.f54, hI.f55, hI.f56, hI.f57, hI.f58, hI.f59, hI.f60, hI.f61, hI.f62, hI.f63, hI.f64, hI.f65, hI.f66, hI.f67, hI.f68, hI.f69, hI.f70, hI.f71⟩ <;> (first | exact fun _ => rfl | skip))
    | (refine ⟨?_, ?_, ?_, ?_, ?_, ?_, ?_, ?_, ?_, ?_, ?_, ?_, ?_, ?_, ?_, ?_, ?_, ?_, ?_, ?_, ?_, ?_, ?_, ?_, ?_, ?_, ?_, ?_, ?_, ?_, ?_, ?_, ?_, ?_, ?_, ?_, ?_, ?_, ?_, ?_, ?_, ?_, ?_, ?_, ?_, ?_, ?_, ?_, ?_, ?_, ?_, ?_, ?_, ?_, ?_, ?_, ?_, ?_, ?_, ?_, ?_, ?_, ?_, ?_, ?_, ?_, ?_, ?_, ?_, ?_, ?_, ?_, ?_⟩ <;> (first | exact hI.x | exact hI.f0 | exact hI.f1 | exact hI.f2 | exact hI.f3 | exact hI.f4 | exact hI.f5 | exact hI.f6 | exact hI.f7 | exact hI.f8 | exact hI.f9 | exact hI.f10 | exact hI.f11 | exact hI.f12 | exact hI.f13 | exact hI.f14 | exact hI.f15 | exact hI.f16 | exact hI.f17 | exact hI.f18 | exact hI.f19 | exact hI.f20 | exact hI.f21 | exact hI.f22 | exact hI.f23 | exact hI.f24 | exact hI.f25 | exact hI.f26 | exact hI.f27 | exact hI.f28 | exact hI.f29 | exact hI.f30 | exact hI.f31 | exact hI.f32 | exact hI.f33 | exact hI.f34 | exact hI.f35 | exact hI.f36 | exact hI.f37 | exact hI.f38 | exact hI.f39 | exact hI.f40 | exact hI.f41 | exact hI.f42 | exact hI.f43 | exact hI.f44 | exact hI.f45 | exact hI.f46 | exact hI.f47 | exact hI.f48 | exact hI.f49 | exact hI.f50 | exact hI.f51 | exact hI.f52 | exact hI.f53 | exact hI.f54 | exact hI.f55 | exact hI.f56 | exact hI.f57 | exact hI.f58 | exact hI.f59 | exact hI.f60 | exact hI.f61 | exact hI.f62 | exact hI.f63 | exact hI.f64 | exact hI.f65 | exact hI.f66 | exact hI.f67 | exact hI.f68 | exact hI.f69 | exact hI.f70 | exact hI.f71 | exact fun _ => rfl | skip))
  · intro L us wx K a ha hp hd hun hI hK
    have HX := hI.x
    have u46 := hI.f46 (hp 46 (by kernel_rfl))
    have u53 := hI.f53 (hp 53 (by kernel_rfl))
    clear hp HX
    replace hd := Lib.hid hd
    simp only [u46, u53] at ha
    subst ha
    simp only [Act.put, List.setIfInBounds_toArray, List.set_cons_succ, List.set_cons_zero] at hK
    go_simp
    refine hK _ _ ?_
    first
    | (refine ⟨hI.x, hI.f0, hI.f1, hI.f2, hI.f3, hI.f4, hI.f5, hI.f6, hI.f7, hI.f8, hI.f9, hI.f10, hI.f11, hI.f12, hI.f13, hI.f14, hI.f15, hI.f16, hI.f17, hI.f18, hI.f19, hI.f20, hI.f21, hI.f22, hI.f23, hI.f24, hI.f25, hI.f26, hI.f27, hI.f28, hI.f29, hI.f30, hI.f31, hI.f32, hI.f33, hI.f34, hI.f35, hI.f36, hI.f37, hI.f38, hI.f39, hI.f40, hI.f41, hI.f42, hI.f43, hI.f44, hI.f45, hI.f46, hI.f47, hI.f48, hI.f49, hI.f50, hI.f51, hI.f52, hI.f53, ?_, hI.f55, hI.f56, hI.f57, hI.f58, hI.f59, hI.f60, hI.f61, hI.f62, hI.f63, hI.f64, hI.f65, hI.f66, hI.f67, hI.f68, hI.f69, hI.f70, hI.f71⟩ <;> (first | exact fun _ => rfl | skip))
    | (refine ⟨?_, ?_, ?_, ?_, ?_, ?_, ?_, ?_, ?_, ?_, ?_, ?_, ?_, ?_, ?_, ?_, ?_, ?_, ?_, ?_, ?_, ?_, ?_, ?_, ?_, ?_, ?_, ?_, ?_, ?_, ?_, ?_, ?_, ?_, ?_, ?_, ?_, ?_, ?_, ?_, ?_, ?_, ?_, ?_, ?_, ?_, ?_, ?_, ?_, ?_, ?_, ?_, ?_, ?_, ?_, ?_, ?_, ?_, ?_, ?_, ?_, ?_, ?_, ?_, ?_, ?_, ?_, ?_, ?_, ?_, ?_, ?_, ?_⟩ <;> (first | exact hI.x | exact hI.f0 | exact hI.f1 | exact hI.f2 | exact hI.f3 | exact hI.f4 | exact hI.f5 | exact hI.f6 | exact hI.f7 | exact hI.f8 | exact hI.f9 | exact hI.f10 | exact hI.f11 | exact hI.f12 | exact hI.f13 | exact hI.f14 | exact hI.f15 | exact hI.f16 | exact hI.f17 | exact hI.f18 | exact hI.f19 | exact hI.f20 | exact hI.f21 | exact hI.f22 | exact hI.f23 | exact hI.f24 | exact hI.f25 | exact hI.f26 | exact hI.f27 | exact hI.f28 | exact hI.f29 | exact hI.f30 | exact hI.f31 | exact hI.f32 | exact hI.f33 | exact hI.f34 | exact hI.f35 | exact hI.f36 | exact hI.f37 | exact hI.f38 | exact hI.f39 | exact hI.f40 | exact hI.f41 | exact hI.f42 | exact hI.f43 | exact hI.f44 | exact hI.f45 | exact hI.f46 | exact hI.f47 | exact hI.f48 | exact hI.f49 | exact hI.f50 | exact hI.f51 | exact hI.f52 | exact hI.f53 | exact hI.f54 | exact hI.f55 | exact hI.f56 | exact hI.f57 | exact hI.f58 | exact hI.f59 | exact hI.f60 | exact hI.f61 | exact hI.f62 | exact hI.f63 | exact hI.f64 | exact hI.f65 | exact hI.f66 | exact hI.f67 | exact hI.f68 | exact hI.f69 | exact hI.f70 | exact hI.f71 | exact fun _ => rfl | skip))
  · intro L us wx K a ha hp hd hun hI hK
    have HX := hI.x
    have u54 := hI.f54 (hp 54 (by kernel_rfl))
    clear hp HX
    replace hd := Lib.hid hd
    simp only [u54] at ha
    subst ha
    simp only [Act.put, List.setIfInBounds_toArray, List.set_cons_succ, List.set_cons_zero] at hK
    go_simp
    refine hK _ _ ?_
    first
    | (refine ⟨hI.x, hI.f0, hI.f1, hI.f2, hI.f3, hI.f4, hI.f5, hI.f6, hI.f7, hI.f8, hI.f9, hI.f10, hI.f11, hI.f12, hI.f13, hI.f14, hI.f15, hI.f16, hI.f17, hI.f18, hI.f19, hI.f20, hI.f21, hI.f22, hI.f23, hI.f24, hI.f25, hI.f26, hI.f27, hI.f28, hI.f29, hI.f30, hI.f31, hI.f32, hI.f33, hI.f34, hI.f35, hI.f36, hI.f37, hI.f38, hI.f39, hI.f40, hI.f41, hI.f42, hI.f43, hI.f44, hI.f45, hI.f46, hI.f47, hI.f48, hI.f49, hI.f50, hI.f51, hI.f52, hI.f53, hI.f54, ?_, hI.f56, hI.f57, hI.f58, hI.f59, hI.f60, hI.f61, hI.f62, hI.f63, hI.f64, hI.f65, hI.f66, hI.f67, hI.f68, hI.f69, hI.f70, hI.f71⟩ <;> (first | exact fun _ => rfl | skip))
    | (refine ⟨?_, ?_, ?_, ?_, ?_, ?_, ?_, ?_, ?_, ?_, ?_, ?_, ?_, ?_, ?_, ?_, ?_, ?_, ?_, ?_, ?_, ?_, ?_, ?_, ?_, ?_, ?_, ?_, ?_, ?_, ?_, ?_, ?_, ?_, ?_, ?_, ?_, ?_, ?_, ?_, ?_, ?_, ?_, ?_, ?_, ?_, ?_, ?_, ?_, ?_, ?_, ?_, ?_, ?_, ?_, ?_, ?_, ?_, ?_, ?_, ?_, ?_, ?_, ?_, ?_, ?_, ?_, ?_, ?_, ?_, ?_, ?_, ?_⟩ <;> (first | exact hI.x | exact hI.f0 | exact hI.f1 | exact hI.f2 | exact hI.f3 | exact hI.f4 | exact hI.f5 | exact hI.f6 | exact hI.f7 | exact hI.f8 | exact hI.f9 | exact hI.f10 | exact hI.f11 | exact hI.f12 | exact hI.f13 | exact hI.f14 | exact hI.f15 | exact hI.f16 | exact hI.f17 | exact hI.f18 | exact hI.f19 | exact hI.f20 | exact hI.f21 | exact hI.f22 | exact hI.f23 | exact hI.f24 | exact hI.f25 | exact hI.f26 | exact hI.f27 | exact hI.f28 | exact hI.f29 | exact hI.f30 | exact hI.f31 | exact hI.f32 | exact hI.f33 | exact hI.f34 | exact hI.f35 | exact hI.f36 | exact hI.f37 | exact hI.f38 | exact hI.f39 | exact hI.f40 | exact hI.f41 | exact hI.f42 | exact hI.f43 | exact hI.f44 | exact hI.f45 | exact hI.f46 | exact hI.f47 | exact hI.f48 | exact hI.f49 | exact hI.f50 | exact hI.f51 | exact hI.f52 | exact hI.f53 | exact hI.f54 | exact hI.f55 | exact hI.f56 | exact hI.f57 | exact hI.f58 | exact hI.f59 | exact hI.f60 | exact hI.f61 | exact hI.f62 | exact hI.f63 | exact hI.f64 | exact hI.f65 | exact hI.f66 | exact hI.f67 | exact hI.f68 | exact hI.f69 | exact hI.f70 | exact hI.f71 | exact fun _ => rfl | skip))
  · intro L us wx K a ha hp hd hun hI hK
    have HX := hI.x
    have u55 := hI.f55 (hp 55 (by kernel_rfl))
    clear hp HX
    replace hd := Lib.hid hd
    simp only [u55] at ha
    subst ha
    simp only [Act.put, List.setIfInBounds_toArray, List.set_cons_succ, List.set_cons_zero] at hK
    go_simp
    refine hK _ _ ?_
    first
    | (refine ⟨hI.x, hI.f0, hI.f1, hI.f2, hI.f3, hI.f4, hI.f5, hI.f6, hI.f7, hI.f8, hI.f9, hI.f10, hI.f11, hI.f12, hI.f13, hI.f14, hI.f15, hI.f16, hI.f17, hI.f18, hI.f19, hI.f20, hI.f21, hI.f22, hI.f23, hI.f24, hI.f25, hI.f26, hI.f27, hI.f28, hI.f29, hI.f30, hI.f31, hI.f32, hI.f33, hI.f34, hI.f35, hI.f36, hI.f37, hI.f38, hI.f39, hI.f40, hI.f41, hI.f42, hI.f43, hI.f44, hI.f45, hI.f46, hI.f47, hI.f48, hI.f49, hI.f50, hI.f51, hI.f52, hI.f53, hI.f54, hI.f55, ?_, hI.f57, hI.f58, hI.f59, hI.f60, hI.f61, hI.f62, hI.f63, hI.f64, hI.f65, hI.f66, hI.f67, hI.f68, hI.f69, hI.f70, hI.f71⟩ <;> (first | exact fun _ => rfl | skip))
    | (refine ⟨?_, ?_, ?_, ?_, ?_, ?_, ?_, ?_, ?_, ?_, ?_, ?_, ?_, ?_, ?_, ?_, ?_, ?_, ?_, ?_, ?_, ?_, ?_, ?_, ?_, ?_, ?_, ?_, ?_, ?_, ?_, ?_, ?_, ?_, ?_, ?_, ?_, ?_, ?_, ?_, ?_, ?_, ?_, ?_, ?_, ?_, ?_, ?_, ?_, ?_, ?_, ?_, ?_, ?_, ?_, ?_, ?_, ?_, ?_, ?_, ?_, ?_, ?_, ?_, ?_, ?_, ?_, ?_, ?_, ?_, ?_, ?_, ?_⟩ <;> (first | exact hI.x | exact hI.f0 | exact hI.f1 | exact hI.f2 | exact hI.f3 | exact hI.f4 | exact hI.f5 | exact hI.f6 | exact hI.f7 | exact hI.f8 | exact hI.f9 | exact hI.f10 | exact hI.f11 | exact hI.f12 | exact hI.f13 | exact hI.f14 | exact hI.f15 | exact hI.f16 | exact hI.f17 | exact hI.f18 | exact hI.f19 | exact hI.f20 | exact hI.f21 | exact hI.f22 | exact hI.f23 | exact hI.f24 | exact hI.f25 | exact hI.f26 | exact hI.f27 | exact hI.f28 | exact hI.f29 | exact hI.f30 | exact hI.f31 | exact hI.f32 | exact hI.f33 | exact hI.f34 | exact hI.f35 | exact hI.f36 | exact hI.f37 | exact hI.f38 | exact hI.f39 | exact hI.f40 | exact hI.f41 | exact hI.f42 | exact hI.f43 | exact hI.f44 | exact hI.f45 | exact hI.f46 | exact hI.f47 | exact hI.f48 | exact hI.f49 | exact hI.f50 | exact hI.f51 | exact hI.f52 | exact hI.f53 | exact hI.f54 | exact hI.f55 | exact hI.f56 | exact hI.f57 | exact hI.f58 | exact hI.f59 | exact hI.f60 | exact hI.f61 | exact hI.f62 | exact hI.f63 | exact hI.f64 | exact hI.f65 | exact hI.f66 | exact hI.f67 | exact hI.f68 | exact hI.f69 | exact hI.f70 | exact hI.f71 | exact fun _ => rfl | skip))
  · intro L us wx K a ha hp hd hun hI hK
    have HX := hI.x
    have u55 := hI.f55 (hp 55 (by kernel_rfl))
    have u56 := hI.f56 (hp 56 (by kernel_rfl))
    clear hp HX
    replace hd := Lib.hid hd
    simp only [u55, u56] at ha
    subst ha
    simp only [Act.put, List.setIfInBounds_toArray, List.set_cons_succ, List.set_cons_zero] at hK
    go_simp
    refine hK _ _ ?_
    first
    | (refine ⟨hI.x, hI.f0, hI.f1, hI.f2, hI.f3, hI.f4, hI.f5, hI.f6, hI.f7, hI.f8, hI.f9, hI.f10, hI.f11, hI.f12, hI.f13, hI.f14, hI.f15, hI.f16, hI.f17, hI.f18, hI.f19, hI.f20, hI.f21, hI.f22, hI.f23, hI.f24, hI.f25, hI.f26, hI.f27, hI.f28, hI.f29, hI.f30, hI.f31, hI.f32, hI.f33, hI.f34, hI.f35, hI.f36, hI.f37, hI.f38, hI.f39, hI.f40, hI.f41, hI.f42, hI.f43, hI.f44, hI.f45, hI.f46, hI.f47, hI.f48, hI.f49, hI.f50, hI.f51, hI.f52, hI.f53, hI.f54, hI.f55, hI.f56, ?_, hI.f58, hI.f59, hI.f60, hI.f61, hI.f62, hI.f63, hI.f64, hI.f65, hI.f66, hI.f67, hI.f68, hI.f69, hI.f70, hI.f71⟩ <;> (first | exact fun _ => rfl | skip))
    | (refine ⟨?_, ?_, ?_, ?_, ?_, ?_, ?_, ?_, ?_, ?_, ?_, ?_, ?_, ?_, ?_, ?_, ?_, ?_, ?_, ?_, ?_, ?_, ?_, ?_, ?_, ?_, ?_, ?_, ?_, ?_, ?_, ?_, ?_, ?_, ?_, ?_, ?_, ?_, ?_, ?_, ?_, ?_, ?_, ?_, ?_, ?_, ?_, ?_, ?_, ?_, ?_, ?_, ?_, ?_, ?_, ?_, ?_, ?_, ?_, ?_, ?_, ?_, ?_, ?_, ?_, ?_, ?_, ?_, ?_, ?_, ?_, ?_, ?_⟩ <;> (first | exact hI.x | exact hI.f0 | exact hI.f1 | exact hI.f2 | exact hI.f3 | exact hI.f4 | exact hI.f5 | exact hI.f6 | exact hI.f7 | exact hI.f8 | exact hI.f9 | exact hI.f10 | exact hI.f11 | exact hI.f12 | exact hI.f13 | exact hI.f14 | exact hI.f15 | exact hI.f16 | exact hI.f17 | exact hI.f18 | exact hI.f19 | exact hI.f20 | exact hI.f21 | exact hI.f22 | exact hI.f23 | exact hI.f24 | exact hI.f25 | exact hI.f26 | exact hI.f27 | exact hI.f28 | exact hI.f29 | exact hI.f30 | exact hI.f31 | exact hI.f32 | exact hI.f33 | exact hI.f34 | exact hI.f35 | exact hI.f36 | exact hI.f37 | exact hI.f38 | exact hI.f39 | exact hI.f40 | exact hI.f41 | exact hI.f42 | exact hI.f43 | exact hI.f44 | exact hI.f45 | exact hI.f46 | exact hI.f47 | exact hI.f48 | exact hI.f49 | exact hI.f50 | exact hI.f51 | exact hI.f52 | exact hI.f53 | exact hI.f54 | exact hI.f55 | exact hI.f56 | exact hI.f57 | exact hI.f58 | exact hI.f59 | exact hI.f60 | exact hI.f61 | exact hI.f62 | exact hI.f63 | exact hI.f64 | exact hI.f65 | exact hI.f66 | exact hI.f67 | exact hI.f68 | exact hI.f69 | exact hI.f70 | exact hI.f71 | exact fun _ => rfl | skip))
  · intro L us wx K a ha hp hd hun hI hK
    have HX := hI.x
    have u55 := hI.f55 (hp 55 (by kernel_rfl))
    have u57 := hI.f57 (hp 57 (by kernel_rfl))
    clear hp HX
    replace hd := Lib.hid hd
    simp only [u55, u57] at ha
    subst ha
    simp only [Act.put, List.setIfInBounds_toArray, List.set_cons_succ, List.set_cons_zero] at hK
    go_simp
    refine hK _ _ ?_
    first
    | (refine ⟨hI.x, hI.f0, hI.f1, hI.f2, hI.f3, hI.f4, hI.f5, hI.f6, hI.f7, hI.f8, hI.f9, hI.f10, hI.f11, hI.f12, hI.f13, hI.f14, hI.f15, hI.f16, hI.f17, hI.f18, hI.f19, hI.f20, hI.f21, hI.f22, hI.f23, hI.f24, hI.f25, hI.f26, hI.f27, hI.f28, hI.f29, hI.f30, hI.f31, hI.f32, hI.f33, hI.f34, hI.f35, hI.f36, hI.f37, hI.f38, hI.f39, hI.f40, hI.f41, hI.f42, hI.f43, hI.f44, hI.f45, hI.f46, hI.f47, hI.f48, hI.f49, hI.f50, hI.f51, hI.f52, hI.f53, hI.f54, hI.f55, hI.f56, hI.f57, ?_, hI.f59, hI.f60, hI.f61, hI.f62, hI.f63, hI.f64, hI.f65, hI.f66, hI.f67, hI.f68, hI.f69, hI.f70, hI.f71⟩ <;> (first | exact fun _ => rfl | skip))
    | (refine ⟨?_, ?_, ?_, ?_, ?_, ?_, ?_, ?_, ?_, ?_, ?_, ?_, ?_, ?_, ?_, ?_, ?_, ?_, ?_, ?_, ?_, ?_, ?_, ?_, ?_, ?_, ?_, ?_, ?_, ?_, ?_, ?_, ?_, ?_, ?_, ?_, ?_, ?_, ?_, ?_, ?_, ?_, ?_, ?_, ?_, ?_, ?_, ?_, ?_, ?_, ?_, ?_, ?_, ?_, ?_, ?_, ?_, ?_, ?_, ?_, ?_, ?_, ?_, ?_, ?_, ?_, ?_, ?_, ?_, ?_, ?_, ?_, ?_⟩ <;> (first | exact hI.x | exact hI.f0 | exact hI.f1 | exact hI.f2 | exact hI.f3 | exact hI.f4 | exact hI.f5 | exact hI.f6 | exact hI.f7 | exact hI.f8 | exact hI.f9 | exact hI.f10 | exact hI.f11 | exact hI.f12 | exact hI.f13 | exact hI.f14 | exact hI.f15 | exact hI.f16 | exact hI.f17 | exact hI.f18 | exact hI.f19 | exact hI.f20 | exact hI.f21 | exact hI.f22 | exact hI.f23 | exact hI.f24 | exact hI.f25 | exact hI.f26 | exact hI.f27 | exact hI.f28 | exact hI.f29 | exact hI.f30 | exact hI.f31 | exact hI.f32 | exact hI.f33 | exact hI.f34 | exact hI.f35 | exact hI.f36 | exact hI.f37 | exact hI.f38 | exact hI.f39 | exact hI.f40 | exact hI.f41 | exact hI.f42 | exact hI.f43 | exact hI.f44 | exact hI.f45 | exact hI.f46 | exact hI.f47 | exact hI.f48 | exact hI.f49 | exact hI.f50 | exact hI.f51 | exact hI.f52 | exact hI.f53 | exact hI.f54 | exact hI.f55 | exact hI.f56 | exact hI.f57 | exact hI.f58 | exact hI.f59 | exact hI.f60 | exact hI.f61 | exact hI.f62 | exact hI.f63 | exact hI.f64 | exact hI.f65 | exact hI.f66 | exact hI.f67 | exact hI.f68 | exact hI.f69 | exact hI.f70 | exact hI.f71 | exact fun _ => rfl | skip))
  · intro L us wx K a ha hp hd hun hI hK
    have HX := hI.x
    have u58 := hI.f58 (hp 58 (by kernel_rfl))
    clear hp HX
    replace hd := Lib.hid hd
    simp only [u58] at ha
    subst ha
    simp only [Act.put, List.setIfInBounds_toArray, List.set_cons_succ, List.set_cons_zero] at hK
    go_simp
    refine hK _ _ ?_
    first
    | (refine ⟨hI.x, hI.f0, hI.f1, hI.f2, hI.f3, hI.f4, hI.f5, hI.f6, hI.f7, hI.f8, hI.f9, hI.f10, hI.f11, hI.f12, hI.f13, hI.f14, hI.f15, hI.f16, hI.f17, hI.f18, hI.f19, hI.f20, hI.f21, hI.f22, hI.f23, hI.f24, hI.f25, hI.f26, hI.f27, hI.f28, hI.f29, hI.f30, hI.f31, hI.f32, hI.f33, hI.f34, hI.f35, hI.f36, hI.f37, hI.f38, hI.f39, hI.f40, hI.f41, hI.f42, hI.f43, hI.f44, hI.f45, hI.f46, hI.f47, hI.f48, hI.f49, hI.f50, hI.f51, hI.f52, hI.f53, hI.f54, hI.f55, hI.f56, hI.f57, hI.f58, ?_, hI.f60, hI.f61, hI.f62, hI.f63, hI.f64, hI.f65, hI.f66, hI.f67, hI.f68, hI.f69, hI.f70, hI.f71⟩ <;> (first | exact fun _ => rfl | skip))
    | (refine ⟨?_, ?_, ?_, ?_, ?_, ?_, ?_, ?_, ?_, ?_, ?_, ?_, ?_, ?_, ?_, ?_, ?_, ?_, ?_, ?_, ?_, ?_, ?_, ?_, ?_, ?_, ?_, ?_, ?_, ?_, ?_, ?_, ?_, ?_, ?_, ?_, ?_, ?_, ?_, ?_, ?_, ?_, ?_, ?_, ?_, ?_, ?_, ?_, ?_, ?_, ?_, ?_, ?_, ?_, ?_, ?_, ?_, ?_, ?_, ?_, ?_, ?_, ?_, ?_, ?_, ?_, ?_, ?_, ?_, ?_, ?_, ?_, ?_⟩ <;> (first | exact hI.x | exact hI.f0 | exact hI.f1 | exact hI.f2 | exact hI.f3 | exact hI.f4 | exact hI.f5 | exact hI.f6 | exact hI.f7 | exact hI.f8 | exact hI.f9 | exact hI.f10 | exact hI.f11 | exact hI.f12 | exact hI.f13 | exact hI.f14 | exact hI.f15 | exact hI.f16 | exact hI.f17 | exact hI.f18 | exact hI.f19 | exact hI.f20 | exact hI.f21 | exact hI.f22 | exact hI.f23 | exact hI.f24 | exact hI.f25 | exact hI.f26 | exact hI.f27 | exact hI.f28 | exact hI.f29 | exact hI.f30 | exact hI.f31 | exact hI.f32 | exact hI.f33 | exact hI.f34 | exact hI.f35 | exact hI.f36 | exact hI.f37 | exact hI.f38 | exact hI.f39 | exact hI.f40 | exact hI.f41 | exact hI.f42 | exact hI.f43 | exact hI.f44 | exact hI.f45 | exact hI.f46 | exact hI.f47 | exact hI.f48 | exact hI.f49 | exact hI.f50 | exact hI.f51 | exact hI.f52 | exact hI.f53 | exact hI.f54 | exact hI.f55 | exact hI.f56 | exact hI.f57 | exact hI.f58 | exact hI.f59 | exact hI.f60 | exact hI.f61 | exact hI.f62 | exact hI.f63 | exact hI.f64 | exact hI.f65 | exact hI.f66 | exact hI.f67 | exact hI.f68 | exact hI.f69 | exact hI.f70 | exact hI.f71 | exact fun _ => rfl | skip))
  · intro L us wx K a ha hp hd hun hI hK
    have HX := hI.x
    have u59 := hI.f59 (hp 59 (by kernel_rfl))
    clear hp HX
    replace hd := Lib.hid hd
    simp only [u59] at ha
    subst ha
    simp only [Act.put, List.setIfInBounds_toArray, List.set_cons_succ, List.set_cons_zero] at hK
    go_simp
    refine hK _ _ ?_
    first
    | (refine ⟨hI.x, hI.f0, hI.f1, hI.f2, hI.f3, hI.f4, hI.f5, hI.f6, hI.f7, hI.f8, hI.f9, hI.f10, hI.f11, hI.f12, hI.f13, hI.f14, hI.f15, hI.f16, hI.f17, hI.f18, hI.f19, hI.f20, hI.f21, hI.f22, hI.f23, hI.f24, hI.f25, hI.f26, hI.f27, hI.f28, hI.f29, hI.f30, hI.f31, hI.f32, hI.f33, hI.f34, hI.f35, hI.f36, hI.f37, hI.f38, hI.f39, hI.f40, hI.f41, hI.f42, hI.f43, hI.f44, hI.f45, hI.f46, hI.f47, hI.f48, hI.f49, hI.f50, hI.f51, hI.f52, hI.f53, hI.f54, hI.f55, hI.f56, hI.f57, hI.f58, hI.f59, ?_, hI.f61, hI.f62, hI.f63, hI.f64, hI.f65, hI.f66, hI.f67, hI.f68, hI.f69, hI.f70, hI.f71⟩ <;> (first | exact fun _ => rfl | skip))
    | (refine ⟨?_, ?_, ?_, ?_, ?_, ?_, ?_, ?_, ?_, ?_, ?_, ?_, ?_, ?_, ?_, ?_, ?_, ?_, ?_, ?_, ?_, ?_, ?_, ?_, ?_, ?_, ?_, ?_, ?_, ?_, ?_, ?_, ?_, ?_, ?_, ?_, ?_, ?_, ?_, ?_, ?_, ?_, ?_, ?_, ?_, ?_, ?_, ?_, ?_, ?_, ?_, ?_, ?_, ?_, ?_, ?_, ?_, ?_, ?_, ?_, ?_, ?_, ?_, ?_, ?_, ?_, ?_, ?_, ?_, ?_, ?_, ?_, ?_⟩ <;> (first | exact hI.x | exact hI.f0 | exact hI.f1 | exact hI.f2 | exact hI.f3 | exact hI.f4 | exact hI.f5 | exact hI.f6 | exact hI.f7 | exact hI.f8 | exact hI.f9 | exact hI.f10 | exact hI.f11 | exact hI.f12 | exact hI.f13 | exact hI.f14 | exact hI.f15 | exact hI.f16 | exact hI.f17 | exact hI.f18 | exact hI.f19 | exact hI.f20 | exact hI.f21 | exact hI.f22 | exact hI.f23 | exact hI.f24 | exact hI.f25 | exact hI.f26 | exact hI.f27 | exact hI.f28 | exact hI.f29 | exact hI.f30 | exact hI.f31 | exact hI.f32 | exact hI.f33 | exact hI.f34 | exact hI.f35 | exact hI.f36 | exact hI.f37 | exact hI.f38 | exact hI.f39 | exact hI.f40 | exact hI.f41 | exact hI.f42 | exact hI.f43 | exact hI.f44 | exact hI.f45 | exact hI.f46 | exact hI.f47 | exact hI.f48 | exact hI.f49 | exact hI.f50 | exact hI.f51 | exact hI.f52 | exact hI.f53 | exact hI.f54 | exact hI.f55 | exact hI.f56 | exact hI.f57 | exact hI.f58 | exact hI.f59 | exact hI.f60 | exact hI.f61 | exact hI.f62 | exact hI.f63 | exact hI.f64 | exact hI.f65 | exact hI.f66 | exact hI.f67 | exact hI.f68 | exact hI.f69 | exact hI.f70 | exact hI.f71 | exact fun _ => rfl | skip))
  · intro L us wx K a ha hp hd hun hI hK
    have HX := hI.x
    have u59 := hI.f59 (hp 59 (by kernel_rfl))
    have u60 := hI.f60 (hp 60 (by kernel_rfl))
    clear hp HX
    replace hd := Lib.hid hd
    simp only [u59, u60] at ha
    subst ha
    simp only [Act.put, List.setIfInBounds_toArray, List.set_cons_succ, List.set_cons_zero] at hK
    go_simp
    refine hK _ _ ?_
    first
    | (refine ⟨hI.x, hI.f0, hI.f1, hI.f2, hI.f3, hI.f4, hI.f5, hI.f6, hI.f7, hI.f8, hI.f9, hI.f10, hI.f11, hI.f12, hI.f13, hI.f14, hI.f15, hI.f16, hI.f17, hI.f18, hI.f19, hI.f20, hI.f21, hI.f22, hI.f23, hI.f24, hI.f25, hI.f26, hI.f27, hI.f28, hI.f29, hI.f30, hI.f31, hI.f32, hI.f33, hI.f34, hI.f35, hI.f36, hI.f37, hI.f38, hI.f39, hI.f40, hI.f41, hI.f42, hI.f43, hI.f44, hI.f45, hI.f46, hI.f47, hI.f48, hI.f49, hI.f50, hI.f51, hI.f52, hI.f53, hI.f54, hI.f55, hI.f56, hI.f57, hI.f58, hI.f59, hI.f60, ?_, hI.f62, hI.f63, hI.f64, hI.f65, hI.f66, hI.f67, hI.f68, hI.f69, hI.f70, hI.f71⟩ <;> (first | exact fun _ => rfl | skip))
    | (refine ⟨?_, ?_, ?_, ?_, ?_, ?_, ?_, ?_, ?_, ?_, ?_, ?_, ?_, ?_, ?_, ?_, ?_, ?_, ?_, ?_, ?_, ?_, ?_, ?_, ?_, ?_, ?_, ?_, ?_, ?_, ?_, ?_, ?_, ?_, ?_, ?_, ?_, ?_, ?_, ?_, ?_, ?_, ?_, ?_, ?_, ?_, ?_, ?_, ?_, ?_, ?_, ?_, ?_, ?_, ?_, ?_, ?_, ?_, ?_, ?_, ?_, ?_, ?_, ?_, ?_, ?_, ?_, ?_, ?_, ?_, ?_, ?_, ?_⟩ <;> (first | exact hI.x | exact hI.f0 | exact hI.f1 | exact hI.f2 | exact hI.f3 | exact hI.f4 | exact hI.f5 | exact hI.f6 | exact hI.f7 | exact hI.f8 | exact hI.f9 | exact hI.f10 | exact hI.f11 | exact hI.f12 | exact hI.f13 | exact hI.f14 | exact hI.f15 | exact hI.f16 | exact hI.f17 | exact hI.f18 | exact hI.f19 | exact hI.f20 | exact hI.f21 | exact hI.f22 | exact hI.f23 | exact hI.f24 | exact hI.f25 | exact hI.f26 | exact hI.f27 | exact hI.f28 | exact hI.f29 | exact hI.f30 | exact hI.f31 | exact hI.f32 | exact hI.f33 | exact hI.f34 | exact hI.f35 | exact hI.f36 | exact hI.f37 | exact hI.f38 | exact hI.f39 | exact hI.f40 | exact hI.f41 | exact hI.f42 | exact hI.f43 | exact hI.f44 | exact hI.f45 | exact hI.f46 | exact hI.f47 | exact hI.f48 | exact hI.f49 | exact hI.f50 | exact hI.f51 | exact hI.f52 | exact hI.f53 | exact hI.f54 | exact hI.f55 | exact hI.f56 | exact hI.f57 | exact hI.f58 | exact hI.f59 | exact hI.f60 | exact hI.f61 | exact hI.f62 | exact hI.f63 | exact hI.f64 | exact hI.f65 | exact hI.f66 | exact hI.f67 | exact hI.f68 | exact hI.f69 | exact hI.f70 | exact hI.f71 | exact fun _ => rfl | skip))
  · intro L us wx K a ha hp hd hun hI hK
    have HX := hI.x
    have u59 := hI.f59 (hp 59 (by kernel_rfl))
    have u61 := hI.f61 (hp 61 (by kernel_rfl))
    clear hp HX
    replace hd := Lib.hid hd
    simp only [u59, u61] at ha
    subst ha
    simp only [Act.put, List.setIfInBounds_toArray, List.set_cons_succ, List.set_cons_zero] at hK
    go_simp
    refine hK _ _ ?_
    first
    | (refine ⟨hI.x, hI.f0, hI.f1, hI.f2, hI.f3, hI.f4, hI.f5, hI.f6, hI.f7, hI.f8, hI.f9, hI.f10, hI.f11, hI.f12, hI.f13, hI.f14, hI.f15, hI.f16, hI.f17, hI.f18, hI.f19, hI.f20, hI.f21, hI.f22, hI.f23, hI.f24, hI.f25, hI.f26, hI.f27, hI.f28, hI.f29, hI.f30, hI.f31, hI.f32, hI.f33, hI.f34, hI.f35, hI.f36, hI.f37, hI.f38, hI.f39, hI.f40, hI.f41, hI.f42, hI.f43, hI.f44, hI.f45, hI.f46, hI.f47, hI.f48, hI.f49, hI.f50, hI.f51, hI.f52, hI.f53, hI.f54, hI.f55, hI.f56, hI.f57, hI.f58, hI.f59, hI.f60, hI.f61, ?_, hI.f63, hI.f64, hI.f65, hI.f66, hI.f67, hI.f68, hI.f69, hI.f70, hI.f71⟩ <;> (first | exact fun _ => rfl | skip))
    | (refine ⟨?_, ?_, ?_, ?_, ?_, ?_, ?_, ?_, ?_, ?_, ?_, ?_, ?_, ?_, ?_, ?_, ?_, ?_, ?_, ?_, ?_, ?_, ?_, ?_, ?_, ?_, ?_, ?_, ?_, ?_, ?_, ?_, ?_, ?_, ?_, ?_, ?_, ?_, ?_, ?_, ?_, ?_, ?_, ?_, ?_, ?_, ?_, ?_, ?_, ?_, ?_, ?_, ?_, ?_, ?_, ?_, ?_, ?_, ?_, ?_, ?_, ?_, ?_, ?_, ?_, ?_, ?_, ?_, ?_, ?_, ?_, ?_, ?_⟩ <;> (first | exact hI.x | exact hI.f0 | exact hI.f1 | exact hI.f2 | exact hI.f3 | exact hI.f4 | exact hI.f5 | exact hI.f6 | exact hI.f7 | exact hI.f8 | exact hI.f9 | exact hI.f10 | exact hI.f11 | exact hI.f12 | exact hI.f13 | exact hI.f14 | exact hI.f15 | exact hI.f16 | exact hI.f17 | exact hI.f18 | exact hI.f19 | exact hI.f20 | exact hI.f21 | exact hI.f22 | exact hI.f23 | exact hI.f24 | exact hI.f25 | exact hI.f26 | exact hI.f27 | exact hI.f28 | exact hI.f29 | exact hI.f30 | exact hI.f31 | exact hI.f32 | exact hI.f33 | exact hI.f34 | exact hI.f35 | exact hI.f36 | exact hI.f37 | exact hI.f38 | exact hI.f39 | exact hI.f40 | exact hI.f41 | exact hI.f42 | exact hI.f43 | exact hI.f44 | exact hI.f45 | exact hI.f46 | exact hI.f47 | exact hI.f48 | exact hI.f49 | exact hI.f50 | exact hI.f51 | exact hI.f52 | exact hI.f53 | exact hI.f54 | exact hI.f55 | exact hI.f56 | exact hI.f57 | exact hI.f58 | exact hI.f59 | exact hI.f60 | exact hI.f61 | exact hI.f62 | exact hI.f63 | exact hI.f64 | exact hI.f65 | exact hI.f66 | exact hI.f67 | exact hI.f68 | exact hI.f69 | exact hI.f70 | exact hI.f71 | exact fun _ => rfl | skip))
  · intro L us wx K a ha hp hd hun hI hK
    have HX := hI.x
    have u62 := hI.f62 (hp 62 (by kernel_rfl))
    clear hp HX
    replace hd := Lib.hid hd
    simp only [u62] at ha
    subst ha
    simp only [Act.put, List.setIfInBounds_toArray, List.set_cons_succ, List.set_cons_zero] at hK
    go_simp
    refine hK _ _ ?_
    first
    | (refine ⟨hI.x, hI.f0, hI.f1, hI.f2, hI.f3, hI.f4, hI.f5, hI.f6, hI.f7, hI.f8, hI.f9, hI.f10, hI.f11, hI.f12, hI.f13, hI.f14, hI.f15, hI.f16, hI.f17, hI.f18, hI.f19, hI.f20, hI.f21, hI.f22, hI.f23, hI.f24, hI.f25, hI.f26, hI.f27, hI.f28, hI.f29, hI.f30, hI.f31, hI.f32, hI.f33, hI.f34, hI.f35, hI.f36, hI.f37, hI.f38, hI.f39, hI.f40, hI.f41, hI.f42, hI.f43, hI.f44, hI.f45, hI.f46, hI.f47, hI.f48, hI.f49, hI.f50, hI.f51, hI.f52, hI.f53, hI.f54, hI.f55, hI.f56, hI.f57, hI.f58, hI.f59, hI.f60, hI.f61, hI.f62, ?_, hI.f64, hI.f65, hI.f66, hI.f67, hI.f68, hI.f69, hI.f70, hI.f71⟩ <;> (first | exact fun _ => rfl | skip))
    | (refine ⟨?_, ?_, ?_, ?_, ?_, ?_, ?_, ?_, ?_, ?_, ?_, ?_, ?_, ?_, ?_, ?_, ?_, ?_, ?_, ?_, ?_, ?_, ?_, ?_, ?_, ?_, ?_, ?_, ?_, ?_, ?_, ?_, ?_, ?_, ?_, ?_, ?_, ?_, ?_, ?_, ?_, ?_, ?_, ?_, ?_, ?_, ?_, ?_, ?_, ?_, ?_, ?_, ?_, ?_, ?_, ?_, ?_, ?_, ?_, ?_, ?_, ?_, ?_, ?_, ?_, ?_, ?_, ?_, ?_, ?_, ?_, ?_, ?_⟩ <;> (first | exact hI.x | exact hI.f0 | exact hI.f1 | exact hI.f2 | exact hI.f3 | exact hI.f4 | exact hI.f5 | exact hI.f6 | exact hI.f7 | exact hI.f8 | exact hI.f9 | exact hI.f10 | exact hI.f11 | exact hI.f12 | exact hI.f13 | exact hI.f14 | exact hI.f15 | exact hI.f16 | exact hI.f17 | exact hI.f18 | exact hI.f19 | exact hI.f20 | exact hI.f21 | exact hI.f22 | exact hI.f23 | exact hI.f24 | exact hI.f25 | exact hI.f26 | exact hI.f27 | exact hI.f28 | exact hI.f29 | exact hI.f30 | exact hI.f31 | exact hI.f32 | exact hI.f33 | exact hI.f34 | exact hI.f35 | exact hI.f36 | exact hI.f37 | exact hI.f38 | exact hI.f39 | exact hI.f40 | exact hI.f41 | exact hI.f42 | exact hI.f43 | exact hI.f44 | exact hI.f45 | exact hI.f46 | exact hI.f47 | exact hI.f48 | exact hI.f49 | exact hI.f50 | exact hI.f51 | exact hI.f52 | exact hI.f53 | exact hI.f54 | exact hI.f55 | exact hI.f56 | exact hI.f57 | exact hI.f58 | exact hI.f59 | exact hI.f60 | exact hI.f61 | exact hI.f62 | exact hI.f63 | exact hI.f64 | exact hI.f65 | exact hI.f66 | exact hI.f67 | exact hI.f68 | exact hI.f69 | exact hI.f70 | exact hI.f71 | exact fun _ => rfl | skip))
  · intro L us wx K a ha hp hd hun hI hK
    have HX := hI.x
    have u63 := hI.f63 (hp 63 (by kernel_rfl))
    clear hp HX
    replace hd := Lib.hid hd
    simp only [u63] at ha
    subst ha
    simp only [Act.put, List.setIfInBounds_toArray, List.set_cons_succ, List.set_cons_zero] at hK
    go_simp
    go_at_call 27
    refine (four_c _).mono ?_
    rintro e wn ⟨g1, rfl, hs1, En⟩
    go_simp
    refine hK _ _ ?_
    first
    | (refine ⟨hI.x.trans En, hI.f0, hI.f1, hI.f2, hI.f3, hI.f4, hI.f5, hI.f6, hI.f7, hI.f8, hI.f9, hI.f10, hI.f11, hI.f12, hI.f13, hI.f14, hI.f15, hI.f16, hI.f17, hI.f18, hI.f19, hI.f20, hI.f21, hI.f22, hI.f23, hI.f24, hI.f25, hI.f26, hI.f27, hI.f28, hI.f29, hI.f30, hI.f31, hI.f32, hI.f33, hI.f34, hI.f35, hI.f36, hI.f37, hI.f38, hI.f39, hI.f40, hI.f41, hI.f42, hI.f43, hI.f44, hI.f45, hI.f46, hI.f47, hI.f48, hI.f49, hI.f50, hI.f51, hI.f52, hI.f53, hI.f54, hI.f55, hI.f56, hI.f57, hI.f58, hI.f59, hI.f60, hI.f61, hI.f62, hI.f63, ?_, ?_, hI.f66, hI.f67, hI.f68, hI.f69, hI.f70, hI.f71⟩ <;> (first | exact fun h => (hI.f64 h).ext En | exact fun h => own_ext (hI.f64 h) En | exact fun h => (hI.f65 h).ext En | exact fun h => own_ext (hI.f65 h) En | exact fun _ => rfl | skip))
    | (refine ⟨hI.x.trans En, ?_, ?_, ?_, ?_, ?_, ?_, ?_, ?_, ?_, ?_, ?_, ?_, ?_, ?_, ?_, ?_, ?_, ?_, ?_, ?_, ?_, ?_, ?_, ?_, ?_, ?_, ?_, ?_, ?_, ?_, ?_, ?_, ?_, ?_, ?_, ?_, ?_, ?_, ?_, ?_, ?_, ?_, ?_, ?_, ?_, ?_, ?_, ?_, ?_, ?_, ?_, ?_, ?_, ?_, ?_, ?_, ?_, ?_, ?_, ?_, ?_, ?_, ?_, ?_, ?_, ?_, ?_, ?_, ?_, ?_, ?_, ?_⟩ <;> (first | exact hI.f0 | exact hI.f1 | exact hI.f2 | exact hI.f3 | exact hI.f4 | exact hI.f5 | exact hI.f6 | exact hI.f7 | exact hI.f8 | exact hI.f9 | exact hI.f10 | exact hI.f11 | exact hI.f12 | exact hI.f13 | exact hI.f14 | exact hI.f15 | exact hI.f16 | exact hI.f17 | exact hI.f18 | exact hI.f19 | exact hI.f20 | exact hI.f21 | exact hI.f22 | exact hI.f23 | exact hI.f24 | exact hI.f25 | exact hI.f26 | exact hI.f27 | exact hI.f28 | exact hI.f29 | exact hI.f30 | exact hI.f31 | exact hI.f32 | exact hI.f33 | exact hI.f34 | exact hI.f35 | exact hI.f36 | exact hI.f37 | exact hI.f38 | exact hI.f39 | exact hI.f40 | exact hI.f41 | exact hI.f42 | exact hI.f43 | exact hI.f44 | exact hI.f45 | exact hI.f46 | exact hI.f47 | exact hI.f48 | exact hI.f49 | exact hI.f50 | exact hI.f51 | exact hI.f52 | exact hI.f53 | exact hI.f54 | exact hI.f55 | exact hI.f56 | exact hI.f57 | exact hI.f58 | exact hI.f59 | exact hI.f60 | exact hI.f61 | exact hI.f62 | exact hI.f63 | exact fun h => (hI.f64 h).ext En | exact fun h => (hI.f65 h).ext En | exact hI.f66 | exact hI.f67 | exact hI.f68 | exact hI.f69 | exact hI.f70 | exact hI.f71 | exact fun _ => rfl | skip))
    all_goals exact fun _ => ⟨g1, rfl, hs1⟩
  · intro L us wx K a ha hp hd hun hI hK
    have HX := hI.x
    have u63 := hI.f63 (hp 63 (by kernel_rfl))
    clear hp HX
    replace hd := Lib.hid hd
    simp only [u63] at ha
    subst ha
    simp only [Act.put, List.setIfInBounds_toArray, List.set_cons_succ, List.set_cons_zero] at hK
    go_simp
    go_at_call 28
    refine (two_c 9 9 _).mono ?_
    rintro e wn ⟨p1, rfl, hl1, En⟩
    go_simp
    refine hK _ _ ?_
    first
    | (refine ⟨hI.x.trans En, hI.f0, hI.f1, hI.f2, hI.f3, hI.f4, hI.f5, hI.f6, hI.f7, hI.f8, hI.f9, hI.f10, hI.f11, hI.f12, hI.f13, hI.f14, hI.f15, hI.f16, hI.f17, hI.f18, hI.f19, hI.f20, hI.f21, hI.f22, hI.f23, hI.f24, hI.f25, hI.f26, hI.f27, hI.f28, hI.f29, hI.f30, hI.f31, hI.f32, hI.f33, hI.f34, hI.f35, hI.f36, hI.f37, hI.f38, hI.f39, hI.f40, hI.f41, hI.f42, hI.f43, hI.f44, hI.f45, hI.f46, hI.f47, hI.f48, hI.f49, hI.f50, hI.f51, hI.f52, hI.f53, hI.f54, hI.f55, hI.f56, hI.f57, hI.f58, hI.f59, hI.f60, hI.f61, hI.f62, hI.f63, ?_, ?_, hI.f66, hI.f67, hI.f68, hI.f69, hI.f70, hI.f71⟩ <;> (first | exact fun h => (hI.f64 h).ext En | exact fun h => own_ext (hI.f64 h) En | exact fun h => (hI.f65 h).ext En | exact fun h => own_ext (hI.f65 h) En | exact fun _ => rfl | skip))
    | (refine ⟨hI.x.trans En, ?_, ?_, ?_, ?_, ?_, ?_, ?_, ?_, ?_, ?_, ?_, ?_, ?_, ?_, ?_, ?_, ?_, ?_, ?_, ?_, ?_, ?_, ?_, ?_, ?_, ?_, ?_, ?_, ?_, ?_, ?_, ?_, ?_, ?_, ?_, ?_, ?_, ?_, ?_, ?_, ?_, ?_, ?_, ?_, ?_, ?_, ?_, ?_, ?_, ?_, ?_, ?_, ?_, ?_, ?_, ?_, ?_, ?_, ?_, ?_, ?_, ?_, ?_, ?_, ?_, ?_, ?_, ?_, ?_, ?_, ?_, ?_⟩ <;> (first | exact hI.f0 | exact hI.f1 | exact hI.f2 | exact hI.f3 | exact hI.f4 | exact hI.f5 | exact hI.f6 | exact hI.f7 | exact hI.f8 | exact hI.f9 | exact hI.f10 | exact hI.f11 | exact hI.f12 | exact hI.f13 | exact hI.f14 | exact hI.f15 | exact hI.f16 | exact hI.f17 | exact hI.f18 | exact hI.f19 | exact hI.f20 | exact hI.f21 | exact hI.f22 | exact hI.f23 | exact hI.f24 | exact hI.f25 | exact hI.f26 | exact hI.f27 | exact hI.f28 | exact hI.f29 | exact hI.f30 | exact hI.f31 | exact hI.f32 | exact hI.f33 | exact hI.f34 | exact hI.f35 | exact hI.f36 | exact hI.f37 | exact hI.f38 | exact hI.f39 | exact hI.f40 | exact hI.f41 | exact hI.f42 | exact hI.f43 | exact hI.f44 | exact hI.f45 | exact hI.f46 | exact hI.f47 | exact hI.f48 | exact hI.f49 | exact hI.f50 | exact hI.f51 | exact hI.f52 | exact hI.f53 | exact hI.f54 | exact hI.f55 | exact hI.f56 | exact hI.f57 | exact hI.f58 | exact hI.f59 | exact hI.f60 | exact hI.f61 | exact hI.f62 | exact hI.f63 | exact fun h => (hI.f64 h).ext En | exact fun h => (hI.f65 h).ext En | exact hI.f66 | exact hI.f67 | exact hI.f68 | exact hI.f69 | exact hI.f70 | exact hI.f71 | exact fun _ => rfl | skip))
    all_goals exact fun _ => ⟨p1, rfl, hl1⟩
  · intro L us wx K a ha hp hd hun hI hK
    have HX := hI.x
    have u63 := hI.f63 (hp 63 (by kernel_rfl))
    clear hp HX
    replace hd := Lib.hid hd
    simp only [u63] at ha
    subst ha
    simp only [Act.put, List.setIfInBounds_toArray, List.set_cons_succ, List.set_cons_zero] at hK
    go_simp
    refine hK _ _ ?_
    first
    | (refine ⟨hI.x, hI.f0, hI.f1, hI.f2, hI.f3, hI.f4, hI.f5, hI.f6, hI.f7, hI.f8, hI.f9, hI.f10, hI.f11, hI.f12, hI.f13, hI.f14, hI.f15, hI.f16, hI.f17, hI.f18, hI.f19, hI.f20, hI.f21, hI.f22, hI.f23, hI.f24, hI.f25, hI.f26, hI.f27, hI.f28, hI.f29, hI.f30, hI.f31, hI.f32, hI.f33, hI.f34, hI.f35, hI.f36, hI.f37, hI.f38, hI.f39, hI.f40, hI.f41, hI.f42, hI.f43, hI.f44, hI.f45, hI.f46, hI.f47, hI.f48, hI.f49, hI.f50, hI.f51, hI.f52, hI.f53, hI.f54, hI.f55, hI.f56, hI.f57, hI.f58, hI.f59, hI.f60, hI.f61, hI.f62, hI.f63, hI.f64, hI.f65, ?_, hI.f67, hI.f68, hI.f69, hI.f70, hI.f71⟩ <;> (first | exact fun _ => rfl | skip))
    | (refine ⟨?_, ?_, ?_, ?_, ?_, ?_, ?_, ?_, ?_, ?_, ?_, ?_, ?_, ?_, ?_, ?_, ?_, ?_, ?_, ?_, ?_, ?_, ?_, ?_, ?_, ?_, ?_, ?_, ?_, ?_, ?_, ?_, ?_, ?_, ?_, ?_, ?_, ?_, ?_, ?_, ?_, ?_, ?_, ?_, ?_, ?_, ?_, ?_, ?_, ?_, ?_, ?_, ?_, ?_, ?_, ?_, ?_, ?_, ?_, ?_, ?_, ?_, ?_, ?_, ?_, ?_, ?_, ?_, ?_, ?_, ?_, ?_, ?_⟩ <;> (first | exact hI.x | exact hI.f0 | exact hI.f1 | exact hI.f2 | exact hI.f3 | exact hI.f4 | exact hI.f5 | exact hI.f6 | exact hI.f7 | exact hI.f8 | exact hI.f9 | exact hI.f10 | exact hI.f11 | exact hI.f12 | exact hI.f13 | exact hI.f14 | exact hI.f15 | exact hI.f16 | exact hI.f17 | exact hI.f18 | exact hI.f19 | exact hI.f20 | exact hI.f21 | exact hI.f22 | exact hI.f23 | exact hI.f24 | exact hI.f25 | exact hI.f26 | exact hI.f27 | exact hI.f28 | exact hI.f29 | exact hI.f30 | exact hI.f31 | exact hI.f32 | exact hI.f33 | exact hI.f34 | exact hI.f35 | exact hI.f36 | exact hI.f37 | exact hI.f38 | exact hI.f39 | exact hI.f40 | exact hI.f41 | exact hI.f42 | exact hI.f43 | exact hI.f44 | exact hI.f45 | exact hI.f46 | exact hI.f47 | exact hI.f48 | exact hI.f49 | exact hI.f50 | exact hI.f51 | exact hI.f52 | exact hI.f53 | exact hI.f54 | exact hI.f55 | exact hI.f56 | exact hI.f57 | exact hI.f58 | exact hI.f59 | exact hI.f60 | exact hI.f61 | exact hI.f62 | exact hI.f63 | exact hI.f64 | exact hI.f65 | exact hI.f66 | exact hI.f67 | exact hI.f68 | exact hI.f69 | exact hI.f70 | exact hI.f71 | exact fun _ => rfl | skip))
  · intro L us wx K a ha hp hd hun hI hK
    have HX := hI.x
    have u63 := hI.f63 (hp 63 (by kernel_rfl))
    have u66 := hI.f66 (hp 66 (by kernel_rfl))
    clear hp HX
    replace hd := Lib.hid hd
    simp only [u63, u66] at ha
    subst ha
    simp only [Act.put, List.setIfInBounds_toArray, List.set_cons_succ, List.set_cons_zero] at hK
    go_simp
    refine hK _ _ ?_
    first
    | (refine ⟨hI.x, hI.f0, hI.f1, hI.f2, hI.f3, hI.f4, hI.f5, hI.f6, hI.f7, hI.f8, hI.f9, hI.f10, hI.f11, hI.f12, hI.f13, hI.f14, hI.f15, hI.f16, hI.f17, hI.f18, hI.f19, hI.f20, hI.f21, hI.f22, hI.f23, hI.f24, hI.f25, hI.f26, hI.f27, hI.f28, hI.f29, hI.f30, hI.f31, hI.f32, hI.f33, hI.f34, hI.f35, hI.f36, hI.f37, hI.f38, hI.f39, hI.f40, hI.f41, hI.f42, hI.f43, hI.f44, hI.f45, hI.f46, hI.f47, hI.f48, hI.f49, hI.f50, hI.f51, hI.f52, hI.f53, hI.f54, hI.f55, hI.f56, hI.f57, hI.f58, hI.f59, hI.f60, hI.f61, hI.f62, hI.f63, hI.f64, hI.f65, hI.f66, ?_, hI.f68, hI.f69, hI.f70, hI.f71⟩ <;> (first | exact fun _ => rfl | skip))
    | (refine ⟨?_, ?_, ?_, ?_, ?_, ?_, ?_, ?_, ?_, ?_, ?_, ?_, ?_, ?_, ?_, ?_, ?_, ?_, ?_, ?_, ?_, ?_, ?_, ?_, ?_, ?_, ?_, ?_, ?_, ?_, ?_, ?_, ?_, ?_, ?_, ?_, ?_, ?_, ?_, ?_, ?_, ?_, ?_, ?_, ?_, ?_, ?_, ?_, ?_, ?_, ?_, ?_, ?_, ?_, ?_, ?_, ?_, ?_, ?_, ?_, ?_, ?_, ?_, ?_, ?_, ?_, ?_, ?_, ?_, ?_, ?_, ?_, ?_⟩ <;> (first | exact hI.x | exact hI.f0 | exact hI.f1 | exact hI.f2 | exact hI.f3 | exact hI.f4 | exact hI.f5 | exact hI.f6 | exact hI.f7 | exact hI.f8 | exact hI.f9 | exact hI.f10 | exact hI.f11 | exact hI.f12 | exact hI.f13 | exact hI.f14 | exact hI.f15 | exact hI.f16 | exact hI.f17 | exact hI.f18 | exact hI.f19 | exact hI.f20 | exact hI.f21 | exact hI.f22 | exact hI.f23 | exact hI.f24 | exact hI.f25 | exact hI.f26 | exact hI.f27 | exact hI.f28 | exact hI.f29 | exact hI.f30 | exact hI.f31 | exact hI.f32 | exact hI.f33 | exact hI.f34 | exact hI.f35 | exact hI.f36 | exact hI.f37 | exact hI.f38 | exact hI.f39 | exact hI.f40 | exact hI.f41 | exact hI.f42 | exact hI.f43 | exact hI.f44 | exact hI.f45 | exact hI.f46 | exact hI.f47 | exact hI.f48 | exact hI.f49 | exact hI.f50 | exact hI.f51 | exact hI.f52 | exact hI.f53 | exact hI.f54 | exact hI.f55 | exact hI.f56 | exact hI.f57 | exact hI.f58 | exact hI.f59 | exact hI.f60 | exact hI.f61 | exact hI.f62 | exact hI.f63 | exact hI.f64 | exact hI.f65 | exact hI.f66 | exact hI.f67 | exact hI.f68 | exact hI.f69 | exact hI.f70 | exact hI.f71 | exact fun _ => rfl | skip))
  · intro L us wx K a ha hp hd hun hI hK
    have HX := hI.x
    have u63 := hI.f63 (hp 63 (by kernel_rfl))
    have u67 := hI.f67 (hp 67 (by kernel_rfl))
    obtain ⟨g1, u64, hs1⟩ := hI.f64 (hp 64 (by kernel_rfl))
    obtain ⟨p1, u65, hl1⟩ := hI.f65 (hp 65 (by kernel_rfl))
    have CC := check_c fourS (some ⟨g1, 0, none⟩) 4 (twoL 9 9) (some ⟨p1, 0, none⟩) 2 exTail (some ⟨G5, 5, none⟩) 3 (by decide) wx hs1 hl1 (slice_tail ((H5.out.ext E5).ext HX))
    rw [show compErr fourS (twoL 9 9) exTail = 8 from ex_tail] at CC
    clear hs1 hl1
    clear hp HX
    replace hd := Lib.hid hd
    simp only [u63, u67, u64, u65] at ha
    subst ha
    simp only [Act.put, List.setIfInBounds_toArray, List.set_cons_succ, List.set_cons_zero] at hK
    go_simp
    go_at_call 18
    refine (CC).mono ?_
    rintro e wn ⟨rfl, En⟩
    go_simp
    refine hK _ _ ?_
    first
    | (refine ⟨hI.x.trans En, hI.f0, hI.f1, hI.f2, hI.f3, hI.f4, hI.f5, hI.f6, hI.f7, hI.f8, hI.f9, hI.f10, hI.f11, hI.f12, hI.f13, hI.f14, hI.f15, hI.f16, hI.f17, hI.f18, hI.f19, hI.f20, hI.f21, hI.f22, hI.f23, hI.f24, hI.f25, hI.f26, hI.f27, hI.f28, hI.f29, hI.f30, hI.f31, hI.f32, hI.f33, hI.f34, hI.f35, hI.f36, hI.f37, hI.f38, hI.f39, hI.f40, hI.f41, hI.f42, hI.f43, hI.f44, hI.f45, hI.f46, hI.f47, hI.f48, hI.f49, hI.f50, hI.f51, hI.f52, hI.f53, hI.f54, hI.f55, hI.f56, hI.f57, hI.f58, hI.f59, hI.f60, hI.f61, hI.f62, hI.f63, ?_, ?_, hI.f66, hI.f67, ?_, hI.f69, hI.f70, hI.f71⟩ <;> (first | exact fun h => (hI.f64 h).ext En | exact fun h => own_ext (hI.f64 h) En | exact fun h => (hI.f65 h).ext En | exact fun h => own_ext (hI.f65 h) En | exact fun _ => rfl | skip))
    | (refine ⟨hI.x.trans En, ?_, ?_, ?_, ?_, ?_, ?_, ?_, ?_, ?_, ?_, ?_, ?_, ?_, ?_, ?_, ?_, ?_, ?_, ?_, ?_, ?_, ?_, ?_, ?_, ?_, ?_, ?_, ?_, ?_, ?_, ?_, ?_, ?_, ?_, ?_, ?_, ?_, ?_, ?_, ?_, ?_, ?_, ?_, ?_, ?_, ?_, ?_, ?_, ?_, ?_, ?_, ?_, ?_, ?_, ?_, ?_, ?_, ?_, ?_, ?_, ?_, ?_, ?_, ?_, ?_, ?_, ?_, ?_, ?_, ?_, ?_, ?_⟩ <;> (first | exact hI.f0 | exact hI.f1 | exact hI.f2 | exact hI.f3 | exact hI.f4 | exact hI.f5 | exact hI.f6 | exact hI.f7 | exact hI.f8 | exact hI.f9 | exact hI.f10 | exact hI.f11 | exact hI.f12 | exact hI.f13 | exact hI.f14 | exact hI.f15 | exact hI.f16 | exact hI.f17 | exact hI.f18 | exact hI.f19 | exact hI.f20 | exact hI.f21 | exact hI.f22 | exact hI.f23 | exact hI.f24 | exact hI.f25 | exact hI.f26 | exact hI.f27 | exact hI.f28 | exact hI.f29 | exact hI.f30 | exact hI.f31 | exact hI.f32 | exact hI.f33 | exact hI.f34 | exact hI.f35 | exact hI.f36 | exact hI.f37 | exact hI.f38 | exact hI.f39 | exact hI.f40 | exact hI.f41 | exact hI.f42 | exact hI.f43 | exact hI.f44 | exact hI.f45 | exact hI.f46 | exact hI.f47 | exact hI.f48 | exact hI.f49 | exact hI.f50 | exact hI.f51 | exact hI.f52 | exact hI.f53 | exact hI.f54 | exact hI.f55 | exact hI.f56 | exact hI.f57 | exact hI.f58 | exact hI.f59 | exact hI.f60 | exact hI.f61 | exact hI.f62 | exact hI.f63 | exact fun h => (hI.f64 h).ext En | exact fun h => (hI.f65 h).ext En | exact hI.f66 | exact hI.f67 | exact hI.f68 | exact hI.f69 | exact hI.f70 | exact hI.f71 | exact fun _ => rfl | skip))
  · intro L us wx K a ha hp hd hun hI hK
    have HX := hI.x
    have u63 := hI.f63 (hp 63 (by kernel_rfl))
    have u68 := hI.f68 (hp 68 (by kernel_rfl))
    clear hp HX
    replace hd := Lib.hid hd
    simp only [u63, u68] at ha
    subst ha
    simp only [Act.put, List.setIfInBounds_toArray, List.set_cons_succ, List.set_cons_zero] at hK
    go_simp
    refine hK _ _ ?_
    first
    | (refine ⟨hI.x, hI.f0, hI.f1, hI.f2, hI.f3, hI.f4, hI.f5, hI.f6, hI.f7, hI.f8, hI.f9, hI.f10, hI.f11, hI.f12, hI.f13, hI.f14, hI.f15, hI.f16, hI.f17, hI.f18, hI.f19, hI.f20, hI.f21, hI.f22, hI.f23, hI.f24, hI.f25, hI.f26, hI.f27, hI.f28, hI.f29, hI.f30, hI.f31, hI.f32, hI.f33, hI.f34, hI.f35, hI.f36, hI.f37, hI.f38, hI.f39, hI.f40, hI.f41, hI.f42, hI.f43, hI.f44, hI.f45, hI.f46, hI.f47, hI.f48, hI.f49, hI.f50, hI.f51, hI.f52, hI.f53, hI.f54, hI.f55, hI.f56, hI.f57, hI.f58, hI.f59, hI.f60, hI.f61, hI.f62, hI.f63, hI.f64, hI.f65, hI.f66, hI.f67, hI.f68, ?_, hI.f70, hI.f71⟩ <;> (first | exact fun _ => rfl | skip))
    | (refine ⟨?_, ?_, ?_, ?_, ?_, ?_, ?_, ?_, ?_, ?_, ?_, ?_, ?_, ?_, ?_, ?_, ?_, ?_, ?_, ?_, ?_, ?_, ?_, ?_, ?_, ?_, ?_, ?_, ?_, ?_, ?_, ?_, ?_, ?_, ?_, ?_, ?_, ?_, ?_, ?_, ?_, ?_, ?_, ?_, ?_, ?_, ?_, ?_, ?_, ?_, ?_, ?_, ?_, ?_, ?_, ?_, ?_, ?_, ?_, ?_, ?_, ?_, ?_, ?_, ?_, ?_, ?_, ?_, ?_, ?_, ?_, ?_, ?_⟩ <;> (first | exact hI.x | exact hI.f0 | exact hI.f1 | exact hI.f2 | exact hI.f3 | exact hI.f4 | exact hI.f5 | exact hI.f6 | exact hI.f7 | exact hI.f8 | exact hI.f9 | exact hI.f10 | exact hI.f11 | exact hI.f12 | exact hI.f13 | exact hI.f14 | exact hI.f15 | exact hI.f16 | exact hI.f17 | exact hI.f18 | exact hI.f19 | exact hI.f20 | exact hI.f21 | exact hI.f22 | exact hI.f23 | exact hI.f24 | exact hI.f25 | exact hI.f26 | exact hI.f27 | exact hI.f28 | exact hI.f29 | exact hI.f30 | exact hI.f31 | exact hI.f32 | exact hI.f33 | exact hI.f34 | exact hI.f35 | exact hI.f36 | exact hI.f37 | exact hI.f38 | exact hI.f39 | exact hI.f40 | exact hI.f41 | exact hI.f42 | exact hI.f43 | exact hI.f44 | exact hI.f45 | exact hI.f46 | exact hI.f47 | exact hI.f48 | exact hI.f49 | exact hI.f50 | exact hI.f51 | exact hI.f52 | exact hI.f53 | exact hI.f54 | exact hI.f55 | exact hI.f56 | exact hI.f57 | exact hI.f58 | exact hI.f59 | exact hI.f60 | exact hI.f61 | exact hI.f62 | exact hI.f63 | exact hI.f64 | exact hI.f65 | exact hI.f66 | exact hI.f67 | exact hI.f68 | exact hI.f69 | exact hI.f70 | exact hI.f71 | exact fun _ => rfl | skip))
  · intro L us wx K a ha hp hd hun hI hK
    have HX := hI.x
    have u63 := hI.f63 (hp 63 (by kernel_rfl))
    have u69 := hI.f69 (hp 69 (by kernel_rfl))
    clear hp HX
    replace hd := Lib.hid hd
    simp only [u63, u69] at ha
    subst ha
    simp only [Act.put, List.setIfInBounds_toArray, List.set_cons_succ, List.set_cons_zero] at hK
    go_simp
    refine hK _ _ ?_
    first
    | (refine ⟨hI.x, hI.f0, hI.f1, hI.f2, hI.f3, hI.f4, hI.f5, hI.f6, hI.f7, hI.f8, hI.f9, hI.f10, hI.f11, hI.f12, hI.f13, hI.f14, hI.f15, hI.f16, hI.f17, hI.f18, hI.f19, hI.f20, hI.f21, hI.f22, hI.f23, hI.f24, hI.f25, hI.f26, hI.f27, hI.f28, hI.f29, hI.f30, hI.f31, hI.f32, hI.f33, hI.f34, hI.f35, hI.f36, hI.f37, hI.f38, hI.f39, hI.f40, hI.f41, hI.f42, hI.f43, hI.f44, hI.f45, hI.f46, hI.f47, hI.f48, hI.f49, hI.f50, hI.f51, hI.f52, hI.f53, hI.f54, hI.f55, hI.f56, hI.f57, hI.f58, hI.f59, hI.f60, hI.f61, hI.f62, hI.f63, hI.f64, hI.f65, hI.f66, hI.f67, hI.f68, hI.f69, ?_, hI.f71⟩ <;> (first | exact fun _ => rfl | skip))
    | (refine ⟨?_, ?_, ?_, ?_, ?_, ?_, ?_, ?_, ?_, ?_, ?_, ?_, ?_, ?_, ?_, ?_, ?_, ?_, ?_, ?_, ?_, ?_, ?_, ?_, ?_, ?_, ?_, ?_, ?_, ?_, ?_, ?_, ?_, ?_, ?_, ?_, ?_, ?_, ?_, ?_, ?_, ?_, ?_, ?_, ?_, ?_, ?_, ?_, ?_, ?_, ?_, ?_, ?_, ?_, ?_, ?_, ?_, ?_, ?_, ?_, ?_, ?_, ?_, ?_, ?_, ?_, ?_, ?_, ?_, ?_, ?_, ?_, ?_⟩ <;> (first | exact hI.x | exact hI.f0 | exact hI.f1 | exact hI.f2 | exact hI.f3 | exact hI.f4 | exact hI.f5 | exact hI.f6 | exact hI.f7 | exact hI.f8 | exact hI.f9 | exact hI.f10 | exact hI.f11 | exact hI.f12 | exact hI.f13 | exact hI.f14 | exact hI.f15 | exact hI.f16 | exact hI.f17 | exact hI.f18 | exact hI.f19 | exact hI.f20 | exact hI.f21 | exact hI.f22 | exact hI.f23 | exact hI.f24 | exact hI.f25 | exact hI.f26 | exact hI.f27 | exact hI.f28 | exact hI.f29 | exact hI.f30 | exact hI.f31 | exact hI.f32 | exact hI.f33 | exact hI.f34 | exact hI.f35 | exact hI.f36 | exact hI.f37 | exact hI.f38 | exact hI.f39 | exact hI.f40 | exact hI.f41 | exact hI.f42 | exact hI.f43 | exact hI.f44 | exact hI.f45 | exact hI.f46 | exact hI.f47 | exact hI.f48 | exact hI.f49 | exact hI.f50 | exact hI.f51 | exact hI.f52 | exact hI.f53 | exact hI.f54 | exact hI.f55 | exact hI.f56 | exact hI.f57 | exact hI.f58 | exact hI.f59 | exact hI.f60 | exact hI.f61 | exact hI.f62 | exact hI.f63 | exact hI.f64 | exact hI.f65 | exact hI.f66 | exact hI.f67 | exact hI.f68 | exact hI.f69 | exact hI.f70 | exact hI.f71 | exact fun _ => rfl | skip))
  · intro L us wx K a ha hp hd hun hI hK
    have HX := hI.x
    have u70 := hI.f70 (hp 70 (by kernel_rfl))
    clear hp HX
    replace hd := Lib.hid hd
    simp only [u70] at ha
    subst ha
    simp only [Act.put, List.setIfInBounds_toArray, List.set_cons_zero] at hK
    go_simp
    exact hK _ _ {hI with f71 := fun _ => rfl}
  intro L us W9 hall hI
  have e := hI.f71 (hall 71 (by simp))
  have HE := Lib.hid (E.trans hI.x)
  simp only [e]
  clear hall hI e
  go_wp2_with fail
  go_ret
  exact ⟨rfl, HE.out⟩
end Go.Proofs.YtaaeapjnjjbglaaDoor
