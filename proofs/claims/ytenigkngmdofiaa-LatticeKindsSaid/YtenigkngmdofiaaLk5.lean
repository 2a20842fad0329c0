/- cells of the program: the cells of a placed kind, in order, in new memory. Conditions: the kind's cells are valid, the turn is one, the place is not far. Turn, Direction, and the reference's. knobs of the program: the knobs of a placed kind, in new memory. Conditions: the kind's knobs are valid, the turn is one, the place is not far. The reference's Pointed, Direction, Composed, Compose, Inverse, Invert. Placed and Knobbed of the reference: the cells, in order, and the knobs of a placed brick, in new memory. Conditions: the brick is valid. -/
import Derived.Test.YtenigkngmdofiaaLk4

namespace Go.Proofs.Ytenigkngmdofiaa
open Go.RowKit

def placeP (cells : List Pt) (n : Nat) (p : Pt) : List Pt := cells.map fun c => addP (turnS c n) p
theorem placeP_len (cells : List Pt) (n : Nat) (p : Pt) : (placeP cells n p).length = cells.length := List.length_map _
/-- The first j of a list, and the rest still at 0. -/
def partL {α : Type} (z : α) (l : List α) (j : Nat) : List α := l.take j ++ List.replicate (l.length - j) z
theorem partL_zero {α : Type} (z : α) (l : List α) : partL z l 0 = List.replicate l.length z := by simp [partL]
theorem partL_all {α : Type} (z : α) (l : List α) : partL z l l.length = l := by simp [partL]
theorem partL_len {α : Type} (z : α) (l : List α) {j : Nat} (hj : j ≤ l.length) : (partL z l j).length = l.length := by simp [partL]; omega
theorem partL_set {α : Type} (z : α) (l : List α) {j : Nat} {x : α} (hx : l[j]? = some x) : (partL z l j).set j x = partL z l (j + 1) := by
  have hj : j < l.length := (List.getElem?_eq_some_iff.1 hx).1
  unfold partL
  rw [List.take_add_one, hx, List.set_append_right _ _ (by rw [List.length_take]; omega)]
  have e : l.length - j = (l.length - (j + 1)) + 1 := by omega
  rw [e, List.replicate_succ]
  simp [Nat.min_eq_left (Nat.le_of_lt hj)]
theorem partL_at {α : Type} (z : α) (l : List α) {j : Nat} (hj : j < l.length) : (partL z l j)[j]? = some z := by
  unfold partL
  rw [List.getElem?_append_right (by rw [List.length_take]; omega), List.length_take, Nat.min_eq_left (Nat.le_of_lt hj), Nat.sub_self, List.getElem?_replicate, if_pos (by omega)]
theorem infoPt : (Try.prog.info? 23).map (fun i => (i.zero, i.size, i.bytes)) = some (some (.agg #[.int .i64 0, .int .i64 0, .int .i64 0]), 3, 24) := by kernel_rfl
theorem make_pts (n : Nat) (hn : n ≤ 1000) (w : World) : (Instr.makeSlice 36 (.int .i64 (n : Int)) (.int .i64 (n : Int))).run Try.prog w = .ok (.slice (some ⟨w.heap.size, 0, none⟩) n n) (w.alloc (.cells (ptsA (List.replicate n ⟨0, 0, 0⟩)) 23)) := by
  obtain ⟨i0, hi, hz0, hz1, hz2⟩ := info_parts infoPt
  have h := run_make (P := Try.prog) w 36 23 i0 (.agg #[.int .i64 0, .int .i64 0, .int .i64 0]) Try.underlying36 hi hz0 .i64 .i64 (n : Int) (n : Int) (by omega) (Int.le_refl _) (by rw [hz2]; omega) (by omega)
  rw [h]
  have e : madeCells (Value.cells (.agg #[.int .i64 0, .int .i64 0, .int .i64 0])) ((n : Int).toNat * i0.size) = ptsA (List.replicate n ⟨0, 0, 0⟩) := by
    rw [hz1, Int.toNat_natCast, rowsA_made (sz := 3) rfl (by omega)]
    unfold ptsA
    rw [List.map_replicate]
    rfl
  rw [e]
  simp
/-- New cells: a block that was not there. -/
def CellsPost (l : List Pt) (n : Nat) (w : World) (e : Ending) (w' : World) : Prop := ∃ g, w.heap.size ≤ g ∧ e = .returned (.slice (some ⟨g, 0, none⟩) n n) ∧ Blk w' g 23 (ptsA l) ∧ Ext w w'
set_option maxRecDepth 100000 in
set_option maxHeartbeats 8000000 in
theorem cells_c (cells : List Pt) (m cb : Nat) (wt : Int) (A : Option Addr) (ca : Nat) (B : Option Addr) (n : Nat) (x y z : Int) (w : World) (hc : Cells w A ca cells) (hl : cells.length ≤ 1000) (hok : ∀ p ∈ cells, p.ok) (hn : n < 24) (hp : Pt.ok ⟨x, y, z⟩) :
    Calls Try.prog 64 #[.agg #[.slice A cells.length ca, .slice B m cb, .int .i64 wt], .int .i64 n, .agg #[.int .i64 x, .int .i64 y, .int .i64 z]] w (CellsPost (sortP (placeP cells n ⟨x, y, z⟩)) cells.length w) := by
  have hmk := make_pts cells.length (by omega)
  obtain ⟨W1, hW1, E1, B1, hz1⟩ := mk_ w #[.slice A cells.length ca, .slice B m cb, .int .i64 wt] 39
  obtain ⟨W2, hW2, E2, B2, hz2⟩ := mk_ W1 #[.int .i64 x, .int .i64 y, .int .i64 z] 23
  obtain ⟨W3, hW3, E3, B3, hz3⟩ := mk_ W2 (ptsA (List.replicate cells.length ⟨0, 0, 0⟩)) 23
  rw [hz1] at B2
  rw [hz2, hz1] at B3
  have B1' := B1.ext E2
  have b1 := B1'.cell
  have b3 := (B1'.ext E3).cell
  have E13 := (E1.trans E2).trans E3
  go_enter Try.func64, Try.ntmps64
  go_wp2_with fail
  have BK := B1'.ext E3
  have BP := B2.ext E3
  rw [← placeP_len cells n ⟨x, y, z⟩, ← partL_zero] at B3
  clear hW1 hW2 hW3 hz1 hz2 hz3 b1 b3 B1 B1' B2 hmk E1 E2 E3
  have Hpl := Lib.hid (placeP_len cells n ⟨x, y, z⟩)
  obtain ⟨S, hS⟩ : ∃ S, w.heap.size = S := ⟨_, rfl⟩
  rw [hS] at B3 BK BP ⊢
  have HS := Lib.hid hS
  clear hS
  go_loopw [17] (fun i wr => ∃ j : Nat, j ≤ cells.length ∧ i = .int .i64 j ∧ Ext w wr ∧ Blk wr S 39 #[.slice A cells.length ca, .slice B m cb, .int .i64 wt] ∧ Blk wr (S + 1) 23 #[.int .i64 x, .int .i64 y, .int .i64 z] ∧ Blk wr (S + 1 + 1) 23 (ptsA (partL ⟨0, 0, 0⟩ (placeP cells n ⟨x, y, z⟩) j))) (fun i _ => cells.length - (intOf i).toNat)
  case atStart => exact ⟨0, by omega, rfl, E13, BK, BP, B3⟩
  case round =>
    clear B3 BK BP E13
    obtain ⟨j, hj, rfl, E, BK, BP, BO⟩ := hrel
    by_cases hlt : j < cells.length
    · obtain ⟨g, off, ⟨qx, qy, qz⟩, rfl, hq, hg, c0, c1, c2⟩ := hc.at_ hlt
      simp only at c0 c1 c2
      have d0 := E.cell c0
      have d1 := E.cell c1
      have d2 := E.cell c2
      clear c0 c1 c2
      have hqo := hok _ (List.mem_of_getElem? hq)
      have hset : (placeP cells n ⟨x, y, z⟩)[j]? = some (addP (turnS ⟨qx, qy, qz⟩ n) ⟨x, y, z⟩) := by
        unfold placeP
        rw [List.getElem?_map, hq]
        rfl
      have Hset := Lib.hid hset
      clear hq hset
      have i1 : (0 : Int) ≤ j := by omega
      have i2 : (j : Int) < cells.length := by omega
      obtain ⟨W4, hW4, E4, B4, hz4⟩ := mk_ wr #[.int .i64 qx, .int .i64 qy, .int .i64 qz] 23
      have b4 := B4.cell
      have b2 := (BP.ext E4).cell
      go_upto_region 5 with (fail)
      refine wp_region_tail 8 (by kernel_rfl) (by kernel_rfl) ?_
      simp only [List.take_succ_cons, List.take_zero, List.drop_succ_cons, List.drop_zero]
      repeat (go_big_quiet_step ((first | (go_at_call 43; exact quiet_ext (turn_c qx qy qz n _ hn hqo)) | (go_at_call 57; exact quiet_ext (plus_c _ _ _ _ _ _ _ (turnS_ok hqo n) hp)))))
      refine wpQuiet_nil ?_
      intro W5 hW5
      have E5 : Ext W4 W5 := by
        obtain ⟨x, rfl⟩ := hW5
        exact (Ext.refl _).grow x
      clear hW5
      obtain ⟨hcW5, hfW5, hzW5⟩ := ext_facts E5
      have BO' := (BO.ext E4).ext E5
      unfold ptsA at BO'
      obtain ⟨W6, hW6, B6, far6, ext6, hz6⟩ := BO'.row3 (pts_wide _) (k := j) (by rw [List.length_map, partL_len _ _ (by rw [Hpl.out]; omega), Hpl.out]; omega) (.int .i64 ((turnS ⟨qx, qy, qz⟩ n).x + x)) (.int .i64 ((turnS ⟨qx, qy, qz⟩ n).y + y)) (.int .i64 ((turnS ⟨qx, qy, qz⟩ n).z + z))
      have f6 := BO'.frozen
      have hz0 : ((partL (⟨0, 0, 0⟩ : Pt) (placeP cells n ⟨x, y, z⟩) j).map Pt.cs)[j]? = some (Pt.cs ⟨0, 0, 0⟩) := by rw [List.getElem?_map, partL_at _ _ (by rw [Hpl.out]; exact hlt)]; rfl
      have y0 := (BO'.cell (j * 3 + 0)).trans (rowsA_get (pts_wide _) hz0 (j := 0) rfl)
      have y1 := (BO'.cell (j * 3 + 1)).trans (rowsA_get (pts_wide _) hz0 (j := 1) rfl)
      have y2 := (BO'.cell (j * 3 + 2)).trans (rowsA_get (pts_wide _) hz0 (j := 2) rfl)
      simp only [Nat.add_zero] at y0
      clear hz0
      go_wp2_with fail
      go_roundw
      case rel => exact ⟨j + 1, by omega, by go_num, ext6 _ ((E.trans E4).trans E5) (by have := HS.out; omega), far6 _ _ _ (by omega) ((BK.ext E4).ext E5), far6 _ _ _ (by omega) ((BP.ext E4).ext E5), by
        rw [← partL_set _ _ Hset.out]
        unfold ptsA
        rw [List.map_set]
        exact B6⟩
      case measure => simp only [intOf]; omega
    · obtain rfl : cells.length = j := by omega
      have hpa : partL ⟨0, 0, 0⟩ (placeP cells n ⟨x, y, z⟩) cells.length = placeP cells n ⟨x, y, z⟩ := by
        have := partL_all ⟨0, 0, 0⟩ (placeP cells n ⟨x, y, z⟩)
        rwa [Hpl.out] at this
      rw [hpa] at BO
      have SF := sortFunc_c (placeP cells n ⟨x, y, z⟩) (S + 1 + 1) wr BO (by rw [Hpl.out]; omega)
      rw [Hpl.out] at SF
      clear hpa
      go_wp2_with fail
      refine SF.mono ?_
      rintro v w2 ⟨rfl, B2, G2⟩
      go_wp2_with fail
      go_ret
      exact ⟨S + 1 + 1, by have := HS.out; omega, rfl, B2, E.grown G2 (fun k hk => by cases hk; have := HS.out; omega)⟩
end Go.Proofs.Ytenigkngmdofiaa

namespace Go.Proofs.Ytenigkngmdofiaa
open Go.RowKit

/-- One number in a new block, as a list of numbers. -/
theorem ints1 (w : World) (n : Int) (t : TypeId) : SliceIs (w.alloc (.cells #[.int .i64 n] t)) (some ⟨w.heap.size, 0, none⟩) 1 1 1 ([n].map fun n => [.int .i64 n]) := by
  refine ⟨rfl, Nat.le_refl _, by unfold maxLen; omega, by simp, fun _ => ⟨_, 0, rfl, by simp, fun i r hr j u hu => ?_⟩⟩
  have hi : i = 0 := by
    rcases Nat.eq_zero_or_pos i with h | h
    · exact h
    · rw [List.getElem?_eq_none (by simp; omega)] at hr; cases hr
  subst hi
  simp at hr
  subst hr
  have hj : j = 0 := by
    rcases Nat.eq_zero_or_pos j with h | h
    · exact h
    · rw [List.getElem?_eq_none (by simp; omega)] at hu; cases hu
  subst hj
  simp at hu
  subst hu
  rw [cell_new]
  rfl
theorem isTurn1_c (w : World) (n : Int) (t : TypeId) :
    Calls Try.prog 42 #[.slice (some ⟨w.heap.size, 0, none⟩) 1 1] (w.alloc (.cells #[.int .i64 n] t)) fun e w' => e = .returned (.bool (inB 0 23 n)) ∧ w.alloc (.cells #[.int .i64 n] t) = w' :=
  (isTurn_c _ 1 [n] _ (ints1 w n t)).mono fun e w' ⟨he, hw⟩ => ⟨by rw [he]; simp [allTurn], hw⟩

def turnOk (p : Pt) (n : Int) : Prop := nearB p (-2000) 2000 = true ∧ 0 ≤ n ∧ n < 24
theorem near_ok {p : Pt} (h : nearB p (-2000) 2000 = true) : p.ok := by
  have := nearB_iff.1 h
  unfold Pt.ok CB
  omega

set_option maxHeartbeats 800000 in
theorem Turn_ok (x y z : Int) (n : Nat) (w : World) (hn : n < 24) (hp : nearB ⟨x, y, z⟩ (-2000) 2000 = true) :
    Calls Try.prog 6 #[.agg #[.int .i64 x, .int .i64 y, .int .i64 z], .int .i64 n] w fun e w' =>
      e = .returned (.tuple #[.agg #[.int .i64 (turnS ⟨x, y, z⟩ n).x, .int .i64 (turnS ⟨x, y, z⟩ n).y, .int .i64 (turnS ⟨x, y, z⟩ n).z], .int .i64 0]) ∧ Ext w w' := by
  have hok := near_ok hp
  have hi : inB 0 23 (n : Int) = true := inB_iff.2 (by omega)
  obtain ⟨W, hW, E, ba, bb, hz⟩ := boxes2 w #[.int .i64 x, .int .i64 y, .int .i64 z] #[.int .i64 0, .int .i64 0, .int .i64 0] 23 23
  have B0 : Blk W w.heap.size 23 #[.int .i64 x, .int .i64 y, .int .i64 z] := by rw [← hW]; exact (Blk.new _ _ _).alloc _
  have B1 : Blk W (w.heap.size + 1) 23 #[.int .i64 0, .int .i64 0, .int .i64 0] := by
    rw [← hW]
    have := Blk.new (w.alloc (.cells #[.int .i64 x, .int .i64 y, .int .i64 z] 23)) #[.int .i64 0, .int .i64 0, .int .i64 0] 23
    rwa [World.size_alloc] at this
  go_enter Try.func6, Try.ntmps6
  go_wp2_with fail
  refine (near_c x y z _ _ _).mono ?_
  rintro e w1 ⟨rfl, E1⟩
  go_wp2_with fail
  refine (isTurn1_c w1 n _).mono ?_
  rintro e w2 ⟨rfl, rfl⟩
  have B02 := (B0.ext E1).alloc (.cells #[.int .i64 n] 3)
  have B12 := (B1.ext E1).alloc (.cells #[.int .i64 n] 3)
  have E2 := (E.trans E1).alloc (.cells #[.int .i64 n] 3)
  have c2 := B02.cell
  obtain ⟨w2, hw2⟩ : ∃ w2, w1.alloc (.cells #[.int .i64 n] 3) = w2 := ⟨_, rfl⟩
  rw [hw2] at B02 B12 E2 c2
  go_wp2_with fail
  refine (turn_c x y z n _ hn hok).mono ?_
  rintro e w3 ⟨rfl, E3⟩
  have B13 := B12.ext E3
  have c3 := B13.cell
  have f3 := B13.frozen
  obtain ⟨q, hq⟩ : ∃ q, turnS ⟨x, y, z⟩ n = q := ⟨_, rfl⟩
  rw [hq]
  have Hq := Lib.hid hq
  clear hq
  go_wp2_with fail
  refine bodyPost_ret (v := .tuple #[.agg #[.int .i64 q.x, .int .i64 q.y, .int .i64 q.z], .int .i64 0]) (by simp [results, Try.results6, go_sem, c3]) rfl ⟨by rw [Hq.out], ?_⟩
  exact (((E2.trans E3).setCell (Nat.le_succ _) _).setCell (Nat.le_succ _) _).setCell (Nat.le_succ _) _

set_option maxHeartbeats 800000 in
theorem Turn_bad (x y z n : Int) (w : World) (hb : ¬ turnOk ⟨x, y, z⟩ n) :
    Calls Try.prog 6 #[.agg #[.int .i64 x, .int .i64 y, .int .i64 z], .int .i64 n] w fun e w' =>
      e = .returned (.tuple #[.agg #[.int .i64 0, .int .i64 0, .int .i64 0], .int .i64 2]) ∧ Ext w w' := by
  obtain ⟨W, hW, E, ba, bb, hz⟩ := boxes2 w #[.int .i64 x, .int .i64 y, .int .i64 z] #[.int .i64 0, .int .i64 0, .int .i64 0] 23 23
  have B1 : Blk W (w.heap.size + 1) 23 #[.int .i64 0, .int .i64 0, .int .i64 0] := by
    rw [← hW]
    have := Blk.new (w.alloc (.cells #[.int .i64 x, .int .i64 y, .int .i64 z] 23)) #[.int .i64 0, .int .i64 0, .int .i64 0] 23
    rwa [World.size_alloc] at this
  cases hp : nearB ⟨x, y, z⟩ (-2000) 2000
  · clear hb
    go_enter Try.func6, Try.ntmps6
    go_wp2_with fail
    refine (near_c x y z _ _ _).mono ?_
    rintro e w1 ⟨rfl, E1⟩
    have B12 := B1.ext E1
    have c3 := B12.cell
    have f3 := B12.frozen
    go_wp2_with fail
    refine bodyPost_ret (v := .tuple #[.agg #[.int .i64 0, .int .i64 0, .int .i64 0], .int .i64 2]) (by simp [results, Try.results6, go_sem, c3]) rfl ⟨rfl, ?_⟩
    exact (((E.trans E1).setCell (Nat.le_succ _) _).setCell (Nat.le_succ _) _).setCell (Nat.le_succ _) _
  · have hi : inB 0 23 n = false := inB_not.2 (fun h => hb ⟨hp, h.1, by omega⟩)
    clear hb
    go_enter Try.func6, Try.ntmps6
    go_wp2_with fail
    refine (near_c x y z _ _ _).mono ?_
    rintro e w1 ⟨rfl, E1⟩
    go_wp2_with fail
    refine (isTurn1_c w1 n _).mono ?_
    rintro e w2 ⟨rfl, rfl⟩
    have B12 := (B1.ext E1).alloc (.cells #[.int .i64 n] 3)
    have E2 := (E.trans E1).alloc (.cells #[.int .i64 n] 3)
    obtain ⟨w2, hw2⟩ : ∃ w2, w1.alloc (.cells #[.int .i64 n] 3) = w2 := ⟨_, rfl⟩
    rw [hw2] at B12 E2
    have c3 := B12.cell
    have f3 := B12.frozen
    go_wp2_with fail
    refine bodyPost_ret (v := .tuple #[.agg #[.int .i64 0, .int .i64 0, .int .i64 0], .int .i64 2]) (by simp [results, Try.results6, go_sem, c3]) rfl ⟨rfl, ?_⟩
    exact ((E2.setCell (Nat.le_succ _) _).setCell (Nat.le_succ _) _).setCell (Nat.le_succ _) _

set_option maxHeartbeats 800000 in
theorem rTurn_ok (x y z : Int) (n : Nat) (w : World) (hn : n < 24) (hp : nearB ⟨x, y, z⟩ (-2000) 2000 = true) :
    Calls Try.prog 7 #[.agg #[.int .i64 x, .int .i64 y, .int .i64 z], .int .i64 n] w fun e w' =>
      e = .returned (.tuple #[.agg #[.int .i64 (turnS ⟨x, y, z⟩ n).x, .int .i64 (turnS ⟨x, y, z⟩ n).y, .int .i64 (turnS ⟨x, y, z⟩ n).z], .int .i64 0]) ∧ Ext w w' := by
  have hok := near_ok hp
  have hi : inB 0 23 (n : Int) = true := inB_iff.2 (by omega)
  obtain ⟨W, hW, E, ba, bb, hz⟩ := boxes2 w #[.int .i64 x, .int .i64 y, .int .i64 z] #[.int .i64 0, .int .i64 0, .int .i64 0] 23 23
  have B0 : Blk W w.heap.size 23 #[.int .i64 x, .int .i64 y, .int .i64 z] := by rw [← hW]; exact (Blk.new _ _ _).alloc _
  have B1 : Blk W (w.heap.size + 1) 23 #[.int .i64 0, .int .i64 0, .int .i64 0] := by
    rw [← hW]
    have := Blk.new (w.alloc (.cells #[.int .i64 x, .int .i64 y, .int .i64 z] 23)) #[.int .i64 0, .int .i64 0, .int .i64 0] 23
    rwa [World.size_alloc] at this
  go_enter Try.func7, Try.ntmps7
  go_wp2_with fail
  refine (rnear_c x y z _ _ _).mono ?_
  rintro e w1 ⟨rfl, E1⟩
  go_wp2_with fail
  refine (risTurn_c n _).mono ?_
  rintro e w2 ⟨rfl, rfl⟩
  have B02 := B0.ext E1
  have B12 := B1.ext E1
  have E2 := E.trans E1
  have c2 := B02.cell
  go_wp2_with fail
  refine (turned_c x y z n _ hn hok).mono ?_
  rintro e w3 ⟨rfl, E3⟩
  have B13 := B12.ext E3
  have c3 := B13.cell
  have f3 := B13.frozen
  obtain ⟨q, hq⟩ : ∃ q, turnS ⟨x, y, z⟩ n = q := ⟨_, rfl⟩
  rw [hq]
  have Hq := Lib.hid hq
  clear hq
  go_wp2_with fail
  refine bodyPost_ret (v := .tuple #[.agg #[.int .i64 q.x, .int .i64 q.y, .int .i64 q.z], .int .i64 0]) (by simp [results, Try.results7, go_sem, c3]) rfl ⟨by rw [Hq.out], ?_⟩
  exact (((E2.trans E3).setCell (Nat.le_succ _) _).setCell (Nat.le_succ _) _).setCell (Nat.le_succ _) _

set_option maxHeartbeats 800000 in
theorem rTurn_bad (x y z n : Int) (w : World) (hb : ¬ turnOk ⟨x, y, z⟩ n) :
    Calls Try.prog 7 #[.agg #[.int .i64 x, .int .i64 y, .int .i64 z], .int .i64 n] w fun e w' =>
      e = .returned (.tuple #[.agg #[.int .i64 0, .int .i64 0, .int .i64 0], .int .i64 2]) ∧ Ext w w' := by
  obtain ⟨W, hW, E, ba, bb, hz⟩ := boxes2 w #[.int .i64 x, .int .i64 y, .int .i64 z] #[.int .i64 0, .int .i64 0, .int .i64 0] 23 23
  have B1 : Blk W (w.heap.size + 1) 23 #[.int .i64 0, .int .i64 0, .int .i64 0] := by
    rw [← hW]
    have := Blk.new (w.alloc (.cells #[.int .i64 x, .int .i64 y, .int .i64 z] 23)) #[.int .i64 0, .int .i64 0, .int .i64 0] 23
    rwa [World.size_alloc] at this
  cases hp : nearB ⟨x, y, z⟩ (-2000) 2000
  · clear hb
    go_enter Try.func7, Try.ntmps7
    go_wp2_with fail
    refine (rnear_c x y z _ _ _).mono ?_
    rintro e w1 ⟨rfl, E1⟩
    have B12 := B1.ext E1
    have c3 := B12.cell
    have f3 := B12.frozen
    go_wp2_with fail
    refine bodyPost_ret (v := .tuple #[.agg #[.int .i64 0, .int .i64 0, .int .i64 0], .int .i64 2]) (by simp [results, Try.results7, go_sem, c3]) rfl ⟨rfl, ?_⟩
    exact (((E.trans E1).setCell (Nat.le_succ _) _).setCell (Nat.le_succ _) _).setCell (Nat.le_succ _) _
  · have hi : inB 0 23 n = false := inB_not.2 (fun h => hb ⟨hp, h.1, by omega⟩)
    clear hb
    go_enter Try.func7, Try.ntmps7
    go_wp2_with fail
    refine (rnear_c x y z _ _ _).mono ?_
    rintro e w1 ⟨rfl, E1⟩
    go_wp2_with fail
    refine (risTurn_c n _).mono ?_
    rintro e w2 ⟨rfl, rfl⟩
    have B12 := B1.ext E1
    have E2 := E.trans E1
    have c3 := B12.cell
    have f3 := B12.frozen
    go_wp2_with fail
    refine bodyPost_ret (v := .tuple #[.agg #[.int .i64 0, .int .i64 0, .int .i64 0], .int .i64 2]) (by simp [results, Try.results7, go_sem, c3]) rfl ⟨rfl, ?_⟩
    exact ((E2.setCell (Nat.le_succ _) _).setCell (Nat.le_succ _) _).setCell (Nat.le_succ _) _

/-- Where a turn takes a direction. -/
def dirT (d n : Nat) : Nat := ((List.range 6).find? fun i => (stepS i).eqB (turnS (stepS d) n)).getD 0
theorem dirT_all : ∀ d, d < 6 → ∀ n, n < 24 → (dirT d n < 6 ∧ Pt.eqB (stepS (dirT d n)) (turnS (stepS d) n) = true) := by decide +kernel
theorem dirT_lt {d n : Nat} (hd : d < 6) (hn : n < 24) : dirT d n < 6 := (dirT_all d hd n hn).1
theorem dirT_eq {d n : Nat} (hd : d < 6) (hn : n < 24) : turnS (stepS d) n = stepS (dirT d n) := (Pt.eqB_iff.1 (dirT_all d hd n hn).2).symm

set_option maxHeartbeats 800000 in
theorem Direction_ok (d n : Nat) (w : World) (hd : d < 6) (hn : n < 24) :
    Calls Try.prog 8 #[.int .i64 d, .int .i64 n] w fun e w' => e = .returned (.tuple #[.int .i64 (dirT d n), .int .i64 0]) ∧ Ext w w' := by
  have hi : inB 0 23 (n : Int) = true := inB_iff.2 (by omega)
  have hlt := dirT_lt hd hn
  have He := Lib.hid (dirT_eq hd hn)
  go_enter Try.func8, Try.ntmps8
  go_wp2_with fail
  refine (isTurn1_c w n _).mono ?_
  rintro e w2 ⟨rfl, rfl⟩
  go_wp2_with fail
  refine (step_c d hd _).mono ?_
  rintro e w1 ⟨rfl, E1⟩
  go_wp2_with fail
  refine (turn_c (stepS d).x (stepS d).y (stepS d).z n _ hn (stepS_ok d)).mono ?_
  rintro e w3 ⟨rfl, E3⟩
  rw [show turnS ⟨(stepS d).x, (stepS d).y, (stepS d).z⟩ n = stepS (dirT d n) from He.out]
  go_wp2_with fail
  refine (direction_c _ hlt _).mono ?_
  rintro e w4 ⟨rfl, E4⟩
  go_wp2_with fail
  go_ret2
  exact ⟨rfl, ((((Ext.refl w).alloc _).trans E1).trans E3).trans E4⟩

set_option maxHeartbeats 800000 in
theorem Direction_bad (d n : Int) (w : World) (hb : ¬ ((0 ≤ d ∧ d ≤ 5) ∧ 0 ≤ n ∧ n < 24)) :
    Calls Try.prog 8 #[.int .i64 d, .int .i64 n] w fun e w' => e = .returned (.tuple #[.int .i64 0, .int .i64 2]) ∧ Ext w w' := by
  by_cases h1 : d < 0
  · clear hb
    go_enter Try.func8, Try.ntmps8
    go_wp2_with fail
    go_ret2
    exact ⟨rfl, Ext.refl _⟩
  · by_cases h2 : 5 < d
    · clear hb
      go_enter Try.func8, Try.ntmps8
      go_wp2_with fail
      go_ret2
      exact ⟨rfl, Ext.refl _⟩
    · have hi : inB 0 23 n = false := inB_not.2 (fun h => hb ⟨⟨by omega, by omega⟩, by omega, by omega⟩)
      clear hb
      go_enter Try.func8, Try.ntmps8
      go_wp2_with fail
      refine (isTurn1_c w n _).mono ?_
      rintro e w2 ⟨rfl, rfl⟩
      go_wp2_with fail
      go_ret2
      exact ⟨rfl, by apply_rules [Ext.refl, Ext.alloc]⟩
end Go.Proofs.Ytenigkngmdofiaa

namespace Go.Proofs.Ytenigkngmdofiaa
open Go.RowKit

def knobT (n : Nat) (p : Pt) (x : Knb) : Knb := ⟨addP (turnS x.at_ n) p, dirT x.dir.toNat n, x.sort⟩
def placeK (knobs : List Knb) (n : Nat) (p : Pt) : List Knb := knobs.map (knobT n p)
theorem placeK_len (knobs : List Knb) (n : Nat) (p : Pt) : (placeK knobs n p).length = knobs.length := List.length_map _
def knbsA (l : List Knb) : Array Value := rowsA (l.map Knb.cs)
theorem knbs_wide (l : List Knb) : ∀ r ∈ l.map Knb.cs, r.length = 5 := fun r h => by
  obtain ⟨p, _, rfl⟩ := List.mem_map.1 h
  rfl
theorem infoKnb : (Try.prog.info? 68).map (fun i => (i.zero, i.size, i.bytes)) = some (some (.agg #[.int .i64 0, .int .i64 0, .int .i64 0, .int .u8 0, .int .u8 0]), 5, 32) := by kernel_rfl
def zK : Knb := ⟨⟨0, 0, 0⟩, 0, 0⟩
theorem make_knbs (n : Nat) (hn : n ≤ 1000) (w : World) : (Instr.makeSlice 37 (.int .i64 (n : Int)) (.int .i64 (n : Int))).run Try.prog w = .ok (.slice (some ⟨w.heap.size, 0, none⟩) n n) (w.alloc (.cells (knbsA (List.replicate n zK)) 68)) := by
  obtain ⟨i0, hi, hz0, hz1, hz2⟩ := info_parts infoKnb
  have h := run_make (P := Try.prog) w 37 68 i0 _ Try.underlying37 hi hz0 .i64 .i64 (n : Int) (n : Int) (by omega) (Int.le_refl _) (by rw [hz2]; omega) (by omega)
  rw [h]
  have e : madeCells (Value.cells (.agg #[.int .i64 0, .int .i64 0, .int .i64 0, .int .u8 0, .int .u8 0])) ((n : Int).toNat * i0.size) = knbsA (List.replicate n zK) := by
    rw [hz1, Int.toNat_natCast, rowsA_made (sz := 5) rfl (by omega)]
    unfold knbsA
    rw [List.map_replicate]
    rfl
  rw [e]
  simp
def KnobsPost (l : List Knb) (n : Nat) (w : World) (e : Ending) (w' : World) : Prop := ∃ g, w.heap.size ≤ g ∧ e = .returned (.slice (some ⟨g, 0, none⟩) n n) ∧ Blk w' g 68 (knbsA l) ∧ Ext w w'
theorem direction_t (d n : Nat) (hd : d < 6) (hn : n < 24) (w : World) :
    Calls Try.prog 47 #[.agg #[.int .i64 (turnS ⟨(stepS d).x, (stepS d).y, (stepS d).z⟩ n).x, .int .i64 (turnS ⟨(stepS d).x, (stepS d).y, (stepS d).z⟩ n).y, .int .i64 (turnS ⟨(stepS d).x, (stepS d).y, (stepS d).z⟩ n).z]] w fun e w' => e = .returned (.int .i64 (dirT d n)) ∧ Ext w w' := by
  have := direction_c (dirT d n) (dirT_lt hd hn) w
  rw [← dirT_eq hd hn] at this
  exact this
/-- A knob that can be placed. -/
def Knb.fine (x : Knb) : Prop := x.at_.ok ∧ 0 ≤ x.dir ∧ x.dir ≤ 5
set_option maxRecDepth 100000 in
set_option maxHeartbeats 8000000 in
theorem knobs_c (m ca : Nat) (knobs : List Knb) (wt : Int) (A : Option Addr) (B : Option Addr) (cb : Nat) (n : Nat) (x y z : Int) (w : World) (hk : Knobs w B cb knobs) (hl : knobs.length ≤ 1000) (hok : ∀ p ∈ knobs, p.fine) (hn : n < 24) (hp : Pt.ok ⟨x, y, z⟩) :
    Calls Try.prog 67 #[.agg #[.slice A m ca, .slice B knobs.length cb, .int .i64 wt], .int .i64 n, .agg #[.int .i64 x, .int .i64 y, .int .i64 z]] w (KnobsPost (placeK knobs n ⟨x, y, z⟩) knobs.length w) := by
  have hmk := make_knbs knobs.length (by omega)
  obtain ⟨W1, hW1, E1, B1, hz1⟩ := mk_ w #[.slice A m ca, .slice B knobs.length cb, .int .i64 wt] 39
  obtain ⟨W2, hW2, E2, B2, hz2⟩ := mk_ W1 #[.int .i64 x, .int .i64 y, .int .i64 z] 23
  obtain ⟨W3, hW3, E3, B3, hz3⟩ := mk_ W2 (knbsA (List.replicate knobs.length zK)) 68
  rw [hz1] at B2
  rw [hz2, hz1] at B3
  have B1' := B1.ext E2
  have b1 := B1'.cell
  have b3 := (B1'.ext E3).cell
  have E13 := (E1.trans E2).trans E3
  go_enter Try.func67, Try.ntmps67
  go_wp2_with fail
  have BK := B1'.ext E3
  have BP := B2.ext E3
  rw [← placeK_len knobs n ⟨x, y, z⟩, ← partL_zero] at B3
  clear hW1 hW2 hW3 hz1 hz2 hz3 b1 b3 B1 B1' B2 hmk E1 E2 E3
  have Hpl := Lib.hid (placeK_len knobs n ⟨x, y, z⟩)
  obtain ⟨S, hS⟩ : ∃ S, w.heap.size = S := ⟨_, rfl⟩
  rw [hS] at B3 BK BP ⊢
  have HS := Lib.hid hS
  clear hS
  go_loopw [17] (fun i wr => ∃ j : Nat, j ≤ knobs.length ∧ i = .int .i64 j ∧ Ext w wr ∧ Blk wr S 39 #[.slice A m ca, .slice B knobs.length cb, .int .i64 wt] ∧ Blk wr (S + 1) 23 #[.int .i64 x, .int .i64 y, .int .i64 z] ∧ Blk wr (S + 1 + 1) 68 (knbsA (partL zK (placeK knobs n ⟨x, y, z⟩) j))) (fun i _ => knobs.length - (intOf i).toNat)
  case atStart => exact ⟨0, by omega, rfl, E13, BK, BP, B3⟩
  case round =>
    clear B3 BK BP E13
    obtain ⟨j, hj, rfl, E, BK, BP, BO⟩ := hrel
    by_cases hlt : j < knobs.length
    · obtain ⟨g, off, ⟨⟨qx, qy, qz⟩, dir, sort⟩, rfl, hq, -, hg, c0, c1, c2, c3, c4⟩ := hk.at_ hlt
      simp only at c0 c1 c2 c3 c4
      obtain ⟨hqo, hd0, hd5⟩ := hok _ (List.mem_of_getElem? hq)
      simp only at hqo hd0 hd5
      obtain ⟨d, rfl⟩ : ∃ d : Nat, dir = d := ⟨dir.toNat, by omega⟩
      have d0 := E.cell c0
      have d1 := E.cell c1
      have d2 := E.cell c2
      have d3 := E.cell c3
      have d4 := E.cell c4
      clear c0 c1 c2 c3 c4
      have hd6 : d < 6 := by omega
      have hset : (placeK knobs n ⟨x, y, z⟩)[j]? = some ⟨addP (turnS ⟨qx, qy, qz⟩ n) ⟨x, y, z⟩, dirT d n, sort⟩ := by
        unfold placeK
        rw [List.getElem?_map, hq]
        rfl
      have Hset := Lib.hid hset
      clear hq hset
      have i1 : (0 : Int) ≤ j := by omega
      have i2 : (j : Int) < knobs.length := by omega
      have hdl := dirT_lt hd6 hn
      have f1 : IntKind.i64.wrap (d : Int) = d := IntWalk.i64_in _ (by omega)
      have f2 : IntKind.u8.wrap (dirT d n : Int) = dirT d n := IntWalk.u8_in _ (by omega)
      obtain ⟨W4, hW4, E4, B4, hz4⟩ := mk_ wr #[.int .i64 qx, .int .i64 qy, .int .i64 qz, .int .u8 d, .int .u8 sort] 68
      have b4 := B4.cell
      have b2 := (BP.ext E4).cell
      go_upto_region 5 with (fail)
      refine wp_region_tail 20 (by kernel_rfl) (by kernel_rfl) ?_
      simp only [List.take_succ_cons, List.take_zero, List.drop_succ_cons, List.drop_zero]
      repeat (go_big_quiet_step ((first | (go_at_call 43; exact quiet_ext (turn_c _ _ _ n _ hn (by first | exact hqo | exact stepS_ok d))) | (go_at_call 57; exact quiet_ext (plus_c _ _ _ _ _ _ _ (turnS_ok hqo n) hp)) | (go_at_call 48; exact quiet_ext (step_c d hd6 _)) | (go_at_call 47; exact quiet_ext (direction_t d n hd6 hn _)))))
      refine wpQuiet_nil ?_
      intro W5 hW5
      have E5 : Ext W4 W5 := by
        obtain ⟨x, rfl⟩ := hW5
        exact (Ext.refl _).grow x
      clear hW5
      obtain ⟨hcW5, hfW5, hzW5⟩ := ext_facts E5
      have BO' := (BO.ext E4).ext E5
      unfold knbsA at BO'
      obtain ⟨W6, hW6, B6, far6, ext6⟩ := BO'.row5 (knbs_wide _) (k := j) (by rw [List.length_map, partL_len _ _ (by rw [Hpl.out]; omega), Hpl.out]; omega) (.int .i64 ((turnS ⟨qx, qy, qz⟩ n).x + x)) (.int .i64 ((turnS ⟨qx, qy, qz⟩ n).y + y)) (.int .i64 ((turnS ⟨qx, qy, qz⟩ n).z + z)) (.int .u8 (dirT d n)) (.int .u8 sort)
      have f6 := BO'.frozen
      have hz0 : ((partL zK (placeK knobs n ⟨x, y, z⟩) j).map Knb.cs)[j]? = some (Knb.cs zK) := by rw [List.getElem?_map, partL_at _ _ (by rw [Hpl.out]; exact hlt)]; rfl
      have y0 := (BO'.cell (j * 5 + 0)).trans (rowsA_get (knbs_wide _) hz0 (j := 0) rfl)
      have y1 := (BO'.cell (j * 5 + 1)).trans (rowsA_get (knbs_wide _) hz0 (j := 1) rfl)
      have y2 := (BO'.cell (j * 5 + 2)).trans (rowsA_get (knbs_wide _) hz0 (j := 2) rfl)
      have y3 := (BO'.cell (j * 5 + 3)).trans (rowsA_get (knbs_wide _) hz0 (j := 3) rfl)
      have y4 := (BO'.cell (j * 5 + 4)).trans (rowsA_get (knbs_wide _) hz0 (j := 4) rfl)
      simp only [Nat.add_zero] at y0
      clear hz0
      go_wp2_with fail
      go_roundw
      case rel => exact ⟨j + 1, by omega, by go_num, ext6 _ ((E.trans E4).trans E5) (by have := HS.out; omega), far6 _ _ _ (by omega) ((BK.ext E4).ext E5), far6 _ _ _ (by omega) ((BP.ext E4).ext E5), by
        rw [← partL_set _ _ Hset.out]
        unfold knbsA
        rw [List.map_set]
        exact B6⟩
      case measure => simp only [intOf]; omega
    · obtain rfl : knobs.length = j := by omega
      have hpa : partL zK (placeK knobs n ⟨x, y, z⟩) knobs.length = placeK knobs n ⟨x, y, z⟩ := by
        have := partL_all zK (placeK knobs n ⟨x, y, z⟩)
        rwa [Hpl.out] at this
      rw [hpa] at BO
      clear hpa
      go_wp2_with fail
      go_ret
      exact ⟨S + 1 + 1, by have := HS.out; omega, rfl, BO, E⟩
end Go.Proofs.Ytenigkngmdofiaa

namespace Go.Proofs.Ytenigkngmdofiaa
open Go.RowKit

set_option maxHeartbeats 1600000 in
theorem pointed_c (d n : Nat) (hd : d < 6) (hn : n < 24) (w : World) :
    Calls Try.prog 50 #[.int .i64 d, .int .i64 n] w fun e w' => e = .returned (.int .i64 (dirT d n)) ∧ Ext w w' := by
  have hlt := dirT_lt hd hn
  have He := Lib.hid (dirT_eq hd hn)
  go_enter Try.func50, Try.ntmps50
  go_wp2_with fail
  refine (rstep_c d hd _).mono ?_
  rintro e w1 ⟨rfl, E1⟩
  go_wp2_with fail
  refine (turned_c (stepS d).x (stepS d).y (stepS d).z n _ hn (stepS_ok d)).mono ?_
  rintro e w2 ⟨rfl, E2⟩
  rw [show turnS ⟨(stepS d).x, (stepS d).y, (stepS d).z⟩ n = stepS (dirT d n) from He.out]
  obtain ⟨g, hg⟩ : ∃ g, dirT d n = g := ⟨_, rfl⟩
  have Hg := Lib.hid hg
  rw [hg] at hlt ⊢
  clear hg
  obtain ⟨W, hW, E, ba, hz⟩ := boxes1 w2 #[.int .i64 (stepS g).x, .int .i64 (stepS g).y, .int .i64 (stepS g).z] 23
  have B : Blk W w2.heap.size 23 #[.int .i64 (stepS g).x, .int .i64 (stepS g).y, .int .i64 (stepS g).z] := by rw [← hW]; exact Blk.new _ _ _
  go_wp2_with fail
  go_loopw [6] (fun i wr => ∃ k : Nat, k ≤ g ∧ i = .int .i64 k ∧ Ext W wr) (fun i _ => 6 - (intOf i).toNat)
  case atStart => exact ⟨0, by omega, rfl, Ext.refl _⟩
  case round =>
    obtain ⟨k, hk, rfl, E3⟩ := hrel
    have c := (B.ext E3).cell
    have hq : ∀ w, (binOp .eql 23 (.agg #[.int .i64 (stepS k).x, .int .i64 (stepS k).y, .int .i64 (stepS k).z]) (.agg #[.int .i64 (stepS g).x, .int .i64 (stepS g).y, .int .i64 (stepS g).z])).run Try.prog w = .ok (.bool (decide (k = g))) w := fun w => by
      rw [pt_eql]
      have : Pt.eqB (stepS k) (stepS g) = decide (k = g) := by
        by_cases h : k = g
        · subst h
          simp [Pt.eqB]
        · simp only [h, decide_false]
          rw [Bool.eq_false_iff]
          intro h'
          exact h (stepS_inj (by omega) hlt (Pt.eqB_iff.1 h'))
      exact congrArg (fun b => Result.ok (Value.bool b) w) this
    by_cases hkd : k = g
    · have hkd' : decide (k = g) = true := by simp [hkd]
      simp only [hkd'] at hq
      clear hkd'
      have Hkd := Lib.hid hkd
      clear hkd
      go_wp2
      refine wp_region_grow (by kernel_rfl) (by kernel_rfl) ?_
      repeat (go_big_quiet_step ((go_at_call 81; exact quiet_ext (rstep_c k (by omega) _))))
      refine wpQuiet_nil ?_
      intro W2 hW2
      have E4 : Ext wr W2 := by
        obtain ⟨x, rfl⟩ := hW2
        exact (Ext.refl _).grow x
      clear hW2
      go_wp2
      go_ret
      exact ⟨by rw [Hg.out, Hkd.out]; rfl, ((((E1.trans E2).trans E).trans E3).trans E4)⟩
    · have hkd' : decide (k = g) = false := by simp [hkd]
      simp only [hkd'] at hq
      clear hkd'
      go_wp2
      refine wp_region_grow (by kernel_rfl) (by kernel_rfl) ?_
      repeat (go_big_quiet_step ((go_at_call 81; exact quiet_ext (rstep_c k (by omega) _))))
      refine wpQuiet_nil ?_
      intro W2 hW2
      have E4 : Ext wr W2 := by
        obtain ⟨x, rfl⟩ := hW2
        exact (Ext.refl _).grow x
      clear hW2
      go_wp2
      go_roundw
      case rel => exact ⟨k + 1, by omega, by go_num, E3.trans E4⟩
      case measure => simp [intOf]; omega

set_option maxHeartbeats 800000 in
theorem rDirection_ok (d n : Nat) (w : World) (hd : d < 6) (hn : n < 24) :
    Calls Try.prog 9 #[.int .i64 d, .int .i64 n] w fun e w' => e = .returned (.tuple #[.int .i64 (dirT d n), .int .i64 0]) ∧ Ext w w' := by
  have hi : inB 0 23 (n : Int) = true := inB_iff.2 (by omega)
  have hj : inB 0 5 (d : Int) = true := inB_iff.2 (by omega)
  go_enter Try.func9, Try.ntmps9
  go_wp2_with (first | (go_at_call 49; refine (within_c _ _ _ _).mono ?_; rintro e w' ⟨rfl, rfl⟩) | (go_at_call 45; refine (risTurn_c _ _).mono ?_; rintro e w' ⟨rfl, rfl⟩) | (go_at_call 50; refine (pointed_c d n hd hn _).mono ?_; rintro e w1 ⟨rfl, E1⟩))
  go_ret2
  exact ⟨rfl, E1⟩

set_option maxHeartbeats 800000 in
theorem rDirection_bad (d n : Int) (w : World) (hb : ¬ ((0 ≤ d ∧ d ≤ 5) ∧ 0 ≤ n ∧ n < 24)) :
    Calls Try.prog 9 #[.int .i64 d, .int .i64 n] w fun e w' => e = .returned (.tuple #[.int .i64 0, .int .i64 2]) ∧ Ext w w' := by
  cases hj : inB 0 5 d
  · clear hb
    go_enter Try.func9, Try.ntmps9
    go_wp2_with (first | (go_at_call 49; refine (within_c _ _ _ _).mono ?_; rintro e w' ⟨rfl, rfl⟩))
    go_ret2
    exact ⟨rfl, Ext.refl _⟩
  · have hi : inB 0 23 n = false := inB_not.2 (fun h => hb ⟨inB_iff.1 hj, by omega, by omega⟩)
    clear hb
    go_enter Try.func9, Try.ntmps9
    go_wp2_with (first | (go_at_call 49; refine (within_c _ _ _ _).mono ?_; rintro e w' ⟨rfl, rfl⟩) | (go_at_call 45; refine (risTurn_c _ _).mono ?_; rintro e w' ⟨rfl, rfl⟩))
    go_ret2
    exact ⟨rfl, Ext.refl _⟩

/-- n does what a and then b do, to two cells. -/
def compB (a b n : Nat) : Bool := Pt.eqB (turnS ⟨1, 0, 0⟩ n) (turnS (turnS ⟨1, 0, 0⟩ a) b) && Pt.eqB (turnS ⟨0, 1, 0⟩ n) (turnS (turnS ⟨0, 1, 0⟩ a) b)
/-- The turn that does what a and then b do. -/
def compT (a b : Nat) : Nat := ((List.range 24).find? (compB a b)).getD 0
theorem find_at (f : Nat → Bool) (N k : Nat) (hk : k < N) (h : ∀ j, j < k → f j = false) (hf : f k = true) : (List.range N).find? f = some k := by
  rw [List.find?_range_eq_some]
  exact ⟨hf, List.mem_range.2 hk, fun j hj => by rw [h j hj]; rfl⟩
theorem find_no (f : Nat → Bool) (N : Nat) (h : ∀ j, j < N → f j = false) : (List.range N).find? f = none := by
  rw [List.find?_range_eq_none]
  intro i hi
  rw [h i hi]
  rfl

set_option maxHeartbeats 3200000 in
theorem composed_c (a b : Nat) (ha : a < 24) (hb : b < 24) (w : World) :
    Calls Try.prog 52 #[.int .i64 a, .int .i64 b] w fun e w' => e = .returned (.int .i64 (compT a b)) ∧ Ext w w' := by
  have okX : Pt.ok ⟨1, 0, 0⟩ := by unfold Pt.ok CB; simp
  have okY : Pt.ok ⟨0, 1, 0⟩ := by unfold Pt.ok CB; simp
  have okXa : Pt.ok ⟨(turnS ⟨1, 0, 0⟩ a).x, (turnS ⟨1, 0, 0⟩ a).y, (turnS ⟨1, 0, 0⟩ a).z⟩ := turnS_ok okX a
  have okYa : Pt.ok ⟨(turnS ⟨0, 1, 0⟩ a).x, (turnS ⟨0, 1, 0⟩ a).y, (turnS ⟨0, 1, 0⟩ a).z⟩ := turnS_ok okY a
  obtain ⟨W, hW, E, ba, bb, hz⟩ := boxes2 w #[.int .i64 1, .int .i64 0, .int .i64 0] #[.int .i64 0, .int .i64 1, .int .i64 0] 23 23
  have B0 : Blk W w.heap.size 23 #[.int .i64 1, .int .i64 0, .int .i64 0] := by rw [← hW]; exact (Blk.new _ _ _).alloc _
  have B1 : Blk W (w.heap.size + 1) 23 #[.int .i64 0, .int .i64 1, .int .i64 0] := by
    rw [← hW]
    have := Blk.new (w.alloc (.cells #[.int .i64 1, .int .i64 0, .int .i64 0] 23)) #[.int .i64 0, .int .i64 1, .int .i64 0] 23
    rwa [World.size_alloc] at this
  have HW := Lib.hid hW
  clear ba bb hz hW
  go_enter Try.func52, Try.ntmps52
  go_wp2
  rw [HW.out]
  go_loopw [7] (fun i wr => ∃ k : Nat, k ≤ 24 ∧ i = .int .i64 k ∧ Ext W wr ∧ ∀ j, j < k → compB a b j = false) (fun i _ => 24 - (intOf i).toNat)
  case atStart => exact ⟨0, by omega, rfl, Ext.refl _, fun j hj => by omega⟩
  case round =>
    obtain ⟨k, hk, rfl, E1, hj⟩ := hrel
    have Hj := Lib.hid hj
    clear hj
    have c0 := (B0.ext E1).cell
    have c1 := (B1.ext E1).cell
    by_cases hlt : k < 24
    · cases hX : Pt.eqB (turnS ⟨1, 0, 0⟩ k) (turnS (turnS ⟨1, 0, 0⟩ a) b)
      · have hc : compB a b k = false := by simp [compB, hX]
        have qX : ∀ w, (binOp .eql 23 (.agg #[.int .i64 (turnS ⟨1, 0, 0⟩ k).x, .int .i64 (turnS ⟨1, 0, 0⟩ k).y, .int .i64 (turnS ⟨1, 0, 0⟩ k).z]) (.agg #[.int .i64 (turnS ⟨(turnS ⟨1, 0, 0⟩ a).x, (turnS ⟨1, 0, 0⟩ a).y, (turnS ⟨1, 0, 0⟩ a).z⟩ b).x, .int .i64 (turnS ⟨(turnS ⟨1, 0, 0⟩ a).x, (turnS ⟨1, 0, 0⟩ a).y, (turnS ⟨1, 0, 0⟩ a).z⟩ b).y, .int .i64 (turnS ⟨(turnS ⟨1, 0, 0⟩ a).x, (turnS ⟨1, 0, 0⟩ a).y, (turnS ⟨1, 0, 0⟩ a).z⟩ b).z])).run Try.prog w = .ok (.bool false) w := fun w => (pt_eql _ _ _ _ _ _ w).trans (congrArg (fun q => Result.ok (Value.bool q) w) hX)
        have Hc := Lib.hid hc
        clear hX hc
        go_wp2
        refine wp_region_grow (by kernel_rfl) (by kernel_rfl) ?_
        repeat (go_big_quiet_step ((go_at_call 46; exact quiet_ext (turned_c _ _ _ _ _ (by omega) (by assumption)))))
        refine wpQuiet_nil ?_
        intro W2 hW2
        have E2 : Ext wr W2 := by
          obtain ⟨x, rfl⟩ := hW2
          exact (Ext.refl _).grow x
        clear hW2
        go_wp2
        go_roundw
        case rel =>
          refine ⟨k + 1, by omega, by go_num, E1.trans E2, fun j hj => ?_⟩
          rcases Nat.lt_or_ge j k with h | h
          · exact Hj.out j h
          · obtain rfl : j = k := by omega
            exact Hc.out
        case measure => simp [intOf]; omega
      · have qX : ∀ w, (binOp .eql 23 (.agg #[.int .i64 (turnS ⟨1, 0, 0⟩ k).x, .int .i64 (turnS ⟨1, 0, 0⟩ k).y, .int .i64 (turnS ⟨1, 0, 0⟩ k).z]) (.agg #[.int .i64 (turnS ⟨(turnS ⟨1, 0, 0⟩ a).x, (turnS ⟨1, 0, 0⟩ a).y, (turnS ⟨1, 0, 0⟩ a).z⟩ b).x, .int .i64 (turnS ⟨(turnS ⟨1, 0, 0⟩ a).x, (turnS ⟨1, 0, 0⟩ a).y, (turnS ⟨1, 0, 0⟩ a).z⟩ b).y, .int .i64 (turnS ⟨(turnS ⟨1, 0, 0⟩ a).x, (turnS ⟨1, 0, 0⟩ a).y, (turnS ⟨1, 0, 0⟩ a).z⟩ b).z])).run Try.prog w = .ok (.bool true) w := fun w => (pt_eql _ _ _ _ _ _ w).trans (congrArg (fun q => Result.ok (Value.bool q) w) hX)
        cases hY : Pt.eqB (turnS ⟨0, 1, 0⟩ k) (turnS (turnS ⟨0, 1, 0⟩ a) b)
        · have hc : compB a b k = false := by simp [compB, hY]
          have qY : ∀ w, (binOp .eql 23 (.agg #[.int .i64 (turnS ⟨0, 1, 0⟩ k).x, .int .i64 (turnS ⟨0, 1, 0⟩ k).y, .int .i64 (turnS ⟨0, 1, 0⟩ k).z]) (.agg #[.int .i64 (turnS ⟨(turnS ⟨0, 1, 0⟩ a).x, (turnS ⟨0, 1, 0⟩ a).y, (turnS ⟨0, 1, 0⟩ a).z⟩ b).x, .int .i64 (turnS ⟨(turnS ⟨0, 1, 0⟩ a).x, (turnS ⟨0, 1, 0⟩ a).y, (turnS ⟨0, 1, 0⟩ a).z⟩ b).y, .int .i64 (turnS ⟨(turnS ⟨0, 1, 0⟩ a).x, (turnS ⟨0, 1, 0⟩ a).y, (turnS ⟨0, 1, 0⟩ a).z⟩ b).z])).run Try.prog w = .ok (.bool false) w := fun w => (pt_eql _ _ _ _ _ _ w).trans (congrArg (fun q => Result.ok (Value.bool q) w) hY)
          have Hc := Lib.hid hc
          clear hX hY hc
          go_wp2
          refine wp_region_grow (by kernel_rfl) (by kernel_rfl) ?_
          repeat (go_big_quiet_step ((go_at_call 46; exact quiet_ext (turned_c _ _ _ _ _ (by omega) (by assumption)))))
          refine wpQuiet_nil ?_
          intro W2 hW2
          have E2 : Ext wr W2 := by
            obtain ⟨x, rfl⟩ := hW2
            exact (Ext.refl _).grow x
          clear hW2
          go_wp2
          go_roundw
          case rel =>
            refine ⟨k + 1, by omega, by go_num, E1.trans E2, fun j hj => ?_⟩
            rcases Nat.lt_or_ge j k with h | h
            · exact Hj.out j h
            · obtain rfl : j = k := by omega
              exact Hc.out
          case measure => simp [intOf]; omega
        · have hc : compT a b = k := by
            have : compB a b k = true := by simp [compB, hX, hY]
            rw [compT, find_at _ 24 k hlt Hj.out this]
            rfl
          have qY : ∀ w, (binOp .eql 23 (.agg #[.int .i64 (turnS ⟨0, 1, 0⟩ k).x, .int .i64 (turnS ⟨0, 1, 0⟩ k).y, .int .i64 (turnS ⟨0, 1, 0⟩ k).z]) (.agg #[.int .i64 (turnS ⟨(turnS ⟨0, 1, 0⟩ a).x, (turnS ⟨0, 1, 0⟩ a).y, (turnS ⟨0, 1, 0⟩ a).z⟩ b).x, .int .i64 (turnS ⟨(turnS ⟨0, 1, 0⟩ a).x, (turnS ⟨0, 1, 0⟩ a).y, (turnS ⟨0, 1, 0⟩ a).z⟩ b).y, .int .i64 (turnS ⟨(turnS ⟨0, 1, 0⟩ a).x, (turnS ⟨0, 1, 0⟩ a).y, (turnS ⟨0, 1, 0⟩ a).z⟩ b).z])).run Try.prog w = .ok (.bool true) w := fun w => (pt_eql _ _ _ _ _ _ w).trans (congrArg (fun q => Result.ok (Value.bool q) w) hY)
          have Hc := Lib.hid hc
          clear hX hY hc
          go_wp2
          refine wp_region_grow (by kernel_rfl) (by kernel_rfl) ?_
          repeat (go_big_quiet_step ((go_at_call 46; exact quiet_ext (turned_c _ _ _ _ _ (by omega) (by assumption)))))
          refine wpQuiet_nil ?_
          intro W2 hW2
          have E2 : Ext wr W2 := by
            obtain ⟨x, rfl⟩ := hW2
            exact (Ext.refl _).grow x
          clear hW2
          go_wp2
          go_ret
          exact ⟨by rw [Hc.out]; rfl, (E.trans E1).trans E2⟩
    · obtain rfl : k = 24 := by omega
      have hc : compT a b = 0 := by rw [compT, find_no _ 24 Hj.out]; rfl
      have Hc := Lib.hid hc
      clear hc
      go_wp2
      go_ret
      exact ⟨by rw [Hc.out]; rfl, E.trans E1⟩
end Go.Proofs.Ytenigkngmdofiaa

namespace Go.Proofs.Ytenigkngmdofiaa
open Go.RowKit

theorem flat_snoc (rows : List (List Value)) (r : List Value) : (rows ++ [r]).flatten = rows.flatten ++ r := by simp
theorem take_map_snoc {α : Type} {f : α → List Value} {l : List α} {j : Nat} {x : α} (h : l[j]? = some x) : ((l.take (j + 1)).map f).flatten = ((l.take j).map f).flatten ++ f x := by
  rw [List.take_add_one, h, Option.toList_some, List.map_append, List.map_cons, List.map_nil, flat_snoc]
set_option maxRecDepth 100000 in
set_option maxHeartbeats 8000000 in
theorem rPlaced_c (qs : List (Knd × KAt)) (QA : Option Addr) (qc : Nat) (i : Nat) (cells : List Pt) (knobs : List Knb) (wt : Int) (A : Option Addr) (ca : Nat) (B : Option Addr) (cb : Nat) (hi : qs[i]? = some (⟨cells, knobs, wt⟩, ⟨A, ca, B, cb⟩)) (n : Nat) (x y z c : Int) (w : World) (hk : Kinds w QA qc qs)
    (hpos : 0 < cells.length) (hl : cells.length ≤ 1000) (hok : ∀ p ∈ cells, p.ok) (hn : n < 24) (hp : Pt.ok ⟨x, y, z⟩) :
    Calls Try.prog 66 #[.slice QA qs.length qc, .agg #[.int .i64 i, .int .i64 x, .int .i64 y, .int .i64 z, .int .u8 n, .int .u8 c]] w (RCellsPost (sortP (placeP cells n ⟨x, y, z⟩)) cells.length w) := by
  have hil : i < qs.length := (List.getElem?_eq_some_iff.1 hi).1
  have hql : qs.length ≤ 9223372036854775807 := by have := hk.len; unfold maxLen at this; omega
  obtain ⟨W1, hW1, E1, B1, hz1⟩ := mk_ w #[.int .i64 i, .int .i64 x, .int .i64 y, .int .i64 z, .int .u8 n, .int .u8 c] 42
  obtain ⟨W2, hW2, E2, B2, hz2⟩ := mk_ W1 #[.slice A cells.length ca, .slice B knobs.length cb, .int .i64 wt] 39
  obtain ⟨kg, koff, k', p', rfl, hq, hka, hkg, c0, c1, c2⟩ := (hk.ext E1).at_ hil
  rw [hi] at hq
  cases hq
  simp only at c0 c1 c2
  have hc : Cells w A ca cells := (hk.k _ (List.mem_of_getElem? hi)).c
  rw [hz1] at B2
  have b1 := B1.cell
  have B1' := B1.ext E2
  have b2' := B1'.cell
  have b2 := B2.cell
  have i1 : (0 : Int) ≤ i := by omega
  have i2 : (i : Int) < qs.length := by omega
  go_enter Try.func66, Try.ntmps66
  go_wp2_with fail
  have E12 := E1.trans E2
  clear hW1 hW2 hz1 hz2 b1 b2 b2' B1 c0 c1 c2 hka hkg E1 E2
  have Hpl := Lib.hid (placeP_len cells n ⟨x, y, z⟩)
  obtain ⟨S, hS⟩ : ∃ S, w.heap.size = S := ⟨_, rfl⟩
  rw [hS] at B1' B2 ⊢
  have HS := Lib.hid hS
  clear hS
  obtain ⟨i0, hi0, hz0, hz1, hz2⟩ := info_parts infoPt3
  go_loopw [6, 7] (fun v ii wr => ∃ (j : Nat) (u : Value), j ≤ cells.length ∧ ii = .int .i64 j ∧ u = v ∧ Ext w wr ∧ Blk wr S 42 #[.int .i64 i, .int .i64 x, .int .i64 y, .int .i64 z, .int .u8 n, .int .u8 c] ∧ Blk wr (S + 1) 39 #[.slice A cells.length ca, .slice B knobs.length cb, .int .i64 wt] ∧ wr.ownsRow (S + 1 + 1) 23 3 u j (((placeP cells n ⟨x, y, z⟩).take j).map Pt.cs).flatten) (fun _ ii _ => cells.length - (intOf ii).toNat)
  case atStart => exact ⟨0, _, by omega, rfl, rfl, E12, B1', B2, World.ownsRow_nil _ _ _ _⟩
  case round =>
    clear E12 B1' B2
    obtain ⟨j, v, hj, rfl, rfl, E, BB, BK, own⟩ := hrel
    have hSr := BK.lt
    by_cases hlt : j < cells.length
    · obtain ⟨g, off, ⟨qx, qy, qz⟩, rfl, hq, hg, c0, c1, c2⟩ := hc.at_ hlt
      simp only at c0 c1 c2
      have hqo := hok _ (List.mem_of_getElem? hq)
      have hset : (placeP cells n ⟨x, y, z⟩)[j]? = some (addP (turnS ⟨qx, qy, qz⟩ n) ⟨x, y, z⟩) := by
        unfold placeP
        rw [List.getElem?_map, hq]
        rfl
      have Hset := Lib.hid hset
      clear hq hset
      have j1 : (0 : Int) ≤ j := by omega
      have j2 : (j : Int) < cells.length := by omega
      have f1 : IntKind.i64.wrap (n : Int) = n := IntWalk.i64_in _ (by omega)
      have d0 := E.cell c0
      have d1 := E.cell c1
      have d2 := E.cell c2
      have C0 := Lib.hid c0
      have C1 := Lib.hid c1
      have C2 := Lib.hid c2
      clear c0 c1 c2
      have k0 := BK.cell 0
      have k1 := BB.cell 1
      have k2 := BB.cell 2
      have k3 := BB.cell 3
      have k4 := BB.cell 4
      have hml : j + 1 ≤ maxLen := by unfold maxLen; omega
      have bk := BK.cell
      go_upto_region 6 with (fail)
      clear bk
      have own' : wr.drew.ownsRow _ _ _ _ _ _ := own.drew
      go_region_held3 (fun w' => w'.cell? ⟨S + 1, 0, none⟩ = some (.slice (some ⟨g, off, none⟩) cells.length ca) ∧ w'.cell? ⟨g, off + j * 3, none⟩ = some (.int .i64 qx) ∧ w'.cell? ⟨g, off + j * 3 + 1, none⟩ = some (.int .i64 qy) ∧ w'.cell? ⟨g, off + j * 3 + 2, none⟩ = some (.int .i64 qz) ∧
          w'.cell? ⟨S, 1, none⟩ = some (.int .i64 x) ∧ w'.cell? ⟨S, 2, none⟩ = some (.int .i64 y) ∧ w'.cell? ⟨S, 3, none⟩ = some (.int .i64 z) ∧ w'.cell? ⟨S, 4, none⟩ = some (.int .u8 n))
        (first
          | exact ⟨BK4.cell 0, EE4.cell C0.out, EE4.cell C1.out, EE4.cell C2.out, BB4.cell 1, BB4.cell 2, BB4.cell 3, BB4.cell 4⟩
          | (go_split_ands; exact ⟨((Ext.refl _).alloc _).cell (by assumption), ((Ext.refl _).alloc _).cell (by assumption), ((Ext.refl _).alloc _).cell (by assumption), ((Ext.refl _).alloc _).cell (by assumption), ((Ext.refl _).alloc _).cell (by assumption), ((Ext.refl _).alloc _).cell (by assumption), ((Ext.refl _).alloc _).cell (by assumption), ((Ext.refl _).alloc _).cell (by assumption)⟩)
          | (go_split_ands; exact ⟨E6.cell (by assumption), E6.cell (by assumption), E6.cell (by assumption), E6.cell (by assumption), E6.cell (by assumption), E6.cell (by assumption), E6.cell (by assumption), E6.cell (by assumption)⟩)
          | (go_split_ands; exact ⟨E5.cell (by assumption), E5.cell (by assumption), E5.cell (by assumption), E5.cell (by assumption), E5.cell (by assumption), E5.cell (by assumption), E5.cell (by assumption), E5.cell (by assumption)⟩)
          | go_keep)
        (first
          | (go_at_call 46; refine (turned_c qx qy qz n _ hn hqo).mono ?_; rintro e w5 ⟨rfl, E5⟩)
          | (go_at_call 76; refine (rPlus_c (turnS ⟨qx, qy, qz⟩ n).x (turnS ⟨qx, qy, qz⟩ n).y (turnS ⟨qx, qy, qz⟩ n).z x y z _ (turnS_ok hqo n) hp).mono ?_; rintro e w6 ⟨rfl, E6⟩)
          | (refine step_append_one #[.int .i64 ((turnS ⟨qx, qy, qz⟩ n).x + x), .int .i64 ((turnS ⟨qx, qy, qz⟩ n).y + y), .int .i64 ((turnS ⟨qx, qy, qz⟩ n).z + z)] rfl (.tmp 20) (.tmp 33) 36 rfl (S + 1 + 1) 23 23 i0 _ 3 24 Try.underlying36 hi0 hz0 hz1 hz2 rfl (by decide) v j _ _ rfl (own_ext (own_ext own' E5) E6) rfl rfl (by simp [Value.oneCell']) hml (by omega) (Nat.le_trans hSr (Nat.le_trans E5.size E6.size)) ?_; intro g4 cap4 w4 own4 hg4; have BB4 := (((BB.drew.ext E5).ext E6).alloc (.cells #[.int .i64 ((turnS ⟨qx, qy, qz⟩ n).x + x), .int .i64 ((turnS ⟨qx, qy, qz⟩ n).y + y), .int .i64 ((turnS ⟨qx, qy, qz⟩ n).z + z)] 23)).grown hg4 (own_ne own (by omega)); have BK4 := (((BK.drew.ext E5).ext E6).alloc (.cells #[.int .i64 ((turnS ⟨qx, qy, qz⟩ n).x + x), .int .i64 ((turnS ⟨qx, qy, qz⟩ n).y + y), .int .i64 ((turnS ⟨qx, qy, qz⟩ n).z + z)] 23)).grown hg4 (own_ne own (by omega)); have EE4 := (((E.drew.trans E5).trans E6).alloc (.cells #[.int .i64 ((turnS ⟨qx, qy, qz⟩ n).x + x), .int .i64 ((turnS ⟨qx, qy, qz⟩ n).y + y), .int .i64 ((turnS ⟨qx, qy, qz⟩ n).z + z)] 23)).grown hg4 (fun q hq => by have := (own.lt q hq).1; have := HS.out; omega)))
      go_wp2_with fail
      go_roundw
      case rel => exact ⟨j + 1, _, by omega, by go_num, rfl, EE4, BB4, BK4, by
        rw [take_map_snoc Hset.out]
        exact own4⟩
      case measure => simp only [intOf]; omega
    · obtain rfl : cells.length = j := by omega
      obtain ⟨g, cap, rfl⟩ := own_form own hpos
      have hta : (placeP cells n ⟨x, y, z⟩).take cells.length = placeP cells n ⟨x, y, z⟩ := List.take_of_length_le (by rw [Hpl.out]; exact Nat.le_refl _)
      rw [hta] at own
      obtain ⟨X, hg, q1, q2⟩ := RowX.of_own own
      have hcs : Cells wr (some ⟨g, 0, none⟩) cap (placeP cells n ⟨x, y, z⟩) := X.slice (pts_wide _) (by rw [List.length_map]) (by rw [Hpl.out]; exact q1) q2
      have RS := rSorted_c (placeP cells n ⟨x, y, z⟩) (some ⟨g, 0, none⟩) cap wr hcs (by rw [Hpl.out]; exact hpos) (by rw [Hpl.out]; exact hl)
      rw [Hpl.out] at RS
      have bk := BK.cell
      clear hta
      go_wp2_with fail
      refine RS.mono ?_
      rintro v w2 ⟨g2, c2, hg2, rfl, r1, r2, X2, E2⟩
      go_wp2_with fail
      go_ret
      exact ⟨g2, c2, Nat.le_trans E.size hg2, rfl, r1, r2, X2, E.trans E2⟩
end Go.Proofs.Ytenigkngmdofiaa
