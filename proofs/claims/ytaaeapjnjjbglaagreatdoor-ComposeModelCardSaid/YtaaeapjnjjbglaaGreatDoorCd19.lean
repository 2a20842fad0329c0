/- Texts of another chapter in a namespace of their own (printed by lat.py). -/
import Derived.Test.YtaaeapjnjjbglaaGreatDoorCd16
import Derived.Test.YtaaeapjnjjbglaaGreatDoorCd17

-- holds: Api1 BrickB CellsP CheckKind Composed Has KindS KnobsP Like LikeS Near Ord RKind RKnobbed RPlaced RSorted RValidKind SameL SortC SortLaid Step Turn TurnD Turned Turners
namespace Go.Proofs.YtaaeapjnjjbglaaGreatDoor.Lat
open Go.RowKit

/-- One number in a new block, as a list of numbers. -/
theorem ints1 (w : World) (n : Int) (t : TypeId) : SliceIs (w.alloc (.cells #[.int .i64 n] t)) (some ⟨w.heap.size, 0, none⟩) 1 1 1 ([n].map fun n => [.int .i64 n]) := by
  refine ⟨rfl, Nat.le_refl _, by unfold maxLen; omega, by simp, fun _ => ⟨_, 0, rfl, by simp, fun i r hr j u hu => ?_⟩⟩
  have hi : i = 0 := by
    rcases Nat.eq_zero_or_pos i with h | h
    · exact h
    · rw [List.getElem?_eq_none (by simp; omega)] at hr; cases hr
  subst hi
  simp at hr
  subst hr
  have hj : j = 0 := by
    rcases Nat.eq_zero_or_pos j with h | h
    · exact h
    · rw [List.getElem?_eq_none (by simp; omega)] at hu; cases hu
  subst hj
  simp at hu
  subst hu
  rw [cell_new]
  rfl
theorem isTurn1_c (w : World) (n : Int) (t : TypeId) :
    Calls Tryz.prog 40 #[.slice (some ⟨w.heap.size, 0, none⟩) 1 1] (w.alloc (.cells #[.int .i64 n] t)) fun e w' => e = .returned (.bool (inB 0 23 n)) ∧ w.alloc (.cells #[.int .i64 n] t) = w' :=
  (isTurn_c _ 1 [n] _ (ints1 w n t)).mono fun e w' ⟨he, hw⟩ => ⟨by rw [he]; simp [allTurn], hw⟩

def turnOk (p : Pt) (n : Int) : Prop := nearB p (-2000) 2000 = true ∧ 0 ≤ n ∧ n < 24
theorem near_ok {p : Pt} (h : nearB p (-2000) 2000 = true) : p.ok := by
  have := nearB_iff.1 h
  unfold Pt.ok CB
  omega

set_option maxHeartbeats 800000 in
theorem Turn_ok (x y z : Int) (n : Nat) (w : World) (hn : n < 24) (hp : nearB ⟨x, y, z⟩ (-2000) 2000 = true) :
    Calls Tryz.prog 20 #[.agg #[.int .i64 x, .int .i64 y, .int .i64 z], .int .i64 n] w fun e w' =>
      e = .returned (.tuple #[.agg #[.int .i64 (turnS ⟨x, y, z⟩ n).x, .int .i64 (turnS ⟨x, y, z⟩ n).y, .int .i64 (turnS ⟨x, y, z⟩ n).z], .int .i64 0]) ∧ Ext w w' := by
  have hok := near_ok hp
  have hi : inB 0 23 (n : Int) = true := inB_iff.2 (by omega)
  obtain ⟨W, hW, E, ba, bb, hz⟩ := boxes2 w #[.int .i64 x, .int .i64 y, .int .i64 z] #[.int .i64 0, .int .i64 0, .int .i64 0] 53 53
  have B0 : Blk W w.heap.size 53 #[.int .i64 x, .int .i64 y, .int .i64 z] := by rw [← hW]; exact (Blk.new _ _ _).alloc _
  have B1 : Blk W (w.heap.size + 1) 53 #[.int .i64 0, .int .i64 0, .int .i64 0] := by
    rw [← hW]
    have := Blk.new (w.alloc (.cells #[.int .i64 x, .int .i64 y, .int .i64 z] 53)) #[.int .i64 0, .int .i64 0, .int .i64 0] 53
    rwa [World.size_alloc] at this
  go_enter Tryz.func20, Tryz.ntmps20
  go_wp2_with fail
  refine (near_c x y z _ _ _).mono ?_
  rintro e w1 ⟨rfl, E1⟩
  go_wp2_with fail
  refine (isTurn1_c w1 n _).mono ?_
  rintro e w2 ⟨rfl, rfl⟩
  have B02 := (B0.ext E1).alloc (.cells #[.int .i64 n] 3)
  have B12 := (B1.ext E1).alloc (.cells #[.int .i64 n] 3)
  have E2 := (E.trans E1).alloc (.cells #[.int .i64 n] 3)
  have c2 := B02.cell
  obtain ⟨w2, hw2⟩ : ∃ w2, w1.alloc (.cells #[.int .i64 n] 3) = w2 := ⟨_, rfl⟩
  rw [hw2] at B02 B12 E2 c2
  go_wp2_with fail
  refine (turn_c x y z n _ hn hok).mono ?_
  rintro e w3 ⟨rfl, E3⟩
  have B13 := B12.ext E3
  have c3 := B13.cell
  have f3 := B13.frozen
  obtain ⟨q, hq⟩ : ∃ q, turnS ⟨x, y, z⟩ n = q := ⟨_, rfl⟩
  rw [hq]
  have Hq := Lib.hid hq
  clear hq
  go_wp2_with fail
  refine bodyPost_ret (v := .tuple #[.agg #[.int .i64 q.x, .int .i64 q.y, .int .i64 q.z], .int .i64 0]) (by simp [results, Tryz.results20, go_sem, c3]) rfl ⟨by rw [Hq.out], ?_⟩
  exact (((E2.trans E3).setCell (Nat.le_succ _) _).setCell (Nat.le_succ _) _).setCell (Nat.le_succ _) _

set_option maxHeartbeats 800000 in
theorem Turn_bad (x y z n : Int) (w : World) (hb : ¬ turnOk ⟨x, y, z⟩ n) :
    Calls Tryz.prog 20 #[.agg #[.int .i64 x, .int .i64 y, .int .i64 z], .int .i64 n] w fun e w' =>
      e = .returned (.tuple #[.agg #[.int .i64 0, .int .i64 0, .int .i64 0], .int .i64 2]) ∧ Ext w w' := by
  obtain ⟨W, hW, E, ba, bb, hz⟩ := boxes2 w #[.int .i64 x, .int .i64 y, .int .i64 z] #[.int .i64 0, .int .i64 0, .int .i64 0] 53 53
  have B1 : Blk W (w.heap.size + 1) 53 #[.int .i64 0, .int .i64 0, .int .i64 0] := by
    rw [← hW]
    have := Blk.new (w.alloc (.cells #[.int .i64 x, .int .i64 y, .int .i64 z] 53)) #[.int .i64 0, .int .i64 0, .int .i64 0] 53
    rwa [World.size_alloc] at this
  cases hp : nearB ⟨x, y, z⟩ (-2000) 2000
  · clear hb
    go_enter Tryz.func20, Tryz.ntmps20
    go_wp2_with fail
    refine (near_c x y z _ _ _).mono ?_
    rintro e w1 ⟨rfl, E1⟩
    have B12 := B1.ext E1
    have c3 := B12.cell
    have f3 := B12.frozen
    go_wp2_with fail
    refine bodyPost_ret (v := .tuple #[.agg #[.int .i64 0, .int .i64 0, .int .i64 0], .int .i64 2]) (by simp [results, Tryz.results20, go_sem, c3]) rfl ⟨rfl, ?_⟩
    exact (((E.trans E1).setCell (Nat.le_succ _) _).setCell (Nat.le_succ _) _).setCell (Nat.le_succ _) _
  · have hi : inB 0 23 n = false := inB_not.2 (fun h => hb ⟨hp, h.1, by omega⟩)
    clear hb
    go_enter Tryz.func20, Tryz.ntmps20
    go_wp2_with fail
    refine (near_c x y z _ _ _).mono ?_
    rintro e w1 ⟨rfl, E1⟩
    go_wp2_with fail
    refine (isTurn1_c w1 n _).mono ?_
    rintro e w2 ⟨rfl, rfl⟩
    have B12 := (B1.ext E1).alloc (.cells #[.int .i64 n] 3)
    have E2 := (E.trans E1).alloc (.cells #[.int .i64 n] 3)
    obtain ⟨w2, hw2⟩ : ∃ w2, w1.alloc (.cells #[.int .i64 n] 3) = w2 := ⟨_, rfl⟩
    rw [hw2] at B12 E2
    have c3 := B12.cell
    have f3 := B12.frozen
    go_wp2_with fail
    refine bodyPost_ret (v := .tuple #[.agg #[.int .i64 0, .int .i64 0, .int .i64 0], .int .i64 2]) (by simp [results, Tryz.results20, go_sem, c3]) rfl ⟨rfl, ?_⟩
    exact ((E2.setCell (Nat.le_succ _) _).setCell (Nat.le_succ _) _).setCell (Nat.le_succ _) _

/-- Where a turn takes a direction. -/
def dirT (d n : Nat) : Nat := ((List.range 6).find? fun i => (stepS i).eqB (turnS (stepS d) n)).getD 0
theorem dirT_all : ∀ d, d < 6 → ∀ n, n < 24 → (dirT d n < 6 ∧ Pt.eqB (stepS (dirT d n)) (turnS (stepS d) n) = true) := by decide +kernel
theorem dirT_lt {d n : Nat} (hd : d < 6) (hn : n < 24) : dirT d n < 6 := (dirT_all d hd n hn).1
theorem dirT_eq {d n : Nat} (hd : d < 6) (hn : n < 24) : turnS (stepS d) n = stepS (dirT d n) := (Pt.eqB_iff.1 (dirT_all d hd n hn).2).symm

end Go.Proofs.YtaaeapjnjjbglaaGreatDoor.Lat
namespace Go.Proofs.YtaaeapjnjjbglaaGreatDoor.Lat
open Go.RowKit

def knobT (n : Nat) (p : Pt) (x : Knb) : Knb := ⟨addP (turnS x.at_ n) p, dirT x.dir.toNat n, x.sort⟩
def placeK (knobs : List Knb) (n : Nat) (p : Pt) : List Knb := knobs.map (knobT n p)
theorem placeK_len (knobs : List Knb) (n : Nat) (p : Pt) : (placeK knobs n p).length = knobs.length := List.length_map _
def knbsA (l : List Knb) : Array Value := rowsA (l.map Knb.cs)
theorem knbs_wide (l : List Knb) : ∀ r ∈ l.map Knb.cs, r.length = 5 := fun r h => by
  obtain ⟨p, _, rfl⟩ := List.mem_map.1 h
  rfl
theorem infoKnb : (Tryz.prog.info? 76).map (fun i => (i.zero, i.size, i.bytes)) = some (some (.agg #[.int .i64 0, .int .i64 0, .int .i64 0, .int .u8 0, .int .u8 0]), 5, 32) := by kernel_rfl
def zK : Knb := ⟨⟨0, 0, 0⟩, 0, 0⟩
theorem make_knbs (n : Nat) (hn : n ≤ 1000) (w : World) : (Instr.makeSlice 72 (.int .i64 (n : Int)) (.int .i64 (n : Int))).run Tryz.prog w = .ok (.slice (some ⟨w.heap.size, 0, none⟩) n n) (w.alloc (.cells (knbsA (List.replicate n zK)) 76)) := by
  obtain ⟨i0, hi, hz0, hz1, hz2⟩ := info_parts infoKnb
  have h := run_make (P := Tryz.prog) w 72 76 i0 _ Tryz.underlying72 hi hz0 .i64 .i64 (n : Int) (n : Int) (by omega) (Int.le_refl _) (by rw [hz2]; omega) (by omega)
  rw [h]
  have e : madeCells (Value.cells (.agg #[.int .i64 0, .int .i64 0, .int .i64 0, .int .u8 0, .int .u8 0])) ((n : Int).toNat * i0.size) = knbsA (List.replicate n zK) := by
    rw [hz1, Int.toNat_natCast, rowsA_made (sz := 5) rfl (by omega)]
    unfold knbsA
    rw [List.map_replicate]
    rfl
  rw [e]
  simp
def KnobsPost (l : List Knb) (n : Nat) (w : World) (e : Ending) (w' : World) : Prop := ∃ g, w.heap.size ≤ g ∧ e = .returned (.slice (some ⟨g, 0, none⟩) n n) ∧ Blk w' g 76 (knbsA l) ∧ Ext w w'
theorem direction_t (d n : Nat) (hd : d < 6) (hn : n < 24) (w : World) :
    Calls Tryz.prog 75 #[.agg #[.int .i64 (turnS ⟨(stepS d).x, (stepS d).y, (stepS d).z⟩ n).x, .int .i64 (turnS ⟨(stepS d).x, (stepS d).y, (stepS d).z⟩ n).y, .int .i64 (turnS ⟨(stepS d).x, (stepS d).y, (stepS d).z⟩ n).z]] w fun e w' => e = .returned (.int .i64 (dirT d n)) ∧ Ext w w' := by
  have := direction_c (dirT d n) (dirT_lt hd hn) w
  rw [← dirT_eq hd hn] at this
  exact this
/-- A knob that can be placed. -/
def Knb.fine (x : Knb) : Prop := x.at_.ok ∧ 0 ≤ x.dir ∧ x.dir ≤ 5
set_option maxRecDepth 100000 in
set_option maxHeartbeats 8000000 in
theorem knobs_c (m ca : Nat) (knobs : List Knb) (wt : Int) (A : Option Addr) (B : Option Addr) (cb : Nat) (n : Nat) (x y z : Int) (w : World) (hk : Knobs w B cb knobs) (hl : knobs.length ≤ 1000) (hok : ∀ p ∈ knobs, p.fine) (hn : n < 24) (hp : Pt.ok ⟨x, y, z⟩) :
    Calls Tryz.prog 53 #[.agg #[.slice A m ca, .slice B knobs.length cb, .int .i64 wt], .int .i64 n, .agg #[.int .i64 x, .int .i64 y, .int .i64 z]] w (KnobsPost (placeK knobs n ⟨x, y, z⟩) knobs.length w) := by
  have hmk := make_knbs knobs.length (by omega)
  obtain ⟨W1, hW1, E1, B1, hz1⟩ := mk_ w #[.slice A m ca, .slice B knobs.length cb, .int .i64 wt] 74
  obtain ⟨W2, hW2, E2, B2, hz2⟩ := mk_ W1 #[.int .i64 x, .int .i64 y, .int .i64 z] 53
  obtain ⟨W3, hW3, E3, B3, hz3⟩ := mk_ W2 (knbsA (List.replicate knobs.length zK)) 76
  rw [hz1] at B2
  rw [hz2, hz1] at B3
  have B1' := B1.ext E2
  have b1 := B1'.cell
  have b3 := (B1'.ext E3).cell
  have E13 := (E1.trans E2).trans E3
  go_enter Tryz.func53, Tryz.ntmps53
  go_wp2_with fail
  have BK := B1'.ext E3
  have BP := B2.ext E3
  rw [← placeK_len knobs n ⟨x, y, z⟩, ← partL_zero] at B3
  clear hW1 hW2 hW3 hz1 hz2 hz3 b1 b3 B1 B1' B2 hmk E1 E2 E3
  have Hpl := Lib.hid (placeK_len knobs n ⟨x, y, z⟩)
  obtain ⟨S, hS⟩ : ∃ S, w.heap.size = S := ⟨_, rfl⟩
  rw [hS] at B3 BK BP ⊢
  have HS := Lib.hid hS
  clear hS
  go_loopw [17] (fun i wr => ∃ j : Nat, j ≤ knobs.length ∧ i = .int .i64 j ∧ Ext w wr ∧ Blk wr S 74 #[.slice A m ca, .slice B knobs.length cb, .int .i64 wt] ∧ Blk wr (S + 1) 53 #[.int .i64 x, .int .i64 y, .int .i64 z] ∧ Blk wr (S + 1 + 1) 76 (knbsA (partL zK (placeK knobs n ⟨x, y, z⟩) j))) (fun i _ => knobs.length - (intOf i).toNat)
  case atStart => exact ⟨0, by omega, rfl, E13, BK, BP, B3⟩
  case round =>
    clear B3 BK BP E13
    obtain ⟨j, hj, rfl, E, BK, BP, BO⟩ := hrel
    by_cases hlt : j < knobs.length
    · obtain ⟨g, off, ⟨⟨qx, qy, qz⟩, dir, sort⟩, rfl, hq, -, hg, c0, c1, c2, c3, c4⟩ := hk.at_ hlt
      simp only at c0 c1 c2 c3 c4
      obtain ⟨hqo, hd0, hd5⟩ := hok _ (List.mem_of_getElem? hq)
      simp only at hqo hd0 hd5
      obtain ⟨d, rfl⟩ : ∃ d : Nat, dir = d := ⟨dir.toNat, by omega⟩
      have d0 := E.cell c0
      have d1 := E.cell c1
      have d2 := E.cell c2
      have d3 := E.cell c3
      have d4 := E.cell c4
      clear c0 c1 c2 c3 c4
      have hd6 : d < 6 := by omega
      have hset : (placeK knobs n ⟨x, y, z⟩)[j]? = some ⟨addP (turnS ⟨qx, qy, qz⟩ n) ⟨x, y, z⟩, dirT d n, sort⟩ := by
        unfold placeK
        rw [List.getElem?_map, hq]
        rfl
      have Hset := Lib.hid hset
      clear hq hset
      have i1 : (0 : Int) ≤ j := by omega
      have i2 : (j : Int) < knobs.length := by omega
      have hdl := dirT_lt hd6 hn
      have f1 : IntKind.i64.wrap (d : Int) = d := IntWalk.i64_in _ (by omega)
      have f2 : IntKind.u8.wrap (dirT d n : Int) = dirT d n := IntWalk.u8_in _ (by omega)
      obtain ⟨W4, hW4, E4, B4, hz4⟩ := mk_ wr #[.int .i64 qx, .int .i64 qy, .int .i64 qz, .int .u8 d, .int .u8 sort] 76
      have b4 := B4.cell
      have b2 := (BP.ext E4).cell
      go_upto_region 5 with (fail)
      refine wp_region_tail 20 (by kernel_rfl) (by kernel_rfl) ?_
      simp only [List.take_succ_cons, List.take_zero, List.drop_succ_cons, List.drop_zero]
      repeat (go_big_quiet_step ((first | (go_at_call 41; exact quiet_ext (turn_c _ _ _ n _ hn (by first | exact hqo | exact stepS_ok d))) | (go_at_call 50; exact quiet_ext (plus_c _ _ _ _ _ _ _ (turnS_ok hqo n) hp)) | (go_at_call 51; exact quiet_ext (step_c d hd6 _)) | (go_at_call 75; exact quiet_ext (direction_t d n hd6 hn _)))))
      refine wpQuiet_nil ?_
      intro W5 hW5
      have E5 : Ext W4 W5 := by
        obtain ⟨x, rfl⟩ := hW5
        exact (Ext.refl _).grow x
      clear hW5
      obtain ⟨hcW5, hfW5, hzW5⟩ := ext_facts E5
      have BO' := (BO.ext E4).ext E5
      unfold knbsA at BO'
      obtain ⟨W6, hW6, B6, far6, ext6⟩ := BO'.row5 (knbs_wide _) (k := j) (by rw [List.length_map, partL_len _ _ (by rw [Hpl.out]; omega), Hpl.out]; omega) (.int .i64 ((turnS ⟨qx, qy, qz⟩ n).x + x)) (.int .i64 ((turnS ⟨qx, qy, qz⟩ n).y + y)) (.int .i64 ((turnS ⟨qx, qy, qz⟩ n).z + z)) (.int .u8 (dirT d n)) (.int .u8 sort)
      have f6 := BO'.frozen
      have hz0 : ((partL zK (placeK knobs n ⟨x, y, z⟩) j).map Knb.cs)[j]? = some (Knb.cs zK) := by rw [List.getElem?_map, partL_at _ _ (by rw [Hpl.out]; exact hlt)]; rfl
      have y0 := (BO'.cell (j * 5 + 0)).trans (rowsA_get (knbs_wide _) hz0 (j := 0) rfl)
      have y1 := (BO'.cell (j * 5 + 1)).trans (rowsA_get (knbs_wide _) hz0 (j := 1) rfl)
      have y2 := (BO'.cell (j * 5 + 2)).trans (rowsA_get (knbs_wide _) hz0 (j := 2) rfl)
      have y3 := (BO'.cell (j * 5 + 3)).trans (rowsA_get (knbs_wide _) hz0 (j := 3) rfl)
      have y4 := (BO'.cell (j * 5 + 4)).trans (rowsA_get (knbs_wide _) hz0 (j := 4) rfl)
      simp only [Nat.add_zero] at y0
      clear hz0
      go_wp2_with fail
      go_roundw
      case rel => exact ⟨j + 1, by omega, by go_num, ext6 _ ((E.trans E4).trans E5) (by have := HS.out; omega), far6 _ _ _ (by omega) ((BK.ext E4).ext E5), far6 _ _ _ (by omega) ((BP.ext E4).ext E5), by
        rw [← partL_set _ _ Hset.out]
        unfold knbsA
        rw [List.map_set]
        exact B6⟩
      case measure => simp only [intOf]; omega
    · obtain rfl : knobs.length = j := by omega
      have hpa : partL zK (placeK knobs n ⟨x, y, z⟩) knobs.length = placeK knobs n ⟨x, y, z⟩ := by
        have := partL_all zK (placeK knobs n ⟨x, y, z⟩)
        rwa [Hpl.out] at this
      rw [hpa] at BO
      clear hpa
      go_wp2_with fail
      go_ret
      exact ⟨S + 1 + 1, by have := HS.out; omega, rfl, BO, E⟩
end Go.Proofs.YtaaeapjnjjbglaaGreatDoor.Lat
namespace Go.Proofs.YtaaeapjnjjbglaaGreatDoor.Lat
open Go.RowKit

/-- n does what a and then b do, to two cells. -/
def compB (a b n : Nat) : Bool := Pt.eqB (turnS ⟨1, 0, 0⟩ n) (turnS (turnS ⟨1, 0, 0⟩ a) b) && Pt.eqB (turnS ⟨0, 1, 0⟩ n) (turnS (turnS ⟨0, 1, 0⟩ a) b)
/-- The turn that does what a and then b do. -/
def compT (a b : Nat) : Nat := ((List.range 24).find? (compB a b)).getD 0
theorem find_at (f : Nat → Bool) (N k : Nat) (hk : k < N) (h : ∀ j, j < k → f j = false) (hf : f k = true) : (List.range N).find? f = some k := by
  rw [List.find?_range_eq_some]
  exact ⟨hf, List.mem_range.2 hk, fun j hj => by rw [h j hj]; rfl⟩
theorem find_no (f : Nat → Bool) (N : Nat) (h : ∀ j, j < N → f j = false) : (List.range N).find? f = none := by
  rw [List.find?_range_eq_none]
  intro i hi
  rw [h i hi]
  rfl

end Go.Proofs.YtaaeapjnjjbglaaGreatDoor.Lat
namespace Go.Proofs.YtaaeapjnjjbglaaGreatDoor.Lat
open Go.RowKit

theorem flat_snoc (rows : List (List Value)) (r : List Value) : (rows ++ [r]).flatten = rows.flatten ++ r := by simp
theorem take_map_snoc {α : Type} {f : α → List Value} {l : List α} {j : Nat} {x : α} (h : l[j]? = some x) : ((l.take (j + 1)).map f).flatten = ((l.take j).map f).flatten ++ f x := by
  rw [List.take_add_one, h, Option.toList_some, List.map_append, List.map_cons, List.map_nil, flat_snoc]
end Go.Proofs.YtaaeapjnjjbglaaGreatDoor.Lat
namespace Go.Proofs.YtaaeapjnjjbglaaGreatDoor.Lat
open Go.RowKit

theorem infoKnb5 : (Tryz.prog.info? 76).map (fun i => (i.zero, i.size, i.bytes)) = some (some (.agg #[.int .i64 0, .int .i64 0, .int .i64 0, .int .u8 0, .int .u8 0]), 5, 32) := by kernel_rfl
/-- New knobs: nil if there are none. -/
def RKnobsPost (l : List Knb) (n : Nat) (w : World) (e : Ending) (w' : World) : Prop := ∃ A cap, e = .returned (.slice A n cap) ∧ SliceIs w' A n cap 5 (l.map Knb.cs) ∧ (∀ q, A = some q → w.heap.size ≤ q.block) ∧ Ext w w'
/-- New knobs as a row of the call's own: with their type. -/
def RKnobsOwn (l : List Knb) (n : Nat) (w : World) (e : Ending) (w' : World) : Prop := ∃ v, e = .returned v ∧ ∃ b, w.heap.size ≤ b ∧ w'.ownsRow b 76 5 v n (l.map Knb.cs).flatten ∧ Ext w w'
theorem own_slice0 {w : World} {b : Nat} {e : TypeId} {sz : Nat} {v : Value} {n : Nat} {rows : List (List Value)} (hw : ∀ r ∈ rows, r.length = sz) (hn : rows.length = n) (h : w.ownsRow b e sz v n rows.flatten) : ∃ A cap, v = .slice A n cap ∧ SliceIs w A n cap sz rows ∧ (∀ q, A = some q → b ≤ q.block) := by
  rcases h.2 with ⟨hv, h0⟩ | ⟨g, cap, cur, hv, hg, hb, h1, h2, _, _⟩
  · subst h0
    exact ⟨none, 0, hv, ⟨hn, Nat.le_refl _, Nat.zero_le _, hw, fun h => by omega⟩, fun q hq => by cases hq⟩
  · subst hv
    obtain ⟨X, q0, q1, q2⟩ := RowX.of_own h
    exact ⟨_, _, rfl, X.slice hw hn q1 q2, fun q hq => by cases hq; exact q0⟩
end Go.Proofs.YtaaeapjnjjbglaaGreatDoor.Lat
namespace Go.Proofs.YtaaeapjnjjbglaaGreatDoor.Lat
open Go.RowKit

def eqC (a b : List Pt) : Bool := decide (a.length = b.length) && allR a.length fun i => (ptAt a i).eqB (ptAt b i)
theorem eqC_iff {a b : List Pt} : eqC a b = true ↔ a = b := by
  unfold eqC
  rw [Bool.and_eq_true, decide_eq_true_eq]
  constructor
  · rintro ⟨h1, h2⟩
    refine List.ext_getElem h1 fun i hi hj => ?_
    have := Pt.eqB_iff.1 (allR_at h2 hi)
    unfold ptAt at this
    simpa [hi, hj] using this
  · rintro rfl
    exact ⟨rfl, allR_good fun j _ => Pt.eqB_iff.2 rfl⟩
theorem eqC_len {a b : List Pt} (h : ¬ a.length = b.length) : eqC a b = false := by rw [eqC, decide_eq_false h]; rfl
theorem eqC_bad {a b : List Pt} {k : Nat} (hk : k < a.length) (h : (ptAt a k).eqB (ptAt b k) = false) : eqC a b = false := by rw [eqC, allR_bad hk h, Bool.and_false]
theorem eqC_good {a b : List Pt} (hl : a.length = b.length) (h : ∀ j, j < a.length → (ptAt a j).eqB (ptAt b j) = true) : eqC a b = true := by rw [eqC, decide_eq_true hl, allR_good h]; rfl
/-! Knobs. -/
def Knb.eqB (a b : Knb) : Bool := a.at_.eqB b.at_ && (a.dir == b.dir && a.sort == b.sort)
theorem Knb.eqB_iff {a b : Knb} : a.eqB b = true ↔ a = b := by
  obtain ⟨p, d, s⟩ := a
  obtain ⟨q, e, t⟩ := b
  unfold Knb.eqB
  simp only [Bool.and_eq_true, beq_iff_eq, Pt.eqB_iff, Knb.mk.injEq]
theorem knb_eql (a b c d e a' b' c' d' e' : Int) (w : World) : (binOp .eql 76 (.agg #[.int .i64 a, .int .i64 b, .int .i64 c, .int .u8 d, .int .u8 e]) (.agg #[.int .i64 a', .int .i64 b', .int .i64 c', .int .u8 d', .int .u8 e'])).run Tryz.prog w = .ok (.bool (Knb.eqB ⟨⟨a, b, c⟩, d, e⟩ ⟨⟨a', b', c'⟩, d', e'⟩)) w := by
  unfold Knb.eqB Pt.eqB
  by_cases h1 : a = a' <;> by_cases h2 : b = b' <;> by_cases h3 : c = c' <;> by_cases h4 : d = d' <;> by_cases h5 : e = e' <;> simp [go_sem, h1, h2, h3, h4, h5]
theorem knb_neq (a b c d e a' b' c' d' e' : Int) (w : World) : (binOp .neq 76 (.agg #[.int .i64 a, .int .i64 b, .int .i64 c, .int .u8 d, .int .u8 e]) (.agg #[.int .i64 a', .int .i64 b', .int .i64 c', .int .u8 d', .int .u8 e'])).run Tryz.prog w = .ok (.bool (!Knb.eqB ⟨⟨a, b, c⟩, d, e⟩ ⟨⟨a', b', c'⟩, d', e'⟩)) w := by
  unfold Knb.eqB Pt.eqB
  by_cases h1 : a = a' <;> by_cases h2 : b = b' <;> by_cases h3 : c = c' <;> by_cases h4 : d = d' <;> by_cases h5 : e = e' <;> simp [go_sem, h1, h2, h3, h4, h5]
theorem Knb.eqB_comm (p q : Knb) : p.eqB q = q.eqB p := by rw [Bool.eq_iff_iff, Knb.eqB_iff, Knb.eqB_iff]; exact eq_comm
def hasK (l : List Knb) (p : Knb) : Bool := l.any fun q => q.eqB p
theorem hasK_iff {l : List Knb} {p : Knb} : hasK l p = true ↔ p ∈ l := by
  unfold hasK
  rw [List.any_eq_true]
  exact ⟨fun ⟨q, h, e⟩ => Knb.eqB_iff.1 e ▸ h, fun h => ⟨p, h, Knb.eqB_iff.2 rfl⟩⟩
theorem hasK_drop {l : List Knb} {p q : Knb} {k : Nat} (h : l[k]? = some q) : hasK (l.drop k) p = (q.eqB p || hasK (l.drop (k + 1)) p) := by
  obtain ⟨hk, hn⟩ := List.getElem?_eq_some_iff.1 h
  rw [List.drop_eq_getElem_cons hk, hn]
  rfl
/-- Knobs, of bytes or not. -/
def KnobsR (w : World) (A : Option Addr) (cap : Nat) (l : List Knb) : Prop := SliceIs w A l.length cap 5 (l.map Knb.cs)
theorem KnobsR.ext {w w' : World} {A : Option Addr} {cap : Nat} {l : List Knb} (h : KnobsR w A cap l) (e : Ext w w') : KnobsR w' A cap l := SliceIs.ext h e
theorem KnobsR.len {w : World} {A : Option Addr} {cap : Nat} {l : List Knb} (h : KnobsR w A cap l) : l.length ≤ maxLen := Nat.le_trans h.le h.small
theorem KnobsR.at_ {w : World} {A : Option Addr} {cap : Nat} {l : List Knb} (h : KnobsR w A cap l) {k : Nat} (hk : k < l.length) :
    ∃ b off p, A = some ⟨b, off, none⟩ ∧ l[k]? = some p ∧ b < w.heap.size ∧ w.cell? ⟨b, off + k * 5, none⟩ = some (.int .i64 p.at_.x) ∧ w.cell? ⟨b, off + k * 5 + 1, none⟩ = some (.int .i64 p.at_.y) ∧
      w.cell? ⟨b, off + k * 5 + 2, none⟩ = some (.int .i64 p.at_.z) ∧ w.cell? ⟨b, off + k * 5 + 3, none⟩ = some (.int .u8 p.dir) ∧ w.cell? ⟨b, off + k * 5 + 4, none⟩ = some (.int .u8 p.sort) := by
  obtain ⟨b, off, hA, hb, hc⟩ := SliceIs.cells h (by omega)
  have hget : l[k]? = some l[k] := List.getElem?_eq_getElem hk
  have hr : (l.map Knb.cs)[k]? = some l[k].cs := by rw [List.getElem?_map, hget]; rfl
  exact ⟨b, off, l[k], hA, hget, hb, hc k _ hr 0 _ rfl, hc k _ hr 1 _ rfl, hc k _ hr 2 _ rfl, hc k _ hr 3 _ rfl, hc k _ hr 4 _ rfl⟩
/-! SameKnobs. -/
def subK (a b : List Knb) : Bool := allR a.length fun i => hasK b (knbAt a i)
def sameK (a b : List Knb) : Bool := decide (a.length = b.length) && subK a b
theorem subK_iff {a b : List Knb} : subK a b = true ↔ ∀ x ∈ a, x ∈ b := by
  constructor
  · intro h x hx
    obtain ⟨i, hi⟩ := List.getElem?_of_mem hx
    have := allR_at h (List.getElem?_eq_some_iff.1 hi).1
    rwa [knbAt_eq hi, hasK_iff] at this
  · intro h
    exact allR_good fun j hj => by
      rw [hasK_iff, knbAt_eq (List.getElem?_eq_getElem hj)]
      exact h _ (List.getElem_mem hj)
end Go.Proofs.YtaaeapjnjjbglaaGreatDoor.Lat
namespace Go.Proofs.YtaaeapjnjjbglaaGreatDoor.Lat
open Go.RowKit

def Pt.in_ (B : Int) (p : Pt) : Prop := (-B ≤ p.x ∧ p.x ≤ B) ∧ (-B ≤ p.y ∧ p.y ≤ B) ∧ (-B ≤ p.z ∧ p.z ≤ B)
theorem Pt.in_.ok {B : Int} {p : Pt} (h : p.in_ B) (hB : B ≤ 1000000) : p.ok := by
  unfold Pt.in_ at h
  unfold Pt.ok CB
  omega
theorem rotZn_in {B : Int} {p : Pt} (h : p.in_ B) : ∀ k, (rotZn p k).in_ B
  | 0 => h
  | k + 1 => by
    have := rotZn_in h k
    unfold Pt.in_ at *
    unfold rotZn rotZ
    simp only
    omega
theorem turnS_in {B : Int} {p : Pt} (h : p.in_ B) (n : Nat) : (turnS p n).in_ B := by
  have := rotZn_in h (n % 4)
  unfold turnS turnQ
  unfold Pt.in_ at *
  split <;> first | omega | (simp only; omega)
theorem addP_in {B C : Int} {p q : Pt} (h : p.in_ B) (k : q.in_ C) : (addP p q).in_ (B + C) := by
  unfold Pt.in_ at *
  unfold addP
  simp only
  omega
theorem subP_in {B C : Int} {p q : Pt} (h : p.in_ B) (k : q.in_ C) : (subP p q).in_ (B + C) := by
  unfold Pt.in_ at *
  unfold subP
  simp only
  omega
theorem near_in {p : Pt} (h : nearB p 0 15 = true) : p.in_ 15 := by
  rw [nearB_iff] at h
  unfold Pt.in_
  omega
theorem near_in' {p : Pt} (h : nearB p (-1000) 1000 = true) : p.in_ 1000 := by
  rw [nearB_iff] at h
  unfold Pt.in_
  omega
/-- What is used of a valid kind. -/
structure Knd.Fine (k : Knd) : Prop where
  pos : 0 < k.cells.length
  len : k.cells.length ≤ 24
  klen : k.knobs.length ≤ 48
  near : ∀ p ∈ k.cells, p.in_ 15
  knob : ∀ x ∈ k.knobs, x.at_.in_ 15 ∧ 0 ≤ x.dir ∧ x.dir ≤ 5
theorem Knd.fine_of {k : Knd} (h : k.valid = true) (hb : ∀ x ∈ k.knobs, x.byte) : k.Fine := by
  unfold Knd.valid at h
  rw [Bool.and_eq_true, Bool.and_eq_true, sized_iff] at h
  obtain ⟨⟨⟨h1, h2⟩, h3, _, _⟩, h6, h7⟩ := h
  have hnear : ∀ p ∈ k.cells, p.in_ 15 := fun p hp => by
    obtain ⟨i, hi⟩ := List.getElem?_of_mem hp
    have := allR_at h6 (List.getElem?_eq_some_iff.1 hi).1
    rw [cellOk, ptAt_eq hi, Bool.and_eq_true] at this
    exact near_in this.1
  refine ⟨h1, h2, h3, hnear, fun x hx => ?_⟩
  obtain ⟨i, hi⟩ := List.getElem?_of_mem hx
  have := allR_at h7 (List.getElem?_eq_some_iff.1 hi).1
  rw [knobOk, knbAt_eq hi, Bool.and_eq_true, Knb.one_iff] at this
  obtain ⟨⟨g1, _, g3, _⟩, _⟩ := this
  exact ⟨hnear _ (hasP_iff.1 g3), (hb x hx).1.1, g1⟩
theorem Knd.Fine.cok {k : Knd} (h : k.Fine) : ∀ p ∈ k.cells, p.ok := fun p hp => (h.near p hp).ok (by omega)
theorem Knd.Fine.kok {k : Knd} (h : k.Fine) : ∀ x ∈ k.knobs, x.fine := fun x hx => ⟨(h.knob x hx).1.ok (by omega), (h.knob x hx).2⟩
def likeAt (k : Knd) (bt : Nat) (p : Pt) (n : Nat) : Pt := subP (ptAt (sortP (placeP k.cells bt p)) 0) (ptAt (sortP (placeP k.cells n ⟨0, 0, 0⟩)) 0)
def likeB (k : Knd) (bt : Nat) (p : Pt) (n : Nat) : Bool := eqC (sortP (placeP k.cells n (likeAt k bt p n))) (sortP (placeP k.cells bt p)) && subK (placeK k.knobs n (likeAt k bt p n)) (placeK k.knobs bt p)
theorem head_in {k : Knd} (h : k.Fine) (n : Nat) {B : Int} {p : Pt} (hp : p.in_ B) : (ptAt (sortP (placeP k.cells n p)) 0).in_ (15 + B) := by
  have hl : (sortP (placeP k.cells n p)).length = k.cells.length := by rw [sortP_len, placeP_len]
  have h0 : (sortP (placeP k.cells n p))[0]? = some ((sortP (placeP k.cells n p))[0]'(by rw [hl]; exact h.pos)) := List.getElem?_eq_getElem _
  rw [ptAt_eq h0]
  have hm := (sortP_perm _).mem_iff.1 (List.mem_of_getElem? h0)
  obtain ⟨c, hc, e⟩ := List.mem_map.1 (show _ ∈ k.cells.map (fun c => addP (turnS c n) p) from hm)
  rw [← e]
  exact addP_in (turnS_in (h.near c hc) n) hp
theorem likeAt_in {k : Knd} (h : k.Fine) (bt n : Nat) {B : Int} {p : Pt} (hp : p.in_ B) : (likeAt k bt p n).in_ (15 + B + 15) := by
  have h0 : (⟨0, 0, 0⟩ : Pt).in_ 0 := by
    unfold Pt.in_
    simp
  have := subP_in (head_in h bt hp) (head_in h n h0)
  unfold Pt.in_ at *
  unfold likeAt
  omega
theorem cells_of_blk {w : World} {g n : Nat} {l : List Pt} (h : Blk w g 53 (ptsA l)) (hn : l.length = n) (hl : n ≤ 100000) : Cells w (some ⟨g, 0, none⟩) n l := by
  have := Blk.slice (rows := l.map Pt.cs) h (pts_wide l) (by rw [List.length_map]; omega)
  rw [List.length_map, hn] at this
  unfold Cells
  rw [hn]
  exact this
theorem knobs_of_blk {w : World} {g n : Nat} {l : List Knb} (h : Blk w g 76 (knbsA l)) (hn : l.length = n) (hl : n ≤ 100000) : KnobsR w (some ⟨g, 0, none⟩) n l := by
  have := Blk.slice (rows := l.map Knb.cs) h (knbs_wide l) (by rw [List.length_map]; omega)
  rw [List.length_map, hn] at this
  unfold KnobsR
  rw [hn]
  exact this
end Go.Proofs.YtaaeapjnjjbglaaGreatDoor.Lat
namespace Go.Proofs.YtaaeapjnjjbglaaGreatDoor.Lat
open Go.RowKit

/-- A new block behind a pointer. -/
def NewB (t : TypeId) (cs : Array Value) (w0 : World) (v : Value) (w : World) : Prop := ∃ g, v = .pointer (some ⟨g, 0, none⟩) ∧ w0.heap.size ≤ g ∧ Blk w g t cs ∧ Ext w0 w
theorem pts_cell {w : World} {g : Nat} {l : List Pt} (h : Blk w g 53 (ptsA l)) (hp : 0 < l.length) : w.cell? ⟨g, 0, none⟩ = some (.int .i64 (ptAt l 0).x) ∧ w.cell? ⟨g, 1, none⟩ = some (.int .i64 (ptAt l 0).y) ∧ w.cell? ⟨g, 2, none⟩ = some (.int .i64 (ptAt l 0).z) := by
  have h0 : l[0]? = some (ptAt l 0) := by
    rw [ptAt_eq (List.getElem?_eq_getElem hp)]
    exact List.getElem?_eq_getElem hp
  have hr : (l.map Pt.cs)[0]? = some (Pt.cs (ptAt l 0)) := by
    rw [List.getElem?_map, h0]
    rfl
  have a0 := rowsA_get (pts_wide l) hr (j := 0) rfl
  have a1 := rowsA_get (pts_wide l) hr (j := 1) rfl
  have a2 := rowsA_get (pts_wide l) hr (j := 2) rfl
  simp only [Nat.zero_mul, Nat.zero_add] at a0 a1 a2
  exact ⟨(h.cell 0).trans a0, (h.cell 1).trans a1, (h.cell 2).trans a2⟩
theorem _root_.Go.Proofs.YtaaeapjnjjbglaaGreatDoor.Blk.ext' {w w' : World} {g : Nat} {t : TypeId} {cs : Array Value} (h : Blk w g t cs) (e : Ext w w') : Blk w' g t cs := h.ext e
end Go.Proofs.YtaaeapjnjjbglaaGreatDoor.Lat
namespace Go.Proofs.YtaaeapjnjjbglaaGreatDoor.Lat
open Go.RowKit

theorem kindsErr_valid {l : List Knd} (h : kindsErr l = 0) {k : Knd} (hk : k ∈ l) : k.valid = true := by
  unfold kindsErr at h
  split at h
  · cases h
  · split at h
    · rename_i h2
      obtain ⟨i, hi⟩ := List.getElem?_of_mem hk
      have := allR_at h2 (List.getElem?_eq_some_iff.1 hi).1
      simpa [kindAt, hi] using this
    · cases h
theorem asked_zero {l : List Knd} {b : Brk} (h : askedErr l [b] = 0) : kindsErr l = 0 ∧ b.ok l.length = true := by
  unfold askedErr at h
  split at h
  · rename_i h0
    refine ⟨h0, ?_⟩
    split at h
    · rename_i h2
      exact allR_at h2 (k := 0) (by simp)
    · cases h
  · rename_i h0
    exact absurd h h0
/-- The kind of a valid brick. -/
theorem asked_kind {w : World} {QA : Option Addr} {qc : Nat} {qs : List (Knd × KAt)} (hk : Kinds w QA qc qs) {b : Brk} (h : askedErr (qs.map (·.1)) [b] = 0) : ∃ (i : Nat) (k : Knd) (p : KAt), b.kind = i ∧ qs[i]? = some (k, p) ∧ k.Fine ∧ nearB b.at_ (-1000) 1000 = true ∧ b.turn < 24 := by
  obtain ⟨h1, h2⟩ := asked_zero h
  rw [Brk.ok_iff, List.length_map] at h2
  obtain ⟨a1, a2, a3, a4, _⟩ := h2
  obtain ⟨i, hi⟩ : ∃ i : Nat, b.kind = i := ⟨b.kind.toNat, by omega⟩
  have hil : i < qs.length := by omega
  have hget : qs[i]? = some (qs[i].1, qs[i].2) := List.getElem?_eq_getElem hil
  refine ⟨i, qs[i].1, qs[i].2, hi, hget, ?_, a3, a4⟩
  have hm : qs[i] ∈ qs := List.getElem_mem hil
  exact Knd.fine_of (kindsErr_valid h1 (List.mem_map.2 ⟨_, hm, rfl⟩)) (hk.k _ hm).n.2
/-- A result of cells, or the error. -/
def CellsRes (l : List Pt) (n : Nat) (w : World) (e : Ending) (w' : World) : Prop := ∃ g cap, w.heap.size ≤ g ∧ e = .returned (.tuple #[.slice (some ⟨g, 0, none⟩) n cap, .int .i64 0]) ∧ n ≤ cap ∧ cap ≤ maxLen ∧ RowX w' g 53 (l.map Pt.cs) ∧ Ext w w'
theorem rowX_of_blk {w : World} {g : Nat} {t : TypeId} {rows : List (List Value)} (h : Blk w g t (rowsA rows)) : RowX w g t rows := ⟨#[], by rw [Array.append_empty]; exact h⟩
end Go.Proofs.YtaaeapjnjjbglaaGreatDoor.Lat
