/- The bricks of a composition; Model of the program. much: what is much larger than valid ones. SameModel, sameKind at equal models and kinds. -/
import Derived.Test.YtaaeapjnjjbglaaGreatDoorCd1
import Derived.Test.YtaaeapjnjjbglaaGreatDoorCd11
import Derived.Test.YtaaeapjnjjbglaaGreatDoorCd12
import Derived.Deep.CutRange
import Derived.BigRegion
import Derived.Laws.StructEq

namespace Go.Proofs.YtaaeapjnjjbglaaGreatDoor
open Go.RowKit

/-- The brick of a laid plate. -/
def brickX (l : List Plate) (a : Laid) : Int := if a.turned then a.x + (plateAt l a.plate.toNat).D - 1 else a.x
def brickCells (s : Shape) (l : List Plate) (a : Laid) : List Value :=
  [.int .i64 a.plate, .int .i64 (brickX l a), .int .i64 a.y, .int .i64 a.z, .int .u8 (if a.turned then 1 else 0), .int .u8 (s.colorAt a.x a.y a.z)]
def bricksV (s : Shape) (l : List Plate) (c : List Laid) (k : Nat) : List Value := ((c.take k).map (brickCells s l)).flatten
theorem bricksV_succ {s : Shape} {l : List Plate} {c : List Laid} {k : Nat} {a : Laid} (h : c[k]? = some a) : bricksV s l c (k + 1) = bricksV s l c k ++ brickCells s l a := by
  unfold bricksV
  rw [List.take_add_one, h]
  simp
theorem infoBrick : (Tryz.prog.info? 60).map (fun i => (i.zero, i.size, i.bytes)) = some (some (.agg #[.int .i64 0, .int .i64 0, .int .i64 0, .int .i64 0, .int .u8 0, .int .u8 0]), 6, 40) := by kernel_rfl
theorem turnS_one (d : Int) : turnS ⟨0, d, 0⟩ 1 = ⟨-d, 0, 0⟩ := by rfl
theorem own_far {w : World} {base : Nat} {e : TypeId} {size : Nat} {v : Value} {n : Nat} {xs : List Value} (h : w.ownsRow base e size v n xs) {p : Addr} (hp : v.ownBlock ≠ some p.block) (u : Value) : (w.setCell p u).ownsRow base e size v n xs := by
  obtain ⟨h1, h2⟩ := h
  refine ⟨h1, ?_⟩
  rcases h2 with h2 | ⟨g, cap, cur, hv, hg, hh, r⟩
  · exact Or.inl h2
  · refine Or.inr ⟨g, cap, cur, hv, hg, ?_, r⟩
    rw [Below.heap_setCell _ _ _ _ (fun e => hp (by rw [hv, ← e]; rfl))]
    exact hh
/-- A new block in a world that has only grown. -/
def NewBrick (cs : Array Value) (w0 : World) (v : Value) (w : World) : Prop := ∃ g, v = .pointer (some ⟨g, 0, none⟩) ∧ w0.heap.size ≤ g ∧ Blk w g 60 cs ∧ Ext w0 w
/-- What Model hands back for a composition. -/
def ModelRes (s : Shape) (l : List Plate) (c : List Laid) (w : World) (e : Ending) (w' : World) : Prop :=
  (∃ v, e = .returned (.tuple #[.agg #[v], .int .i64 0]) ∧ w'.ownsRow w.heap.size 60 6 v c.length (bricksV s l c c.length)) ∧ Ext w w'
theorem comp_parts {s : Shape} {l : List Plate} {c : List Laid} (h : compErr s l c = 0) : s.valid = true ∧ platesB l = true ∧ compB s l c = true := by
  unfold compErr at h
  split at h
  · split at h
    · split at h
      · exact ⟨by assumption, by assumption, by assumption⟩
      · omega
    · omega
  · omega
theorem comp_lies {s : Shape} {l : List Plate} {c : List Laid} (h : compB s l c = true) {k : Nat} {a : Laid} (ha : c[k]? = some a) : liesB s l a = true := by
  unfold compB at h
  rw [Bool.and_eq_true, List.all_eq_true] at h
  have := h.1 k (List.mem_range.2 (List.getElem?_eq_some_iff.1 ha).1)
  unfold compAt at this
  rw [Bool.and_eq_true, laidAt_eq ha] at this
  exact this.1

set_option maxRecDepth 100000 in
set_option maxHeartbeats 4000000 in
theorem model_ok (s : Shape) (A : Option Addr) (cap : Nat) (l : List Plate) (PA : Option Addr) (pcap : Nat) (c : List Laid) (CA : Option Addr) (ccap : Nat) (he : compErr s l c = 0) (hclen : c.length ≤ 1000) (w : World)
    (hs : Bytes w A cap s.cells) (hl : Plates w PA pcap l) (hcs : Laids w CA ccap c) :
    Calls Tryz.prog 6 #[.agg #[.int .i64 s.W, .int .i64 s.D, .int .i64 s.H, .slice A s.cells.length cap], .slice PA l.length pcap, .slice CA c.length ccap] w (ModelRes s l c w) := by
  obtain ⟨hv, okl, hcomp⟩ := comp_parts he
  have ok := Shape.ok_of hv
  have He := Lib.hid he
  have Hcomp := Lib.hid hcomp
  clear he hv hcomp
  obtain ⟨W1, hW1, E1, B1, hz1⟩ := box_ w #[.int .i64 s.W, .int .i64 s.D, .int .i64 s.H, .slice A s.cells.length cap] 24
  obtain ⟨W2, hW2, E2, B2, hz2⟩ := box_ W1 #[.slice none 0 0] 31
  rw [hz1] at B2
  have B1 := B1.ext E2
  have b1 := B1.cell
  have E12 := E1.trans E2
  go_enter Tryz.func6, Tryz.ntmps6
  go_wp2_with fail
  refine (check_c s A cap l PA pcap c CA ccap hclen _ (hs.ext E12) (hl.ext E12) (hcs.ext E12)).mono ?_
  rintro e W3 ⟨rfl, E3⟩
  rw [He.out]
  have B1 := B1.ext E3
  have B2 := B2.ext E3
  have E13 := E12.trans E3
  obtain ⟨MB, hMB⟩ : ∃ MB, W3.heap.size = MB := ⟨_, rfl⟩
  obtain ⟨W4, hW4, E4, B4, hz4⟩ := box_ W3 #[.slice none 0 0] 31
  have hwMB : w.heap.size + 1 < MB := by have := B2.lt; omega
  rw [hMB] at B4
  have B1 := B1.ext E4
  have B2 := B2.ext E4
  have E14 := E13.trans E4
  clear b1
  go_wp2_with fail
  have HMB := Lib.hid hMB
  clear hMB hW4 hW1 hW2 hz2 hz4
  obtain ⟨S, hS⟩ : ∃ S, w.heap.size = S := ⟨_, rfl⟩
  rw [hS] at B1 B2 hwMB ⊢
  have HS := Lib.hid hS
  clear hS
  go_loopw [25] (fun i wr => ∃ (k : Nat) (v : Value), k ≤ c.length ∧ i = .int .i64 k ∧ Ext w wr ∧ Blk wr S 24 #[.int .i64 s.W, .int .i64 s.D, .int .i64 s.H, .slice A s.cells.length cap] ∧
    Blk wr (S + 1) 31 #[.slice none 0 0] ∧ Blk wr MB 31 #[v] ∧ wr.ownsRow (MB + 1) 60 6 v k (bricksV s l c k)) (fun i _ => c.length - (intOf i).toNat)
  case atStart => exact ⟨0, _, by omega, rfl, E14, B1, B2, B4, World.ownsRow_nil _ _ _ _⟩
  case round =>
    obtain ⟨k, v, hk, rfl, E, BS, BR, BM, own⟩ := hrel
    clear B1 B2 B4
    have hMr := BM.lt
    by_cases hlt : k < c.length
    · obtain ⟨b, off, a, rfl, ha, hb, a0, a1, a2, a3, a4⟩ := hcs.at_ hlt
      obtain ⟨q0, q1, q2, q3, q4⟩ := E.five a0 a1 a2 a3 a4
      have hbr : b < wr.heap.size := Nat.lt_of_lt_of_le hb E.size
      have hli := comp_lies Hcomp.out ha
      have hin : s.inside a.x a.y a.z = true := (lies_iff.1 hli).2.1
      obtain ⟨hp1, hp2⟩ := liesB_plate hli
      have Ha := Lib.hid ha
      clear ha hli
      obtain ⟨W5, hW5, E5, B5, hz5⟩ := box_ wr #[.int .i64 a.plate, .int .i64 a.x, .int .i64 a.y, .int .i64 a.z, .bool a.turned] 55
      clear hz5
      have b5 := B5.cell
      have bs5 := (BS.ext E5).cell
      have hlt5 := B5.lt
      have hS5 := (BS.ext E5).lt
      have hM5 := (BM.ext E5).lt
      have E05 := E.trans E5
      obtain ⟨i1, i2, i3, i4, i5, i6, i7⟩ := s.idx_in ok hin
      obtain ⟨sb, soff, col, hSA, hcol, hok, hbl, hcell⟩ := (hs.ext E05).at_ (k := (s.idx a.x a.y a.z).toNat) (by omega)
      subst hSA
      have Hcol : Hid (s.colorAt a.x a.y a.z = col) := Lib.hid (by
        rw [Shape.colorAt, if_pos hin, List.getD_eq_getElem?_getD, hcol]
        rfl)
      clear hcol
      obtain ⟨⟨x1, x2⟩, ⟨y1, y2⟩, z1, z2⟩ := (s.inside_iff _ _ _).1 hin
      clear hin
      obtain ⟨w1, w2⟩ := ok.w
      obtain ⟨d1, d2⟩ := ok.d
      obtain ⟨h1, h2⟩ := ok.h
      have ei : (a.z * s.D + a.y) * s.W + a.x = s.idx a.x a.y a.z := rfl
      have hi2 : (s.idx a.x a.y a.z) < (s.cells.length : Int) := i2
      have hw1 : IntKind.i64.wrap (a.z * s.D) = a.z * s.D := IntWalk.i64_in _ (by omega)
      have hw0 : IntKind.i64.wrap (a.z * s.D + a.y) = a.z * s.D + a.y := IntWalk.i64_in _ (by omega)
      have hw2 : IntKind.i64.wrap ((a.z * s.D + a.y) * s.W) = (a.z * s.D + a.y) * s.W := IntWalk.i64_in _ (by omega)
      have hw3 : IntKind.i64.wrap (s.idx a.x a.y a.z) = s.idx a.x a.y a.z := IntWalk.i64_in _ (by omega)
      go_upto_region 8 with (fail)
      go_cut [12, 25] from 25 to 84 (fun s12 s25 wx => NewBrick #[.int .i64 a.plate, .int .i64 a.x, .int .i64 a.y, .int .i64 a.z, .int .u8 0, .int .u8 col] W5 s12 wx ∧ s25 = .int .i64 k)
      case first =>
        have l0 := b5 0
        have l1 := b5 1
        have l2 := b5 2
        have l3 := b5 3
        have s0 := bs5 0
        have s1 := bs5 1
        have s3 := bs5 3
        clear b5 bs5
        go_region_held3 (fun w' => w'.cell? ⟨wr.heap.size, 0, none⟩ = some (.int .i64 a.plate) ∧ w'.cell? ⟨wr.heap.size, 1, none⟩ = some (.int .i64 a.x) ∧ w'.cell? ⟨wr.heap.size, 2, none⟩ = some (.int .i64 a.y) ∧ w'.cell? ⟨wr.heap.size, 3, none⟩ = some (.int .i64 a.z) ∧
          w'.cell? ⟨S, 0, none⟩ = some (.int .i64 s.W) ∧ w'.cell? ⟨S, 1, none⟩ = some (.int .i64 s.D) ∧ w'.cell? ⟨S, 3, none⟩ = some (.slice (some ⟨sb, soff, none⟩) s.cells.length cap) ∧ w'.cell? ⟨sb, soff + (s.idx a.x a.y a.z).toNat, none⟩ = some (.int .u8 col)) (go_keep) (first | fail)
        all_goals
          go_wp2_with fail
          go_meet
          exact ⟨⟨_, rfl, Nat.le_refl _, (Blk.new _ _ _).drew, ((Ext.refl _).alloc _).drew⟩, rfl⟩
      case rest =>
        clear b5 bs5 hw0 hw1 hw2 hw3 ei hi2 hcell q0 q1 q2 q3 q4
        obtain ⟨⟨g, rfl, hg, BB, E6⟩, rfl⟩ := hcut
        have E06 := E05.trans E6
        have BS6 := (BS.ext E5).ext E6
        have BR6 := (BR.ext E5).ext E6
        have BM6 := (BM.ext E5).ext E6
        have B56 := B5.ext E6
        have own6 := own_ext (own_ext own E5) E6
        have hml : k + 1 ≤ maxLen := by unfold maxLen; omega
        obtain ⟨i0, hi, hz0, hz1', hz2'⟩ := info_parts infoBrick
        have Hsn := Lib.hid (bricksV_succ (s := s) (l := l) Ha.out)
        have hgM : MB < g := by omega
        have hgS : S < g := by omega
        have hvg : v.ownBlock ≠ some g := fun e => by have := (own.lt g e).2; omega
        obtain ⟨t, ht⟩ : ∃ t, a.turned = t := ⟨_, rfl⟩
        rw [ht] at B56
        have Ht := Lib.hid ht
        clear ht
        have bm := BM6.cell
        cases t
        · have b5 := B56.cell
          have bb := BB.cell
          have hbase7 : MB + 1 ≤ wc.heap.size := BM6.lt
          go_wp2_with (at_builtin; refine wpList_append_one #[.int .i64 a.plate, .int .i64 a.x, .int .i64 a.y, .int .i64 a.z, .int .u8 0, .int .u8 col] rfl (.tmp 79) (.tmp 81) 29 rfl (MB + 1) 60 60 i0 _ 6 40 Tryz.underlying29 hi hz0 hz1' hz2' rfl (by decide) v k _ _ rfl own6 rfl rfl (by simp [Value.oneCell']) hml (by omega) hbase7 ?_; intro g8 cap8 w8 own8 hg8; have BS8 := (BS6.alloc (.cells #[.int .i64 a.plate, .int .i64 a.x, .int .i64 a.y, .int .i64 a.z, .int .u8 0, .int .u8 col] 60)).grown hg8 (own_ne own6 (by omega)); have BR8 := (BR6.alloc (.cells #[.int .i64 a.plate, .int .i64 a.x, .int .i64 a.y, .int .i64 a.z, .int .u8 0, .int .u8 col] 60)).grown hg8 (own_ne own6 (by omega)); have BM8 := (BM6.alloc (.cells #[.int .i64 a.plate, .int .i64 a.x, .int .i64 a.y, .int .i64 a.z, .int .u8 0, .int .u8 col] 60)).grown hg8 (own_ne own6 (by omega)); have bm8 := BM8.cell 0; have fm8 := BM8.frozen 0; have E8 := (E06.alloc (.cells #[.int .i64 a.plate, .int .i64 a.x, .int .i64 a.y, .int .i64 a.z, .int .u8 0, .int .u8 col] 60)).grown hg8 (fun q hq => by have := (own6.lt q hq).1; rw [HS.out]; omega))
          go_roundw
          case rel =>
            refine ⟨k + 1, .slice (some ⟨g8, 0, none⟩) (k + 1) cap8, by omega, by go_num, E8.setCell (by rw [HS.out]; show S ≤ MB; omega) _, BS8.far (by show S ≠ MB; omega) _, BR8.far (by show S + 1 ≠ MB; omega) _, BM8.set_ 0 _, own_setCell ?_ (show MB < MB + 1 by omega) _⟩
            rw [Hsn.out]
            have hbc : brickCells s l a = [.int .i64 a.plate, .int .i64 a.x, .int .i64 a.y, .int .i64 a.z, .int .u8 0, .int .u8 col] := by
              unfold brickCells brickX
              rw [Ht.out, Hcol.out]
              simp
            rw [hbc]
            exact own8
          case measure => simp only [intOf]; omega
        · obtain ⟨pb, poff, p, hPA, hpl, hpb, p0, p1, p2, p3⟩ := (hl.ext E06).at_ (k := a.plate.toNat) (by omega)
          subst hPA
          have okp := plate_ok okl hpl
          have okw := okp.w
          have okd := okp.d
          have Hp := Lib.hid (plateAt_eq hpl)
          clear hpl okp p0 p2 p3
          have HT : Hid (∀ w, Calls Tryz.prog 20 #[.agg #[.int .i64 0, .int .i64 (p.D - 1), .int .i64 0], .int .i64 1] w fun e w' => e = .returned (.tuple #[.agg #[.int .i64 (1 - p.D), .int .i64 0, .int .i64 0], .int .i64 0]) ∧ Ext w w') := Lib.hid (fun w => by
            have := Turn_ok 0 (p.D - 1) 0 1 w (by omega) (nearB_iff.2 (by simp only; omega))
            rw [turnS_one] at this
            rw [show (1 : Int) - p.D = -(p.D - 1) by omega]
            exact this)
          have b5 := B56.cell
          go_wp2_with fail
          refine (HT.out _).mono ?_
          rintro e W7 ⟨rfl, E7⟩
          go_upto_region 11 with (fail)
          obtain ⟨W8, hW8, E8, BC, hz8⟩ := box_ W7 #[.int .i64 (1 - p.D), .int .i64 0, .int .i64 0] 53
          rw [hW8]
          clear hz8 hW8
          have E78 := E7.trans E8
          have E08 := E06.trans E78
          have BB8 := BB.ext E78
          have bb8 := BB8.cell
          have ff8 := BB8.frozen
          have hg7 : g < W7.heap.size := (BB.ext E7).lt
          obtain ⟨W9, hW9, BB9, keep9, ext9, hz9⟩ := BB8.store1 4 (.int .u8 1)
          clear hz9
          have BB9 : Blk W9 g 60 #[.int .i64 a.plate, .int .i64 a.x, .int .i64 a.y, .int .i64 a.z, .int .u8 1, .int .u8 col] := BB9
          have bb9 := BB9.cell
          have ff9 := BB9.frozen
          have BC9 := keep9 _ _ _ (by omega) BC
          have bc9 := BC9.cell
          obtain ⟨W10, hW10, BB10, keep10, ext10, hz10⟩ := BB9.store1 1 (.int .i64 (a.x - (1 - p.D)))
          clear hz10
          have BB10 : Blk W10 g 60 #[.int .i64 a.plate, .int .i64 (a.x - (1 - p.D)), .int .i64 a.y, .int .i64 a.z, .int .u8 1, .int .u8 col] := BB10
          have bb10 := BB10.cell
          have BS10 := keep10 _ _ _ (by omega) (keep9 _ _ _ (by omega) (BS6.ext E78))
          have BR10 := keep10 _ _ _ (by omega) (keep9 _ _ _ (by omega) (BR6.ext E78))
          have BM10 := keep10 _ _ _ (by omega) (keep9 _ _ _ (by omega) (BM6.ext E78))
          have E10 : Ext w W10 := ext10 w (ext9 w E08 (by rw [HS.out]; omega)) (by rw [HS.out]; omega)
          have own10 : W10.ownsRow (MB + 1) 60 6 v k (bricksV s l c k) := by
            rw [← hW10, ← hW9]
            exact own_far (own_far (own_ext own6 E78) hvg _) hvg _
          clear bm
          have bm := BM10.cell
          have hbase7 : MB + 1 ≤ W10.heap.size := BM10.lt
          go_wp2_with (at_builtin; refine wpList_append_one #[.int .i64 a.plate, .int .i64 (a.x - (1 - p.D)), .int .i64 a.y, .int .i64 a.z, .int .u8 1, .int .u8 col] rfl (.tmp 79) (.tmp 81) 29 rfl (MB + 1) 60 60 i0 _ 6 40 Tryz.underlying29 hi hz0 hz1' hz2' rfl (by decide) v k _ _ rfl own10 rfl rfl (by simp [Value.oneCell']) hml (by omega) hbase7 ?_; intro g8 cap8 w8 own8 hg8; have BS8 := (BS10.alloc (.cells #[.int .i64 a.plate, .int .i64 (a.x - (1 - p.D)), .int .i64 a.y, .int .i64 a.z, .int .u8 1, .int .u8 col] 60)).grown hg8 (own_ne own10 (by omega)); have BR8 := (BR10.alloc (.cells #[.int .i64 a.plate, .int .i64 (a.x - (1 - p.D)), .int .i64 a.y, .int .i64 a.z, .int .u8 1, .int .u8 col] 60)).grown hg8 (own_ne own10 (by omega)); have BM8 := (BM10.alloc (.cells #[.int .i64 a.plate, .int .i64 (a.x - (1 - p.D)), .int .i64 a.y, .int .i64 a.z, .int .u8 1, .int .u8 col] 60)).grown hg8 (own_ne own10 (by omega)); have bm8 := BM8.cell 0; have fm8 := BM8.frozen 0; have E8 := (E10.alloc (.cells #[.int .i64 a.plate, .int .i64 (a.x - (1 - p.D)), .int .i64 a.y, .int .i64 a.z, .int .u8 1, .int .u8 col] 60)).grown hg8 (fun q hq => by have := (own10.lt q hq).1; rw [HS.out]; omega))
          go_roundw
          case rel =>
            refine ⟨k + 1, .slice (some ⟨g8, 0, none⟩) (k + 1) cap8, by omega, by go_num, E8.setCell (by rw [HS.out]; show S ≤ MB; omega) _, BS8.far (by show S ≠ MB; omega) _, BR8.far (by show S + 1 ≠ MB; omega) _, BM8.set_ 0 _, own_setCell ?_ (show MB < MB + 1 by omega) _⟩
            rw [Hsn.out]
            have hbc : brickCells s l a = [.int .i64 a.plate, .int .i64 (a.x - (1 - p.D)), .int .i64 a.y, .int .i64 a.z, .int .u8 1, .int .u8 col] := by
              unfold brickCells brickX
              rw [Ht.out, Hcol.out]
              rw [if_pos rfl, if_pos rfl, Hp.out, show a.x + p.D - 1 = a.x - (1 - p.D) by omega]
            rw [hbc]
            exact own8
          case measure => simp only [intOf]; omega
    · obtain rfl : k = c.length := by omega
      obtain ⟨VA, vc, rfl⟩ := own_forms own
      have bm := BM.cell
      have br := BR.cell
      have fr := BR.frozen
      go_wp2_with fail
      refine bodyPost_ret (v := .tuple #[.agg #[.slice VA c.length vc], .int .i64 0]) ?_ rfl ?_
      · simp [results, Tryz.results6, go_sem, br]
      · exact ⟨⟨_, rfl, own_base (own_setCell own (show S + 1 < MB + 1 by omega) _) (by rw [HS.out]; omega)⟩, E.setCell (by rw [HS.out]; show S ≤ S + 1; omega) _⟩

set_option maxRecDepth 100000 in
set_option maxHeartbeats 2000000 in
theorem model_bad (s : Shape) (A : Option Addr) (cap : Nat) (l : List Plate) (PA : Option Addr) (pcap : Nat) (c : List Laid) (CA : Option Addr) (ccap : Nat) (e0 : Int) (he : compErr s l c = e0) (h0 : e0 ≠ 0) (hclen : c.length ≤ 1000) (w : World)
    (hs : Bytes w A cap s.cells) (hl : Plates w PA pcap l) (hcs : Laids w CA ccap c) :
    Calls Tryz.prog 6 #[.agg #[.int .i64 s.W, .int .i64 s.D, .int .i64 s.H, .slice A s.cells.length cap], .slice PA l.length pcap, .slice CA c.length ccap] w fun e w' =>
      e = .returned (.tuple #[.agg #[.slice none 0 0], .int .i64 e0]) ∧ Ext w w' := by
  obtain ⟨W1, hW1, E1, B1, hz1⟩ := box_ w #[.int .i64 s.W, .int .i64 s.D, .int .i64 s.H, .slice A s.cells.length cap] 24
  obtain ⟨W2, hW2, E2, B2, hz2⟩ := box_ W1 #[.slice none 0 0] 31
  rw [hz1] at B2
  have B1 := B1.ext E2
  have b1 := B1.cell
  have E12 := E1.trans E2
  have He := Lib.hid he
  have h0b : (e0 == 0) = false := by simpa using h0
  have h0c : (e0 != 0) = true := by simpa using h0
  clear he h0
  go_enter Tryz.func6, Tryz.ntmps6
  go_wp2_with fail
  refine (check_c s A cap l PA pcap c CA ccap hclen _ (hs.ext E12) (hl.ext E12) (hcs.ext E12)).mono ?_
  rintro e W3 ⟨rfl, E3⟩
  rw [He.out]
  have B2 := B2.ext E3
  have b2 := B2.cell
  have f2 := B2.frozen
  go_wp2_with fail
  refine bodyPost_ret (v := .tuple #[.agg #[.slice none 0 0], .int .i64 e0]) ?_ rfl ⟨rfl, (E12.trans E3).setCell (Nat.le_succ _) _⟩
  simp [results, Tryz.results6, go_sem, b2]
end Go.Proofs.YtaaeapjnjjbglaaGreatDoor

namespace Go.Proofs.YtaaeapjnjjbglaaGreatDoor
open Go.RowKit

def muchB (n m k : Nat) : Bool := decide (600 < n) || (decide (20 < m) || decide (30 < k))
set_option maxHeartbeats 400000 in
theorem much_c (a b c : Int) (A B C : Option Addr) (n m k cn cm ck : Nat) (hn : n ≤ maxLen) (hm : m ≤ maxLen) (hk : k ≤ maxLen) (w : World) :
    Calls Tryz.prog 5 #[.agg #[.int .i64 a, .int .i64 b, .int .i64 c, .slice A n cn], .slice B m cm, .slice C k ck] w fun e w' => e = .returned (.bool (muchB n m k)) ∧ Ext w w' := by
  unfold maxLen at hn hm hk
  obtain ⟨W1, hW1, E1, B1, hz1⟩ := box_ w #[.int .i64 a, .int .i64 b, .int .i64 c, .slice A n cn] 24
  have b1 := B1.cell
  have Hm : Hid (muchB n m k = (decide ((600 : Int) < n) || (decide ((20 : Int) < m) || decide ((30 : Int) < k)))) := Lib.hid (by
    unfold muchB
    rw [show decide (600 < n) = decide ((600 : Int) < n) by simp; omega, show decide (20 < m) = decide ((20 : Int) < m) by simp; omega, show decide (30 < k) = decide ((30 : Int) < k) by simp; omega])
  cases h1 : decide ((600 : Int) < n)
  · cases h2 : decide ((20 : Int) < m)
    · cases h3 : decide ((30 : Int) < k)
      all_goals
        have Hb := Hm.out
        rw [h1, h2, h3] at Hb
        have Hb := Lib.hid Hb
        go_enter Tryz.func5, Tryz.ntmps5
        go_wp2_with fail
        go_ret
        exact ⟨by rw [Hb.out]; rfl, E1⟩
    · have Hb := Hm.out
      rw [h1, h2] at Hb
      have Hb := Lib.hid Hb
      go_enter Tryz.func5, Tryz.ntmps5
      go_wp2_with fail
      go_ret
      exact ⟨by rw [Hb.out]; rfl, E1⟩
  · have Hb := Hm.out
    rw [h1] at Hb
    have Hb := Lib.hid Hb
    go_enter Tryz.func5, Tryz.ntmps5
    go_wp2_with fail
    go_ret
    exact ⟨by rw [Hb.out]; rfl, E1⟩
end Go.Proofs.YtaaeapjnjjbglaaGreatDoor

namespace Go.Proofs.YtaaeapjnjjbglaaGreatDoor
open Go.RowKit

theorem cell_same (a b c : Int) (w : World) : (binOp .neq 53 (.agg #[.int .i64 a, .int .i64 b, .int .i64 c]) (.agg #[.int .i64 a, .int .i64 b, .int .i64 c])).run Tryz.prog w = .ok (.bool false) w := by
  simp [go_sem]
theorem brick_same (a b c d e f : Int) (w : World) : (binOp .neq 60 (.agg #[.int .i64 a, .int .i64 b, .int .i64 c, .int .i64 d, .int .u8 e, .int .u8 f]) (.agg #[.int .i64 a, .int .i64 b, .int .i64 c, .int .i64 d, .int .u8 e, .int .u8 f])).run Tryz.prog w = .ok (.bool false) w := by
  simp [go_sem]
theorem knob_same (a b c d e : Int) (w : World) : (binOp .neq 76 (.agg #[.int .i64 a, .int .i64 b, .int .i64 c, .int .u8 d, .int .u8 e]) (.agg #[.int .i64 a, .int .i64 b, .int .i64 c, .int .u8 d, .int .u8 e])).run Tryz.prog w = .ok (.bool false) w := by
  simp [go_sem]

def BrickRow (r : List Value) : Prop := ∃ a b c d e f : Int, r = [.int .i64 a, .int .i64 b, .int .i64 c, .int .i64 d, .int .u8 e, .int .u8 f]
def CellRow (r : List Value) : Prop := ∃ a b c : Int, r = [.int .i64 a, .int .i64 b, .int .i64 c]
def KnobRow (r : List Value) : Prop := ∃ a b c d e : Int, r = [.int .i64 a, .int .i64 b, .int .i64 c, .int .u8 d, .int .u8 e]

end Go.Proofs.YtaaeapjnjjbglaaGreatDoor
