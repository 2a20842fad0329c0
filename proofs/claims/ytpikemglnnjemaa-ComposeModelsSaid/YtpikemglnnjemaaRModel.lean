/- Model of the reference. -/
import Derived.Test.YtpikemglnnjemaaModelS
namespace Go.Proofs.Ytpikemglnnjemaa
open Go.RowKit

set_option maxRecDepth 100000 in
set_option maxHeartbeats 4000000 in
theorem rModel_ok (s : Shape) (A : Option Addr) (cap : Nat) (l : List Plate) (PA : Option Addr) (pcap : Nat) (c : List Laid) (CA : Option Addr) (ccap : Nat) (he : compErr s l c = 0) (hclen : c.length ≤ 1000) (w : World)
    (hs : Bytes w A cap s.cells) (hl : Plates w PA pcap l) (hcs : Laids w CA ccap c) :
    Calls Try.prog 10 #[.agg #[.int .i64 s.W, .int .i64 s.D, .int .i64 s.H, .slice A s.cells.length cap], .slice PA l.length pcap, .slice CA c.length ccap] w (ModelRes s l c w) := by
  obtain ⟨hv, okl, hcomp⟩ := comp_parts he
  have ok := Shape.ok_of hv
  have He := Lib.hid he
  have Hcomp := Lib.hid hcomp
  clear he hv hcomp
  obtain ⟨W1, hW1, E1, B1, hz1⟩ := box_ w #[.int .i64 s.W, .int .i64 s.D, .int .i64 s.H, .slice A s.cells.length cap] 25
  obtain ⟨W2, hW2, E2, B2, hz2⟩ := box_ W1 #[.slice none 0 0] 38
  rw [hz1] at B2
  have B1 := B1.ext E2
  have b1 := B1.cell
  have E12 := E1.trans E2
  go_enter Try.func10, Try.ntmps10
  go_wp2_with fail
  refine (rCheck_c s A cap l PA pcap c CA ccap hclen _ (hs.ext E12) (hl.ext E12) (hcs.ext E12)).mono ?_
  rintro e W3 ⟨rfl, E3⟩
  rw [He.out]
  have B1 := B1.ext E3
  have B2 := B2.ext E3
  have E13 := E12.trans E3
  obtain ⟨MB, hMB⟩ : ∃ MB, W3.heap.size = MB := ⟨_, rfl⟩
  obtain ⟨W4, hW4, E4, B4, hz4⟩ := box_ W3 #[.slice none 0 0] 38
  have hwMB : w.heap.size + 1 < MB := by have := B2.lt; omega
  rw [hMB] at B4
  have B1 := B1.ext E4
  have B2 := B2.ext E4
  have E14 := E13.trans E4
  clear b1
  go_wp2_with fail
  have HMB := Lib.hid hMB
  clear hMB hW4 hW1 hW2 hz2 hz4
  obtain ⟨S, hS⟩ : ∃ S, w.heap.size = S := ⟨_, rfl⟩
  rw [hS] at B1 B2 hwMB ⊢
  have HS := Lib.hid hS
  clear hS
  go_loopw [10] (fun i wr => ∃ (k : Nat) (v : Value), k ≤ c.length ∧ i = .int .i64 k ∧ Ext w wr ∧ Blk wr S 25 #[.int .i64 s.W, .int .i64 s.D, .int .i64 s.H, .slice A s.cells.length cap] ∧
    Blk wr (S + 1) 38 #[.slice none 0 0] ∧ Blk wr MB 38 #[v] ∧ wr.ownsRow (MB + 1) 66 6 v k (bricksV s l c k)) (fun i _ => c.length - (intOf i).toNat)
  case atStart => exact ⟨0, _, by omega, rfl, E14, B1, B2, B4, World.ownsRow_nil _ _ _ _⟩
  case round =>
    obtain ⟨k, v, hk, rfl, E, BS, BR, BM, own⟩ := hrel
    clear B1 B2 B4
    have hMr := BM.lt
    by_cases hlt : k < c.length
    · obtain ⟨b, off, a, rfl, ha, hb, a0, a1, a2, a3, a4⟩ := hcs.at_ hlt
      obtain ⟨q0, q1, q2, q3, q4⟩ := E.five a0 a1 a2 a3 a4
      have hbr : b < wr.heap.size := Nat.lt_of_lt_of_le hb E.size
      have hli := comp_lies Hcomp.out ha
      have hin : s.inside a.x a.y a.z = true := (lies_iff.1 hli).2.1
      obtain ⟨hp1, hp2⟩ := liesB_plate hli
      have Ha := Lib.hid ha
      clear ha hli
      have bs := BS.cell
      have s0 := bs 0
      have s1 := bs 1
      have s2 := bs 2
      have s3 := bs 3
      clear bs
      have hSr := BS.lt
      obtain ⟨⟨x1, x2⟩, ⟨y1, y2⟩, z1, z2⟩ := (s.inside_iff _ _ _).1 hin
      clear hin
      obtain ⟨w1, w2⟩ := ok.w
      obtain ⟨col, hcol⟩ : ∃ col, s.colorAt a.x a.y a.z = col := ⟨_, rfl⟩
      have Hcol := Lib.hid hcol
      have HAt : Hid (∀ W, Ext wr W → Calls Try.prog 25 #[.agg #[.int .i64 s.W, .int .i64 s.D, .int .i64 s.H, .slice A s.cells.length cap], .int .i64 a.x, .int .i64 a.y, .int .i64 a.z] W fun e w' => e = .returned (.int .u8 col) ∧ Ext W w' ∧ Ext wr w') := Lib.hid (fun W EW => by
        have := rAt_c s A cap a.x a.y a.z ok W (hs.ext (E.trans EW))
        rw [hcol] at this
        exact this.mono fun e w' ⟨h1, h2⟩ => ⟨h1, h2, EW.trans h2⟩)
      clear hcol
      have nb1 : b ≠ wr.heap.size := by omega
      have nb2 : wr.heap.size ≠ b := by omega
      have ns1 : S ≠ wr.heap.size := by omega
      have ns2 : wr.heap.size ≠ S := by omega
      go_upto_region 8 with (fail)
      go_cut [10, 11] from 20 to 84 (fun s10 s11 wx => NewBrick #[.int .i64 a.plate, .int .i64 a.x, .int .i64 a.y, .int .i64 a.z, .int .u8 0, .int .u8 col] wr s11 wx ∧ s10 = .int .i64 k)
      case first =>
        go_region_held3 (fun w' => w'.cell? ⟨b, off + k * 5, none⟩ = some (.int .i64 a.plate) ∧ w'.cell? ⟨b, off + k * 5 + 1, none⟩ = some (.int .i64 a.x) ∧ w'.cell? ⟨b, off + k * 5 + 2, none⟩ = some (.int .i64 a.y) ∧ w'.cell? ⟨b, off + k * 5 + 3, none⟩ = some (.int .i64 a.z) ∧
          w'.cell? ⟨S, 0, none⟩ = some (.int .i64 s.W) ∧ w'.cell? ⟨S, 1, none⟩ = some (.int .i64 s.D) ∧ w'.cell? ⟨S, 2, none⟩ = some (.int .i64 s.H) ∧ w'.cell? ⟨S, 3, none⟩ = some (.slice A s.cells.length cap)) (go_keep)
          (first | (go_at_call 25; refine (HAt.out _ (by first | exact (Ext.refl _).drew | exact ((Ext.refl _).alloc _).drew | exact ((Ext.refl _).drew).alloc _)).mono ?_; rintro e wq ⟨rfl, Eq, Ewq⟩; obtain ⟨hcq, hfq, hzq⟩ := ext_facts Eq; have hzz := Ewq.size; have nc1 : b ≠ wq.heap.size := (by omega); have nc2 : wq.heap.size ≠ b := (by omega); have nc3 : S ≠ wq.heap.size := (by omega); have nc4 : wq.heap.size ≠ S := (by omega)))
        · go_wp2_with fail
          go_meet
          exact ⟨⟨_, rfl, Ewq.size, Blk.new _ _ _, Ewq.alloc _⟩, rfl⟩
        · go_wp2_with fail
          go_meet
          have BZ : Blk wq wr.heap.size 66 #[.int .i64 0, .int .i64 0, .int .i64 0, .int .i64 0, .int .u8 0, .int .u8 0] := by
            first
              | exact (Blk.new _ _ _).drew.ext Eq
              | exact (Blk.new wr _ _).ext Eq
          exact ⟨⟨_, rfl, Nat.le_refl _, (((((BZ.set_ 0 _).set_ 1 _).set_ 2 _).set_ 3 _).set_ 4 _).set_ 5 _, (((((Ewq.setCell (Nat.le_refl _) _).setCell (Nat.le_refl _) _).setCell (Nat.le_refl _) _).setCell (Nat.le_refl _) _).setCell (Nat.le_refl _) _).setCell (Nat.le_refl _) _⟩, rfl⟩
      case rest =>
        clear s0 s1 s2 s3 q0 q1 q2 q3 q4 nb1 nb2 ns1 ns2
        obtain ⟨⟨g, rfl, hg, BB, E6⟩, rfl⟩ := hcut
        have E06 := E.trans E6
        obtain ⟨r0, r1, r2, r3, r4⟩ := E06.five a0 a1 a2 a3 a4
        have BS6 := BS.ext E6
        have BR6 := BR.ext E6
        have BM6 := BM.ext E6
        have own6 := own_ext own E6
        have hml : k + 1 ≤ maxLen := by unfold maxLen; omega
        obtain ⟨i0, hi, hz0, hz1', hz2'⟩ := info_parts infoBrick
        have Hsn := Lib.hid (bricksV_succ (s := s) (l := l) Ha.out)
        have hgM : MB < g := by omega
        have hgS : S < g := by omega
        have hvg : v.ownBlock ≠ some g := fun e => by have := (own.lt g e).2; omega
        obtain ⟨t, ht⟩ : ∃ t, a.turned = t := ⟨_, rfl⟩
        rw [ht] at r4
        have Ht := Lib.hid ht
        clear ht
        have bm := BM6.cell
        cases t
        · have bb := BB.cell
          have hbase7 : MB + 1 ≤ wc.heap.size := BM6.lt
          go_wp2_with (at_builtin; refine wpList_append_one #[.int .i64 a.plate, .int .i64 a.x, .int .i64 a.y, .int .i64 a.z, .int .u8 0, .int .u8 col] rfl (.tmp 80) (.tmp 82) 36 rfl (MB + 1) 66 66 i0 _ 6 40 Try.underlying36 hi hz0 hz1' hz2' rfl (by decide) v k _ _ rfl own6 rfl rfl (by simp [Value.oneCell']) hml (by omega) hbase7 ?_; intro g8 cap8 w8 own8 hg8; have BS8 := (BS6.alloc (.cells #[.int .i64 a.plate, .int .i64 a.x, .int .i64 a.y, .int .i64 a.z, .int .u8 0, .int .u8 col] 66)).grown hg8 (own_ne own6 (by omega)); have BR8 := (BR6.alloc (.cells #[.int .i64 a.plate, .int .i64 a.x, .int .i64 a.y, .int .i64 a.z, .int .u8 0, .int .u8 col] 66)).grown hg8 (own_ne own6 (by omega)); have BM8 := (BM6.alloc (.cells #[.int .i64 a.plate, .int .i64 a.x, .int .i64 a.y, .int .i64 a.z, .int .u8 0, .int .u8 col] 66)).grown hg8 (own_ne own6 (by omega)); have bm8 := BM8.cell 0; have fm8 := BM8.frozen 0; have E8 := (E06.alloc (.cells #[.int .i64 a.plate, .int .i64 a.x, .int .i64 a.y, .int .i64 a.z, .int .u8 0, .int .u8 col] 66)).grown hg8 (fun q hq => by have := (own6.lt q hq).1; rw [HS.out]; omega))
          go_roundw
          case rel =>
            refine ⟨k + 1, .slice (some ⟨g8, 0, none⟩) (k + 1) cap8, by omega, by go_num, E8.setCell (by rw [HS.out]; show S ≤ MB; omega) _, BS8.far (by show S ≠ MB; omega) _, BR8.far (by show S + 1 ≠ MB; omega) _, BM8.set_ 0 _, own_setCell ?_ (show MB < MB + 1 by omega) _⟩
            rw [Hsn.out]
            have hbc : brickCells s l a = [.int .i64 a.plate, .int .i64 a.x, .int .i64 a.y, .int .i64 a.z, .int .u8 0, .int .u8 col] := by
              unfold brickCells brickX
              rw [Ht.out, Hcol.out]
              simp
            rw [hbc]
            exact own8
          case measure => simp only [intOf]; omega
        · obtain ⟨pb, poff, p, hPA, hpl, hpb, p0, p1, p2, p3⟩ := hl.at_ (k := a.plate.toNat) (by omega)
          subst hPA
          have okp := plate_ok okl hpl
          have okw := okp.w
          have okd := okp.d
          have Hp := Lib.hid (plateAt_eq hpl)
          clear hpl okp p0 p2 p3
          have bb8 := BB.cell
          have ff8 := BB.frozen
          obtain ⟨W9, hW9, BB9, keep9, ext9, hz9⟩ := BB.store1 4 (.int .u8 1)
          clear hz9
          have BB9 : Blk W9 g 66 #[.int .i64 a.plate, .int .i64 a.x, .int .i64 a.y, .int .i64 a.z, .int .u8 1, .int .u8 col] := BB9
          have bb9 := BB9.cell
          have E9 : Ext w W9 := ext9 w E06 (by rw [HS.out]; omega)
          have t1 := E9.cell a0
          have t2 := E9.cell p1
          have dw1 : IntKind.i64.wrap (p.D - 1) = p.D - 1 := IntWalk.i64_in _ (by omega)
          have dw2 : IntKind.i64.wrap (a.x + (p.D - 1)) = a.x + (p.D - 1) := IntWalk.i64_in _ (by omega)
          go_wp2_with fail
          refine wp_region_tail 16 (by kernel_rfl) (by kernel_rfl) ?_
          simp only [List.take_succ_cons, List.take_zero, List.drop_succ_cons, List.drop_zero]
          repeat (go_big_quiet_step (fail))
          refine wpQuiet_nil ?_
          intro W10 hW10
          have E10 : Ext W9 W10 := by
            obtain ⟨x, rfl⟩ := hW10
            exact (Ext.refl _).grow x
          clear hW10
          obtain ⟨hcW10, hfW10, hzW10⟩ := ext_facts E10
          clear dw1 dw2 hcW10 hfW10 hzW10
          have BB10' := BB9.ext E10
          have bb10' := BB10'.cell
          have ff10' := BB10'.frozen
          obtain ⟨W11, hW11, BB11, keep11, ext11, hz11⟩ := BB10'.store1 1 (.int .i64 (a.x + (p.D - 1)))
          clear hz11
          have BB11 : Blk W11 g 66 #[.int .i64 a.plate, .int .i64 (a.x + (p.D - 1)), .int .i64 a.y, .int .i64 a.z, .int .u8 1, .int .u8 col] := BB11
          have bb11 := BB11.cell
          have BS11 := keep11 _ _ _ (by omega) ((keep9 _ _ _ (by omega) BS6).ext E10)
          have BR11 := keep11 _ _ _ (by omega) ((keep9 _ _ _ (by omega) BR6).ext E10)
          have BM11 := keep11 _ _ _ (by omega) ((keep9 _ _ _ (by omega) BM6).ext E10)
          have E11 : Ext w W11 := ext11 w (E9.trans E10) (by rw [HS.out]; omega)
          have own11 : W11.ownsRow (MB + 1) 66 6 v k (bricksV s l c k) := by
            rw [← hW11]
            refine own_far (own_ext ?_ E10) hvg _
            rw [← hW9]
            exact own_far own6 hvg _
          clear bm
          have bm := BM11.cell
          have hbase7 : MB + 1 ≤ W11.heap.size := BM11.lt
          go_wp2_with (at_builtin; refine wpList_append_one #[.int .i64 a.plate, .int .i64 (a.x + (p.D - 1)), .int .i64 a.y, .int .i64 a.z, .int .u8 1, .int .u8 col] rfl (.tmp 80) (.tmp 82) 36 rfl (MB + 1) 66 66 i0 _ 6 40 Try.underlying36 hi hz0 hz1' hz2' rfl (by decide) v k _ _ rfl own11 rfl rfl (by simp [Value.oneCell']) hml (by omega) hbase7 ?_; intro g8 cap8 w8 own8 hg8; have BS8 := (BS11.alloc (.cells #[.int .i64 a.plate, .int .i64 (a.x + (p.D - 1)), .int .i64 a.y, .int .i64 a.z, .int .u8 1, .int .u8 col] 66)).grown hg8 (own_ne own11 (by omega)); have BR8 := (BR11.alloc (.cells #[.int .i64 a.plate, .int .i64 (a.x + (p.D - 1)), .int .i64 a.y, .int .i64 a.z, .int .u8 1, .int .u8 col] 66)).grown hg8 (own_ne own11 (by omega)); have BM8 := (BM11.alloc (.cells #[.int .i64 a.plate, .int .i64 (a.x + (p.D - 1)), .int .i64 a.y, .int .i64 a.z, .int .u8 1, .int .u8 col] 66)).grown hg8 (own_ne own11 (by omega)); have bm8 := BM8.cell 0; have fm8 := BM8.frozen 0; have E8 := (E11.alloc (.cells #[.int .i64 a.plate, .int .i64 (a.x + (p.D - 1)), .int .i64 a.y, .int .i64 a.z, .int .u8 1, .int .u8 col] 66)).grown hg8 (fun q hq => by have := (own11.lt q hq).1; rw [HS.out]; omega))
          go_roundw
          case rel =>
            refine ⟨k + 1, .slice (some ⟨g8, 0, none⟩) (k + 1) cap8, by omega, by go_num, E8.setCell (by rw [HS.out]; show S ≤ MB; omega) _, BS8.far (by show S ≠ MB; omega) _, BR8.far (by show S + 1 ≠ MB; omega) _, BM8.set_ 0 _, own_setCell ?_ (show MB < MB + 1 by omega) _⟩
            rw [Hsn.out]
            have hbc : brickCells s l a = [.int .i64 a.plate, .int .i64 (a.x + (p.D - 1)), .int .i64 a.y, .int .i64 a.z, .int .u8 1, .int .u8 col] := by
              unfold brickCells brickX
              rw [Ht.out, Hcol.out]
              rw [if_pos rfl, if_pos rfl, Hp.out, show a.x + p.D - 1 = a.x + (p.D - 1) by omega]
            rw [hbc]
            exact own8
          case measure => simp only [intOf]; omega
    · obtain rfl : k = c.length := by omega
      obtain ⟨VA, vc, rfl⟩ := own_forms own
      have bm := BM.cell
      have br := BR.cell
      have fr := BR.frozen
      go_wp2_with fail
      refine bodyPost_ret (v := .tuple #[.agg #[.slice VA c.length vc], .int .i64 0]) ?_ rfl ?_
      · simp [results, Try.results10, go_sem, br]
      · exact ⟨⟨_, rfl, own_base (own_setCell own (show S + 1 < MB + 1 by omega) _) (by rw [HS.out]; omega)⟩, E.setCell (by rw [HS.out]; show S ≤ S + 1; omega) _⟩

set_option maxRecDepth 100000 in
set_option maxHeartbeats 2000000 in
theorem rModel_bad (s : Shape) (A : Option Addr) (cap : Nat) (l : List Plate) (PA : Option Addr) (pcap : Nat) (c : List Laid) (CA : Option Addr) (ccap : Nat) (e0 : Int) (he : compErr s l c = e0) (h0 : e0 ≠ 0) (hclen : c.length ≤ 1000) (w : World)
    (hs : Bytes w A cap s.cells) (hl : Plates w PA pcap l) (hcs : Laids w CA ccap c) :
    Calls Try.prog 10 #[.agg #[.int .i64 s.W, .int .i64 s.D, .int .i64 s.H, .slice A s.cells.length cap], .slice PA l.length pcap, .slice CA c.length ccap] w fun e w' =>
      e = .returned (.tuple #[.agg #[.slice none 0 0], .int .i64 e0]) ∧ Ext w w' := by
  obtain ⟨W1, hW1, E1, B1, hz1⟩ := box_ w #[.int .i64 s.W, .int .i64 s.D, .int .i64 s.H, .slice A s.cells.length cap] 25
  obtain ⟨W2, hW2, E2, B2, hz2⟩ := box_ W1 #[.slice none 0 0] 38
  rw [hz1] at B2
  have B1 := B1.ext E2
  have b1 := B1.cell
  have E12 := E1.trans E2
  have He := Lib.hid he
  have h0b : (e0 == 0) = false := by simpa using h0
  have h0c : (e0 != 0) = true := by simpa using h0
  clear he h0
  go_enter Try.func10, Try.ntmps10
  go_wp2_with fail
  refine (rCheck_c s A cap l PA pcap c CA ccap hclen _ (hs.ext E12) (hl.ext E12) (hcs.ext E12)).mono ?_
  rintro e W3 ⟨rfl, E3⟩
  rw [He.out]
  have B2 := B2.ext E3
  have b2 := B2.cell
  have f2 := B2.frozen
  go_wp2_with fail
  refine bodyPost_ret (v := .tuple #[.agg #[.slice none 0 0], .int .i64 e0]) ?_ rfl ⟨rfl, (E12.trans E3).setCell (Nat.le_succ _) _⟩
  simp [results, Try.results10, go_sem, b2]
end Go.Proofs.Ytpikemglnnjemaa
