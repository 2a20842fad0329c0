/- look: the board of a valid shape and plates. -/
import Derived.Test.YtaaeapjnjjbglaaGreatDoorCd9
import Derived.Deep.CutRange

namespace Go.Proofs.YtaaeapjnjjbglaaGreatDoor
open Go.RowKit

set_option maxRecDepth 100000 in
set_option maxHeartbeats 8000000 in
theorem look_ok (s : Shape) (l : List Plate) (A : Option Addr) (cap : Nat) (PA : Option Addr) (pcap : Nat) (hs : s.valid = true) (hl : platesB l = true) (w : World) (hb : Bytes w A cap s.cells) (hp : Plates w PA pcap l) :
    Calls Tryz.prog 28 #[.agg #[.int .i64 s.W, .int .i64 s.D, .int .i64 s.H, .slice A s.cells.length cap], .slice PA l.length pcap] w fun e w' =>
      LookOk s l A cap PA pcap w e w' := by
  have ok := Shape.ok_of hs
  have hlen := hb.len
  unfold maxLen at hlen
  have hl256 := s.len_le ok
  have hlen0 := s.len_pos ok
  obtain ⟨W1, hW1, E1, B1, hz1⟩ := box_ w #[.int .i64 s.W, .int .i64 s.D, .int .i64 s.H, .slice A s.cells.length cap] 24
  have b1 := B1.cell
  go_enter Tryz.func28, Tryz.ntmps28
  go_wp2_with fail
  refine (checkShape_c A cap s.W s.D s.H s.cells _ (hb.ext E1)).mono ?_
  rintro e w2 ⟨rfl, E2⟩
  have hse := shapeErr_ok hs
  rw [show (⟨s.W, s.D, s.H, s.cells⟩ : Shape) = s from rfl, hse]
  clear hse
  have B1 := B1.ext E2
  clear b1
  have b1 := B1.cell
  go_wp2_with fail
  refine (checkPlates_c PA pcap l _ ((hp.ext E1).ext E2)).mono ?_
  rintro e w3 ⟨rfl, E3⟩
  have hpe := platesErr_ok hl
  rw [hpe]
  clear hpe
  have B1 := B1.ext E3
  clear b1
  have b1 := B1.cell
  have E13 := (E1.trans E2).trans E3
  obtain ⟨W4, hW4, E4, B4, hz4⟩ := box_ w3 (brdCells s A cap PA l.length pcap (.slice none 0 0) (.slice none 0 0) (.slice none 0 0) (.slice none 0 0) (.slice none 0 0)) 111
  unfold brdCells at hW4
  have B1 := B1.ext E4
  have b1' := B1.cell
  have lt1 := B1.lt
  go_wp2_with fail
  obtain ⟨G, hG⟩ : ∃ G, w3.heap.size = G := ⟨_, rfl⟩
  rw [hG] at B4 hz4 ⊢
  have E14 := E13.trans E4
  have hwG : w.heap.size < G := by have := E1.size; have := E2.size; have := E3.size; omega
  clear hW4 hW1 b1 b1' E4 hG E13
  obtain ⟨T1, hT1⟩ : ∃ T1, W4.heap.size = T1 := ⟨_, rfl⟩
  have HT1 := Lib.hid hT1
  have hGT : G < T1 := by omega
  clear hz4 hT1
  have WE : ∀ wr, But G T1 W4 wr → Ext w wr := fun wr hbut => hbut.below E14 (by omega) (by omega)
  have WE := Lib.hid WE
  go_loopw [8, 40] (fun nn i wr => ∃ (k : Nat) (nv : Value), k ≤ s.cells.length ∧ i = .int .i64 k ∧ nn = .int .i64 (fullN (s.cells.take k)) ∧ But G T1 W4 wr ∧
    Blk wr G 111 (brdCells s A cap PA l.length pcap nv (.slice none 0 0) (.slice none 0 0) (.slice none 0 0) (.slice none 0 0)) ∧ wr.ownsRow T1 3 1 nv k (((numsOf s.cells).take k).map iv)) (fun _ i _ => s.cells.length - (intOf i).toNat)
  case atStart => exact ⟨0, .slice none 0 0, by omega, rfl, rfl, But.refl _ _ _, B4, World.ownsRow_nil _ _ _ _⟩
  case round =>
    obtain ⟨k, nv, hk, rfl, rfl, hbut, BB, own⟩ := hrel
    clear B4
    unfold brdCells at BB
    have bb := BB.cell
    have ff := BB.frozen
    have hTs : T1 ≤ wr.heap.size := by rw [← HT1.out]; exact hbut.size
    obtain ⟨i0, hi, hz0, hz1, hz2⟩ := info_parts infoInt
    have hfle := fullN_le (s.cells.take k)
    rw [List.length_take, Nat.min_eq_left (by omega)] at hfle
    by_cases hlt : k < s.cells.length
    · obtain ⟨b, off, c, rfl, hc, hok, hbl, hcell⟩ := (hb.ext (WE.out _ hbut)).at_ hlt
      have hml : k + 1 ≤ maxLen := by unfold maxLen; omega
      have hst := nums_take hlt
      have hneg := numOf_neg hc
      have hf := fullN_succ hc
      have hval : ∀ v : Int, numOf s.cells k = v → ((numsOf s.cells).take (k + 1)).map iv = ((numsOf s.cells).take k).map iv ++ [.int .i64 v] := fun v hv => by rw [hst, hv]; simp [iv]
      have Hval := Lib.hid hval
      have Hf := Lib.hid hf
      clear hval hst hf hneg
      have hcg : s.cells.getD k 0 = c := by simp [hc]
      have Hcg := Lib.hid hcg
      clear hcg hc
      by_cases h0 : c = 0
      · subst h0
        go_wp2_with (at_builtin; refine wpList_append_one #[.int .i64 (-1)] rfl (.tmp 53) (.tmp 55) 41 rfl T1 3 3 i0 (.int .i64 0) 1 8 Tryz.underlying41 hi hz0 hz1 hz2 rfl (by decide) nv k _ _ rfl own rfl rfl (by simp [Value.oneCell']) hml (by omega) hTs ?_; intro g4 cap4 w4 own4 hg4; have BB4 := (BB.alloc _).grown hg4 (own_ne own hGT); have bb4 := BB4.cell; have ff4 := BB4.frozen)
        go_roundw
        case rel =>
          refine ⟨k + 1, _, by omega, by go_num, by rw [Hf.out]; rfl, ((hbut.alloc hTs _).grown hg4 (by simp; omega) (fun r hr => (own.lt r hr).1)).setG 5 _, BB4.set_ 5 _, own_setCell ?_ hGT _⟩
          rw [Hval.out (-1) (by rw [numOf, Hcg.out]; rfl)]
          exact own4
        case measure => simp only [intOf]; omega
      · have h0' : (c == 0) = false := by simpa using h0
        have h0'' : (c != 0) = true := by simpa using h0
        go_wp2_with (at_builtin; refine wpList_append_one #[.int .i64 (fullN (s.cells.take k) : Int)] rfl (.tmp 53) (.tmp 55) 41 rfl T1 3 3 i0 (.int .i64 0) 1 8 Tryz.underlying41 hi hz0 hz1 hz2 rfl (by decide) nv k _ _ rfl own rfl rfl (by simp [Value.oneCell']) hml (by omega) hTs ?_; intro g4 cap4 w4 own4 hg4; have BB4 := (BB.alloc _).grown hg4 (own_ne own hGT); have bb4 := BB4.cell; have ff4 := BB4.frozen)
        go_roundw
        case rel =>
          refine ⟨k + 1, _, by omega, by go_num, by rw [Hf.out, if_neg h0]; go_num, ((hbut.alloc hTs _).grown hg4 (by simp; omega) (fun r hr => (own.lt r hr).1)).setG 5 _, BB4.set_ 5 _, own_setCell ?_ hGT _⟩
          rw [Hval.out (fullN (s.cells.take k) : Int) (by rw [numOf, Hcg.out, if_neg h0])]
          exact own4
        case measure => simp only [intOf]; omega
    · obtain rfl : k = s.cells.length := by omega
      obtain ⟨NB, ncap, rfl⟩ := own_form own hlen0
      have hnm := own_slice (sz := 1) (rows := (numsOf s.cells).map fun n => [.int .i64 n]) (by decide) (by simp) (by simp [numsOf]) hlen0 (by
        have e : ((numsOf s.cells).map fun n => [Value.int .i64 n]).flatten = ((numsOf s.cells).take s.cells.length).map iv := by
          rw [List.take_of_length_le (by simp [numsOf])]
          have : ∀ l : List Int, (l.map fun n => [Value.int .i64 n]).flatten = l.map iv := by
            intro l
            induction l with
            | nil => rfl
            | cons x l ih => simp [iv, ih]
          exact this _
        rw [e]
        exact own)
      have hnm2 : Ints wr (some ⟨NB, 0, none⟩) ncap (numsOf s.cells) := by
        unfold Ints
        rw [numsOf_len]
        exact hnm
      have hNB := own.lt NB rfl
      have E := WE.out _ hbut
      have BS := B1.but hbut (by omega) (by omega)
      clear hnm own bb ff hbut HT1 WE
      obtain ⟨V, rfl⟩ : ∃ V : World, V = wr := ⟨_, rfl⟩
      rw [List.take_length]
      have hmm := @run_makeMap Tryz.prog
      obtain ⟨W0, hW0, E0, M0, hz0⟩ := mapbox_ encPair encNat V
      have BB0 := BB.ext E0
      have bb := BB0.cell
      go_wp2_with fail
      clear hmm bb
      obtain ⟨M, hM⟩ : ∃ M, V.heap.size = M := ⟨_, rfl⟩
      have hGM : G < M := by omega
      have hNM : NB < M := by omega
      have hNG : NB ≠ G := by omega
      have hwM : w.heap.size ≤ M := by have := E.size; omega
      have mid0 : Mid s l A cap PA pcap G M M NB ncap V W0 (aboveS s 0) (edgesS s 0) (pairsOf (edgesS s 0)) (placesS s 0) [] (.slice none 0 0) none 0 (.slice none 0 0) (.slice none 0 0) := by
        refine ⟨by omega, (But.refl _ _ _).ext E0 (by omega), ?_, World.ownsRow_nil _ _ _ _, World.ownsRow_nil _ _ _ _, rfl, World.ownsRow_nil _ _ _ _, fun j Mj p hj => by simp at hj, ?_⟩
        · exact BB0
        · rw [← hM]
          exact M0
      rw [hM]
      have HM := Lib.hid hM
      clear hM BB BB0 M0 hW0 E0 hz0 hTs
      go_loopw [66] (fun i wr => ∃ (k : Nat) (ms : List Nat) (av : Value) (EA : Option Addr) (ec : Nat) (lv : Value), k ≤ s.cells.length ∧ i = .int .i64 k ∧
        Mid s l A cap PA pcap G M M NB ncap V wr (aboveS s k) (edgesS s k) (pairsOf (edgesS s k)) (placesS s k) ms av EA ec (.slice none 0 0) lv) (fun i _ => s.cells.length - (intOf i).toNat)
      case atStart => exact ⟨0, _, _, _, _, _, by omega, rfl, mid0⟩
      case round =>
        obtain ⟨k, ms, av, EA, ec, lv, hk, rfl, mid⟩ := hrel
        clear mid0
        have Ew := mid.below E (by omega) hwM
        have BB := mid.brd
        unfold brdCells at BB
        have bb := BB.cell
        have bs := (BS.but mid.but (by omega) (by omega)).cell
        by_cases hlt : k < s.cells.length
        · have base := mid.base (hb.ext Ew) hnm2 hNM hNG
          obtain ⟨b', off', hA', hbl', hcn⟩ := base.nums.at_ (numsOf_get hlt)
          cases hA'
          simp only [Nat.zero_add] at hcn
          have hlo := numOf_lo s.cells k
          have hhi := numOf_hi hlt
          have hfull := ok.full
          obtain ⟨n, hn⟩ : ∃ n, numOf s.cells k = n := ⟨_, rfl⟩
          rw [hn] at hcn hlo hhi
          have Hn := Lib.hid hn
          clear hn
          by_cases hneg : n < 0
          · have hab : Hid (aboveS s (k + 1) = aboveS s k) := Lib.hid (by rw [aboveS, if_pos (by rw [Hn.out]; omega)])
            have hes : Hid (edgesS s (k + 1) = edgesS s k) := Lib.hid (by rw [edgesS, if_pos (by rw [Hn.out]; omega)])
            have hps : Hid (placesS s (k + 1) = placesS s k) := Lib.hid (by rw [placesS, if_pos (by rw [Hn.out]; omega)])
            have hd : decide (n < 0) = true := by simpa using hneg
            go_wp2_with fail
            go_roundw
            case rel =>
              refine ⟨k + 1, ms, av, EA, ec, lv, by omega, by go_num, ?_⟩
              rw [hab.out, hes.out, hps.out]
              exact mid
            case measure => simp only [intOf]; omega
          · have hd : decide (n < 0) = false := by simpa using hneg
            have c0 : 0 ≤ (k : Int) / s.W := Int.ediv_nonneg (by omega) (by have := ok.w; omega)
            obtain ⟨pin, pidx⟩ := s.place_in ok hlt
            have hin := pin
            rw [Shape.inside_iff] at pin
            obtain ⟨⟨x1, x2⟩, ⟨y1, y2⟩, z1, z2⟩ := pin
            obtain ⟨x, hx⟩ : ∃ x, s.px k = x := ⟨_, rfl⟩
            obtain ⟨y, hy⟩ : ∃ y, s.py k = y := ⟨_, rfl⟩
            obtain ⟨z, hz⟩ : ∃ z, s.pz k = z := ⟨_, rfl⟩
            obtain ⟨q, hq⟩ : ∃ q, (k : Int) / s.W = q := ⟨_, rfl⟩
            have hx' : (k : Int) % s.W = x := hx
            have hy' : q % s.D = y := by rw [← hq]; exact hy
            have hz' : q / s.D = z := by rw [← hq]; exact hz
            rw [hx, hy, hz] at hin pidx
            rw [hx] at x1 x2
            rw [hy] at y1 y2
            rw [hz] at z1 z2
            rw [hq] at c0
            have Hx := Lib.hid hx
            have Hy := Lib.hid hy
            have Hz := Lib.hid hz
            clear hx hy hz
            have w1 := ok.w
            have d1 := ok.d
            have h1 := ok.h
            have q1 : q ≤ 256 := by rw [← hq]; exact Int.le_trans (Int.ediv_le_self _ (by omega)) (by omega)
            have e1 : (k : Int).tmod s.W = x := by rw [Int.tmod_eq_emod_of_nonneg (by omega)]; exact hx'
            have e2 : (k : Int).tdiv s.W = q := by rw [Int.tdiv_eq_ediv_of_nonneg (by omega)]; exact hq
            have e3 : q.tmod s.D = y := by rw [Int.tmod_eq_emod_of_nonneg c0]; exact hy'
            have e4 : q.tdiv s.D = z := by rw [Int.tdiv_eq_ediv_of_nonneg c0]; exact hz'
            have f1 : IntKind.i64.wrap x = x := IntWalk.i64_in _ (by omega)
            have f2 : IntKind.i64.wrap q = q := IntWalk.i64_in _ (by omega)
            have f3 : IntKind.i64.wrap y = y := IntWalk.i64_in _ (by omega)
            have f4 : IntKind.i64.wrap z = z := IntWalk.i64_in _ (by omega)
            have n1 : (s.W == 0) = false := by simp; omega
            have n2 : (s.D == 0) = false := by simp; omega
            have n3 : ¬ s.W = 0 := by omega
            have n4 : ¬ s.D = 0 := by omega
            go_wp2_with fail
            refine wp_region_grow (by kernel_rfl) (by kernel_rfl) ?_
            repeat (go_big_quiet_step (fail))
            refine wpQuiet_nil ?_
            intro W3 hW3
            have E3 : Ext wr W3 := by
              obtain ⟨x, rfl⟩ := hW3
              exact (Ext.refl _).grow x
            clear hW3
            obtain ⟨hcW3, hfW3, hzW3⟩ := ext_facts E3
            clear e1 e2 e3 e4 f1 f2 f3 f4 hx' hy' hz' hq n1 n2 n3 n4 q1 c0 hd hcW3 hfW3 hzW3 bb BB
            have mid := mid.ext E3
            have BB := mid.brd
            unfold brdCells at BB
            have bb := BB.cell
            have ff := BB.frozen
            have hzw : IntKind.i64.wrap (z + 1) = z + 1 := IntWalk.i64_in _ (by omega)
            obtain ⟨i0, hi, hz0, hz1, hz2⟩ := info_parts infoInt
            have hab := aboveS_len (s := s) (k := k) (by omega)
            have hfle := fullN_le (s.cells.take k)
            rw [List.length_take, Nat.min_eq_left (by omega)] at hfle
            have hml : (aboveS s k).length + 1 ≤ maxLen := by unfold maxLen; omega
            have hml2 : ((aboveS s k).length + 1) * 8 ≤ 140737488355328 := by omega
            clear hab
            have Hbase : Hid (∀ {w ab es pm ps ms av EA ec ov lv}, Mid s l A cap PA pcap G M M NB ncap V w ab es pm ps ms av EA ec ov lv → Base w G s A cap (some ⟨NB, 0, none⟩) ncap) :=
              Lib.hid (fun m => m.base (hb.ext (m.below E (by omega) hwM)) hnm2 hNM hNG)
            have mid' := mid.ext (Ext.refl W3).drew
            go_upto_region 23 with (fail)
            go_cut [66] from 66 to 162 (fun s66 wx => s66 = .int .i64 k ∧ MidA s l A cap PA pcap G M M NB ncap V (aboveS s k ++ [s.num x y (z + 1)]) (edgesS s k) (pairsOf (edgesS s k)) (placesS s k) ms EA ec (.slice none 0 0) lv wx)
            case first =>
              go_region_law (first
                | (go_simp; go_at_call 62; refine (at_c _ _ _ G s A cap _ _ ok _ (Hbase.out mid')).mono ?_; rintro e w3 ⟨rfl, E4⟩; have m3 := mid'.ext E4; have bb3 := m3.c6; have hG3 := m3.brd.lt)
                | (refine at_append #[.tmp 95, .tmp 102] #[41, 41] rfl ?_; refine step_append_one #[.int .i64 (s.num x y (z + 1))] rfl (.tmp 95) (.tmp 102) 41 rfl M 3 3 i0 (.int .i64 0) 1 8 Tryz.underlying41 hi hz0 hz1 hz2 rfl (by decide) av (aboveS s k).length _ _ rfl m3.oa rfl rfl (by simp [Value.oneCell']) hml hml2 m3.size ?_; intro g4 cap4 w4 own4 hg4; have BB4 := (m3.brd.alloc (.cells #[.int .i64 (s.num x y (z + 1))] 3)).grown hg4 (own_ne m3.oa hGM); unfold brdCells at BB4; have bb4 := BB4.cell 6; have ff4 := BB4.frozen 6; obtain ⟨W6, hW6, m6⟩ := m3.appA hGM (Nat.le_refl _) own4 hg4))
              all_goals (go_wp2_with fail; go_meet; exact ⟨rfl, _, m6⟩)
            case rest =>
              obtain ⟨rfl, av', mid2⟩ := hcut
              clear BB bb ff mid mid' base bs hzw hml hml2 hfle
              have base := Hbase.out mid2
              go_wp2_with fail
              refine (at_c _ _ _ G s A cap _ _ ok _ base).mono ?_
              rintro e W7 ⟨rfl, E7⟩
              have mid2 := mid2.ext E7
              go_wp2_with fail
              refine (at_c _ _ _ G s A cap _ _ ok _ (Hbase.out mid2)).mono ?_
              rintro e W8 ⟨rfl, E8⟩
              have mid2 := mid2.ext E8
              obtain ⟨na, hna⟩ : ∃ na, s.num (x + 1) y z = na := ⟨_, rfl⟩
              obtain ⟨nb, hnb⟩ : ∃ nb, s.num x (y + 1) z = nb := ⟨_, rfl⟩
              rw [hna, hnb]
              have Hna : Hid (s.num (s.px k + 1) (s.py k) (s.pz k) = na) := Lib.hid (by rw [Hx.out, Hy.out, Hz.out]; exact hna)
              have Hnb : Hid (s.num (s.px k) (s.py k + 1) (s.pz k) = nb) := Lib.hid (by rw [Hx.out, Hy.out, Hz.out]; exact hnb)
              clear hna hnb
              obtain ⟨TB, hTB⟩ : ∃ TB, W8.heap.size = TB := ⟨_, rfl⟩
              obtain ⟨W9, hW9, E9, B9, hz9⟩ := box_ W8 #[.int .i64 na, .int .i64 nb] 3
              have hMTB : M < TB := by have := mid2.om.lt; omega
              rw [hTB] at B9
              have mid2 := mid2.ext E9
              rw [← edgesJ_zero] at mid2
              go_wp2_with fail
              have HTB := Lib.hid hTB
              clear hTB hW9 hz9
              have hel : (edgesS s k).length ≤ 512 := by have := edgesS_len s k; omega
              have helj : ∀ j, (edgesJ s k j).length ≤ 514 := fun j => by
                unfold edgesJ
                rw [List.length_append, List.length_append]
                have h1 : ∀ (c : Prop) [Decidable c] (p : Int × Int), (if c then [p] else []).length ≤ 1 := fun c _ p => by split <;> simp
                have := h1 (1 ≤ j ∧ 0 ≤ s.num (s.px k + 1) (s.py k) (s.pz k)) (numOf s.cells k, s.num (s.px k + 1) (s.py k) (s.pz k))
                have := h1 (2 ≤ j ∧ 0 ≤ s.num (s.px k) (s.py k + 1) (s.pz k)) (numOf s.cells k, s.num (s.px k) (s.py k + 1) (s.pz k))
                omega
              have Helj := Lib.hid helj
              clear helj hel
              obtain ⟨i1, hi1, hz10, hz11, hz12⟩ := info_parts infoPair
              obtain ⟨wo, rfl⟩ : ∃ wo : World, wo = wr := ⟨_, rfl⟩
              go_loopw [120] (fun i wr => ∃ (j : Nat) (EA' : Option Addr) (ec' : Nat), j ≤ 2 ∧ i = .int .i64 j ∧
                Mid s l A cap PA pcap G M M NB ncap V wr (aboveS s k ++ [s.num x y (z + 1)]) (edgesJ s k j) (pairsOf (edgesJ s k j)) (placesS s k) ms av' EA' ec' (.slice none 0 0) lv ∧ Blk wr TB 3 #[.int .i64 na, .int .i64 nb]) (fun i _ => 2 - (intOf i).toNat)
              case atStart => exact ⟨0, EA, ec, by omega, rfl, mid2, B9⟩
              case round =>
                clear mid2 base
                obtain ⟨j, EA', ec', hj, rfl, mj, BT⟩ := hrel
                have bt := BT.cell
                have BBj := mj.brd
                unfold brdCells at BBj
                have bbj := BBj.cell
                have hGr := mj.brd.lt
                obtain rfl | rfl | rfl : j = 0 ∨ j = 1 ∨ j = 2 := by omega
                · by_cases hnn : 0 ≤ na
                  · have hd : decide (0 ≤ na) = true := by simpa using hnn
                    have hle := Helj.out 0
                    have hml : (edgesJ s k 0).length + 1 ≤ maxLen := by unfold maxLen; omega
                    have hml2 : ((edgesJ s k 0).length + 1) * 16 ≤ 140737488355328 := by omega
                    have Hst := Lib.hid (edgesJ_one_y Hna.out hnn)
                    rw [Hn.out] at Hst
                    go_wp2_with (first
                      | (at_mapUpdate; refine wpList_put pairKey rfl _ _ _ 138 rfl 3 Tryz.underlying138 M (pairsOf (edgesJ s k 0)) (n, na) (edgesJ s k 0).length rfl mj.om rfl rfl ?_; intro w6 M6 hg6 hz6; clear hz6; have m6 := mj.put hGM (Nat.le_refl _) M6 hg6; have bb6 := m6.c7; have BT6 := BT.grown hg6 (by intro e; cases e; omega))
                      | (at_builtin; refine wpList_append_one #[.int .i64 n, .int .i64 na] rfl (.tmp 139) (.tmp 143) 86 rfl M 133 133 i1 (.agg #[.int .i64 0, .int .i64 0]) 2 16 Tryz.underlying86 hi1 hz10 hz11 hz12 rfl (by decide) (.slice EA' (edgesJ s k 0).length ec') (edgesJ s k 0).length _ _ rfl m6.oe rfl rfl (by simp [Value.oneCell']) hml hml2 m6.size ?_; intro g4 cap4 w4 own4 hg4; have BB4 := (m6.brd.alloc (.cells #[.int .i64 n, .int .i64 na] 133)).grown hg4 (own_ne m6.oe hGM); unfold brdCells at BB4; have bb4 := BB4.cell 7; have ff4 := BB4.frozen 7; have BT4 := (BT6.alloc (.cells #[.int .i64 n, .int .i64 na] 133)).grown hg4 (own_blk m6.oe BT6 (by decide)); have BT7 := BT4.far (p := ⟨G, 7, none⟩) (by show TB ≠ G; omega) (.slice (some ⟨g4, 0, none⟩) ((edgesJ s k 0).length + 1) cap4); obtain ⟨W6, hW6, m7⟩ := m6.appE hGM (Nat.le_refl _) own4 hg4; rw [hW6] at BT7))
                    go_roundw
                    case rel =>
                      refine ⟨0 + 1, some ⟨g4, 0, none⟩, cap4, by omega, rfl, ?_, BT7⟩
                      rw [Hst.out, pairsOf_snoc]
                      exact m7
                    case measure => simp only [intOf]; omega
                  · have hd : decide (0 ≤ na) = false := by simpa using hnn
                    have Hst := Lib.hid (edgesJ_one_n Hna.out hnn)
                    go_wp2_with fail
                    go_roundw
                    case rel =>
                      refine ⟨0 + 1, EA', ec', by omega, rfl, ?_, BT⟩
                      rw [Hst.out]
                      exact mj
                    case measure => simp only [intOf]; omega
                · by_cases hnn : 0 ≤ nb
                  · have hd : decide (0 ≤ nb) = true := by simpa using hnn
                    have hle := Helj.out 1
                    have hml : (edgesJ s k 1).length + 1 ≤ maxLen := by unfold maxLen; omega
                    have hml2 : ((edgesJ s k 1).length + 1) * 16 ≤ 140737488355328 := by omega
                    have Hst := Lib.hid (edgesJ_two_y Hnb.out hnn)
                    rw [Hn.out] at Hst
                    go_wp2_with (first
                      | (at_mapUpdate; refine wpList_put pairKey rfl _ _ _ 138 rfl 3 Tryz.underlying138 M (pairsOf (edgesJ s k 1)) (n, nb) (edgesJ s k 1).length rfl mj.om rfl rfl ?_; intro w6 M6 hg6 hz6; clear hz6; have m6 := mj.put hGM (Nat.le_refl _) M6 hg6; have bb6 := m6.c7; have BT6 := BT.grown hg6 (by intro e; cases e; omega))
                      | (at_builtin; refine wpList_append_one #[.int .i64 n, .int .i64 nb] rfl (.tmp 139) (.tmp 143) 86 rfl M 133 133 i1 (.agg #[.int .i64 0, .int .i64 0]) 2 16 Tryz.underlying86 hi1 hz10 hz11 hz12 rfl (by decide) (.slice EA' (edgesJ s k 1).length ec') (edgesJ s k 1).length _ _ rfl m6.oe rfl rfl (by simp [Value.oneCell']) hml hml2 m6.size ?_; intro g4 cap4 w4 own4 hg4; have BB4 := (m6.brd.alloc (.cells #[.int .i64 n, .int .i64 nb] 133)).grown hg4 (own_ne m6.oe hGM); unfold brdCells at BB4; have bb4 := BB4.cell 7; have ff4 := BB4.frozen 7; have BT4 := (BT6.alloc (.cells #[.int .i64 n, .int .i64 nb] 133)).grown hg4 (own_blk m6.oe BT6 (by decide)); have BT7 := BT4.far (p := ⟨G, 7, none⟩) (by show TB ≠ G; omega) (.slice (some ⟨g4, 0, none⟩) ((edgesJ s k 1).length + 1) cap4); obtain ⟨W6, hW6, m7⟩ := m6.appE hGM (Nat.le_refl _) own4 hg4; rw [hW6] at BT7))
                    go_roundw
                    case rel =>
                      refine ⟨1 + 1, some ⟨g4, 0, none⟩, cap4, by omega, rfl, ?_, BT7⟩
                      rw [Hst.out, pairsOf_snoc]
                      exact m7
                    case measure => simp only [intOf]; omega
                  · have hd : decide (0 ≤ nb) = false := by simpa using hnn
                    have Hst := Lib.hid (edgesJ_two_n Hnb.out hnn)
                    go_wp2_with fail
                    go_roundw
                    case rel =>
                      refine ⟨1 + 1, EA', ec', by omega, rfl, ?_, BT⟩
                      rw [Hst.out]
                      exact mj
                    case measure => simp only [intOf]; omega
                · have hcol : s.cells[(s.idx x y z).toNat]? = some (s.cells.getD k 0) := by
                    rw [pidx, Int.toNat_natCast, List.getD_eq_getElem?_getD, List.getElem?_eq_getElem hlt]
                    rfl
                  have Hcol := Lib.hid hcol
                  have hpl : (placesS s k).length = (aboveS s k).length := placesS_len
                  have hal := aboveS_len (s := s) (k := k) (by omega)
                  have hfle := fullN_le (s.cells.take k)
                  rw [List.length_take, Nat.min_eq_left (by omega)] at hfle
                  have hml : (placesS s k).length + 1 ≤ maxLen := by unfold maxLen; omega
                  have hml2 : ((placesS s k).length + 1) * 8 ≤ 140737488355328 := by omega
                  have Hlay : Hid (∀ q, layF s l x y z (s.cells.getD k 0) l.length q = layAt s l k q) := Lib.hid (fun q => by rw [layAt, Hx.out, Hy.out, Hz.out])
                  have Hend := Lib.hid (edgesJ_end (s := s) (k := k) (by rw [Hn.out]; omega))
                  have Hab : Hid (aboveS s (k + 1) = aboveS s k ++ [s.num x y (z + 1)]) := Lib.hid (by rw [aboveS, if_neg (by rw [Hn.out]; omega), Hx.out, Hy.out, Hz.out])
                  have Hps : Hid (placesS s (k + 1) = placesS s k ++ [k]) := Lib.hid (by rw [placesS, if_neg (by rw [Hn.out]; omega)])
                  clear hcol hpl hal hfle pidx bt bbj BBj BT
                  have Hbrd : Hid (∀ {w ab es pm ps ms av EA ec ov lv}, Mid s l A cap PA pcap G M M NB ncap V w ab es pm ps ms av EA ec ov lv → Brd w G s A cap (some ⟨NB, 0, none⟩) ncap l PA pcap) :=
                    Lib.hid (fun m => m.brd4 (hb.ext (m.below E (by omega) hwM)) (hp.ext (m.below E (by omega) hwM)) hnm2 hNM hNG)
                  obtain ⟨i2, hi2, hz20, hz21, hz22⟩ := info_parts infoMap
                  have mj' := mj.ext (Ext.refl wr).drew
                  have bb := mj'.c9
                  go_wp2_with fail
                  go_region_law (first
                    | (go_simp; go_at_call 63; refine (lay_c x y z (s.cells.getD k 0) G s A cap _ _ l PA pcap ok hl hin Hcol.out _ (Hbrd.out mj')).mono ?_; rintro e w3 ⟨⟨Mn, mn, rfl, hMn, hmap, hget⟩, E4⟩; have Hget := Lib.hid hget; clear hget; have m3 := mj'.ext E4; have bb3 := m3.c9; have hG3 := m3.brd.lt; have hMn2 : M < Mn := Nat.lt_of_lt_of_le mj'.om.lt hMn)
                    | (refine at_append #[.tmp 152, .tmp 158] #[109, 109] rfl ?_; refine step_append_one #[.map (some Mn)] rfl (.tmp 152) (.tmp 158) 109 rfl M 140 140 i2 (.map none) 1 8 Tryz.underlying109 hi2 hz20 hz21 hz22 rfl (by decide) lv (placesS s k).length _ _ rfl m3.ol rfl rfl (by simp [Value.oneCell']) hml hml2 m3.size ?_; intro g4 cap4 w4 own4 hg4; have BB4 := (m3.brd.alloc (.cells #[.map (some Mn)] 140)).grown hg4 (own_ne m3.ol hGM); unfold brdCells at BB4; have bb4 := BB4.cell 9; have ff4 := BB4.frozen 9; obtain ⟨W6, hW6, m6⟩ := m3.appL hGM (Nat.le_refl _) hMn2 hmap (fun q => (Hget.out q).trans (Hlay.out q)) own4 hg4))
                  all_goals
                    go_wp2_with fail
                    go_roundw
                    case rel =>
                      refine ⟨k + 1, ms ++ [Mn], av', EA', ec', .slice (some ⟨g4, 0, none⟩) ((placesS s k).length + 1) cap4, by omega, by go_num, ?_⟩
                      rw [Hend.out, Hab.out, Hps.out]
                      exact m6
                    case measure => simp only [intOf]; omega
        · obtain rfl : k = s.cells.length := by omega
          have hF := ok.full
          have hFl : (aboveS s s.cells.length).length = fullN s.cells := abv_len
          obtain ⟨AB, acap, rfl⟩ := own_form mid.oa (by omega)
          rw [show aboveS s s.cells.length = abv s from rfl, show edgesS s s.cells.length = eds s from rfl] at mid
          rw [show aboveS s s.cells.length = abv s from rfl] at hFl bb BB
          rw [show edgesS s s.cells.length = eds s from rfl] at bb BB
          have hel : (eds s).length ≤ 512 := by have := edgesS_len s s.cells.length; show (edgesS s s.cells.length).length ≤ 512; omega
          obtain ⟨V2, rfl⟩ : ∃ V2 : World, V2 = wr := ⟨_, rfl⟩
          have hAB := (mid.oa.lt AB rfl).2
          go_wp2_with fail
          clear bb BB bs
          obtain ⟨T2, hT2⟩ : ∃ T2, V2.heap.size = T2 := ⟨_, rfl⟩
          have hMT : M ≤ T2 := by have := mid.size; omega
          rw [hT2] at hAB
          have HT2 := Lib.hid hT2
          clear hT2
          have HFl := Lib.hid hFl
          clear hFl
          have hav : ∀ r, (Value.slice (some ⟨AB, 0, none⟩) (abv s).length acap).ownBlock = some r → r < T2 := fun r h => by cases h; exact hAB
          have Hav := Lib.hid hav
          clear hav
          go_loopw [168] (fun i wr => ∃ (k : Nat) (ov : Value), k ≤ (eds s).length ∧ i = .int .i64 k ∧
            Mid s l A cap PA pcap G M M NB ncap V wr (abv s) (eds s) (pairsOf (eds s)) (placesS s s.cells.length) ms (.slice (some ⟨AB, 0, none⟩) (abv s).length acap) EA ec ov lv ∧
            wr.ownsRow T2 3 1 ov (overT s k).length ((overT s k).map iv) ∧ T2 ≤ wr.heap.size) (fun i _ => (eds s).length - (intOf i).toNat)
          case atStart => exact ⟨0, _, by omega, rfl, mid, World.ownsRow_nil _ _ _ _, by rw [HT2.out]; exact Nat.le_refl _⟩
          case round =>
            clear mid Ew
            obtain ⟨k, ov, hk, rfl, mid, own, hTw⟩ := hrel
            have Ew := mid.below E (by omega) hwM
            by_cases hlt : k < (eds s).length
            · obtain ⟨b', off', p, rfl, hp', hpb, p1, p2⟩ := pair_at (own_pairs mid.oe) hlt
              obtain ⟨⟨r1, r2⟩, r3, r4⟩ := edges_bd ok (Nat.le_refl _) p (List.mem_of_getElem? hp')
              obtain ⟨pa, pb⟩ := p
              simp only at p1 p2 r1 r2 r3 r4
              obtain ⟨W1', hW1', E1', B1', hz1'⟩ := box_ wr #[.int .i64 pa, .int .i64 pb] 133
              have mid1 := mid.ext E1'
              have ints := own_ints mid1.oa
              obtain ⟨a1, ha1⟩ : ∃ a1, (abv s)[pa.toNat]? = some a1 := ⟨_, List.getElem?_eq_getElem (by have := HFl.out; omega)⟩
              obtain ⟨a2, ha2⟩ : ∃ a2, (abv s)[pb.toNat]? = some a2 := ⟨_, List.getElem?_eq_getElem (by have := HFl.out; omega)⟩
              obtain ⟨_, _, hA1, _, u1⟩ := ints.at_ ha1
              cases hA1
              obtain ⟨_, _, hA2, _, u2⟩ := ints.at_ ha2
              cases hA2
              simp only [Nat.zero_add] at u1 u2
              have v1 : pa < (abv s).length := by have := HFl.out; omega
              have v2 : pb < (abv s).length := by have := HFl.out; omega
              have c6 := mid1.c6
              have b1 := B1'.cell
              obtain ⟨g, hg⟩ : ∃ g, getK (pairsOf (eds s)) (a1, a2) = g := ⟨_, rfl⟩
              have hlk : ∀ x, (Instr.lookup 138 (.map (some M)) (.agg #[.int .i64 a1, .int .i64 a2]) true).run Tryz.prog (grow W1' x) = .ok (lookV g) (grow W1' x) := fun x => by
                rw [look_pairs (mid1.om.ext ((Ext.refl _).grow x)), hg]
              have Hov : Hid (overAt (abv s) (eds s) (pa, pb) = overV g) := Lib.hid (by
                rw [overAt_eq, List.getD_eq_getElem?_getD, List.getD_eq_getElem?_getD]
                show overV (getK (pairsOf (eds s)) ((abv s)[pa.toNat]?.getD 0, (abv s)[pb.toNat]?.getD 0)) = _
                rw [ha1, ha2]
                exact congrArg overV hg)
              clear ints ha1 ha2
              have Hp := Lib.hid hp'
              clear hp'
              have Hg := Lib.hid hg
              clear hg
              have hol := overT_len (s := s) (k := k) (by omega)
              have hml : (overT s k).length + 1 ≤ maxLen := by unfold maxLen; omega
              have hml2 : ((overT s k).length + 1) * 8 ≤ 140737488355328 := by omega
              clear hol
              obtain ⟨i0, hi, hz0, hz1, hz2⟩ := info_parts infoInt
              have own1 := own_ext own E1'
              have hTw1 : T2 ≤ W1'.heap.size := Nat.le_trans hTw E1'.size
              cases g with
              | none =>
                dsimp only [lookV] at hlk
                have Hsn := Lib.hid (overT_succ Hp.out Hov.out)
                dsimp only [overV] at Hsn
                go_wp2_with fail
                refine wp_region_grow (by kernel_rfl) (by kernel_rfl) ?_
                repeat (go_big_quiet_step (fail))
                refine wpQuiet_nil ?_
                intro W3 hW3
                have E3 : Ext W1' W3 := by
                  obtain ⟨x, rfl⟩ := hW3
                  exact (Ext.refl _).grow x
                clear hW3
                obtain ⟨hcW3, hfW3, hzW3⟩ := ext_facts E3
                clear hlk
                have mid3 := mid1.ext E3
                have own3 := own_ext own1 E3
                have c8 := mid3.c8
                have hTw3 : T2 ≤ W3.heap.size := Nat.le_trans hTw1 E3.size
                go_wp2_with (at_builtin; refine wpList_append_one #[.int .i64 (-1)] rfl (.tmp 200) (.tmp 202) 41 rfl T2 3 3 i0 (.int .i64 0) 1 8 Tryz.underlying41 hi hz0 hz1 hz2 rfl (by decide) ov (overT s k).length _ _ rfl own3 rfl rfl (by simp [Value.oneCell']) hml hml2 hTw3 ?_; intro g4 cap4 w4 own4 hg4; have BB4 := (mid3.brd.alloc (.cells #[.int .i64 (-1)] 3)).grown hg4 (own_ne own3 (by omega)); unfold brdCells at BB4; have bb4 := BB4.cell 8; have ff4 := BB4.frozen 8; have hz4 := hg4.size; have hz4' := (ext_alloc W3 (.cells #[.int .i64 (-1)] 3)).size; obtain ⟨W6, hW6, m6, o6⟩ := mid3.appO own3 Hav.out hMT hGM (Nat.le_refl _) own4 hg4; have hz6 : T2 ≤ W6.heap.size := (by rw [← hW6, set_size]; omega))
                go_roundw
                case rel =>
                  refine ⟨k + 1, .slice (some ⟨g4, 0, none⟩) ((overT s k).length + 1) cap4, by omega, by go_num, m6, ?_, hz6⟩
                  rw [Hsn.out]
                  exact o6
                case measure => simp only [intOf]; omega
              | some j =>
                dsimp only [lookV] at hlk
                have Hsn := Lib.hid (overT_succ Hp.out Hov.out)
                dsimp only [overV] at Hsn
                go_wp2_with fail
                refine wp_region_grow (by kernel_rfl) (by kernel_rfl) ?_
                repeat (go_big_quiet_step (fail))
                refine wpQuiet_nil ?_
                intro W3 hW3
                have E3 : Ext W1' W3 := by
                  obtain ⟨x, rfl⟩ := hW3
                  exact (Ext.refl _).grow x
                clear hW3
                obtain ⟨hcW3, hfW3, hzW3⟩ := ext_facts E3
                clear hlk
                have mid3 := mid1.ext E3
                have own3 := own_ext own1 E3
                have c8 := mid3.c8
                have hTw3 : T2 ≤ W3.heap.size := Nat.le_trans hTw1 E3.size
                go_wp2_with (at_builtin; refine wpList_append_one #[.int .i64 j] rfl (.tmp 200) (.tmp 202) 41 rfl T2 3 3 i0 (.int .i64 0) 1 8 Tryz.underlying41 hi hz0 hz1 hz2 rfl (by decide) ov (overT s k).length _ _ rfl own3 rfl rfl (by simp [Value.oneCell']) hml hml2 hTw3 ?_; intro g4 cap4 w4 own4 hg4; have BB4 := (mid3.brd.alloc (.cells #[.int .i64 j] 3)).grown hg4 (own_ne own3 (by omega)); unfold brdCells at BB4; have bb4 := BB4.cell 8; have ff4 := BB4.frozen 8; have hz4 := hg4.size; have hz4' := (ext_alloc W3 (.cells #[.int .i64 j] 3)).size; obtain ⟨W6, hW6, m6, o6⟩ := mid3.appO own3 Hav.out hMT hGM (Nat.le_refl _) own4 hg4; have hz6 : T2 ≤ W6.heap.size := (by rw [← hW6, set_size]; omega))
                go_roundw
                case rel =>
                  refine ⟨k + 1, .slice (some ⟨g4, 0, none⟩) ((overT s k).length + 1) cap4, by omega, by go_num, m6, ?_, hz6⟩
                  rw [Hsn.out]
                  exact o6
                case measure => simp only [intOf]; omega
            · obtain rfl : k = (eds s).length := by omega
              obtain ⟨OA, ocap, LA, lcap, hB⟩ := board_of mid (mid.brd4 (hb.ext Ew) (hp.ext Ew) hnm2 hNM hNG) own
              have HB := Lib.hid hB
              clear hB own
              go_wp2_with fail
              go_ret2
              exact ⟨_, _, _, _, _, _, _, _, _, _, _, _, rfl, HB.out, Ew⟩

set_option maxRecDepth 100000 in
set_option maxHeartbeats 2000000 in
theorem look_bad (s : Shape) (l : List Plate) (A : Option Addr) (cap : Nat) (PA : Option Addr) (pcap : Nat) (e0 : Int) (he : (if s.valid = true then platesErr l else 70) = e0) (h0 : e0 ≠ 0) (w : World) (hb : Bytes w A cap s.cells) (hp : Plates w PA pcap l) :
    Calls Tryz.prog 28 #[.agg #[.int .i64 s.W, .int .i64 s.D, .int .i64 s.H, .slice A s.cells.length cap], .slice PA l.length pcap] w fun e w' =>
      e = .returned (.tuple #[.pointer none, .int .i64 e0]) ∧ Ext w w' := by
  obtain ⟨W1, hW1, E1, B1, hz1⟩ := box_ w #[.int .i64 s.W, .int .i64 s.D, .int .i64 s.H, .slice A s.cells.length cap] 24
  have b1 := B1.cell
  by_cases hv : s.valid = true
  · have hse := shapeErr_ok hv
    rw [if_pos hv] at he
    have h71 : e0 = 71 := by
      unfold platesErr at he
      split at he
      · omega
      · exact he.symm
    subst h71
    have Hse := Lib.hid hse
    have He := Lib.hid he
    clear hv hse he h0
    go_enter Tryz.func28, Tryz.ntmps28
    go_wp2_with fail
    refine (checkShape_c A cap s.W s.D s.H s.cells _ (hb.ext E1)).mono ?_
    rintro e w2 ⟨rfl, E2⟩
    rw [show (⟨s.W, s.D, s.H, s.cells⟩ : Shape) = s from rfl, Hse.out]
    go_wp2_with fail
    refine (checkPlates_c PA pcap l _ ((hp.ext E1).ext E2)).mono ?_
    rintro e w3 ⟨rfl, E3⟩
    rw [He.out]
    go_wp2_with fail
    go_ret2
    exact ⟨rfl, (E1.trans E2).trans E3⟩
  · rw [if_neg hv] at he
    subst he
    have hse : shapeErr s = 70 := by unfold shapeErr; rw [if_neg (by simpa using hv)]
    have Hse := Lib.hid hse
    clear hv hse h0
    go_enter Tryz.func28, Tryz.ntmps28
    go_wp2_with fail
    refine (checkShape_c A cap s.W s.D s.H s.cells _ (hb.ext E1)).mono ?_
    rintro e w2 ⟨rfl, E2⟩
    rw [show (⟨s.W, s.D, s.H, s.cells⟩ : Shape) = s from rfl, Hse.out]
    go_wp2_with fail
    go_ret2
    exact ⟨rfl, E1.trans E2⟩
end Go.Proofs.YtaaeapjnjjbglaaGreatDoor
