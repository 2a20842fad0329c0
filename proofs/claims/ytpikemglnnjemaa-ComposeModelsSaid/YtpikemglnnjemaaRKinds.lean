/- Kinds of the reference. -/
import Derived.Test.YtpikemglnnjemaaKinds
import Derived.Test.YtpikemglnnjemaaRCheckPlates
namespace Go.Proofs.Ytpikemglnnjemaa
open Go.RowKit

theorem place_xy {wn x y : Nat} (hx : x < wn) : (((y * wn + x : Nat) : Nat) : Int) % (wn : Int) = x ∧ (((y * wn + x : Nat) : Nat) : Int) / (wn : Int) = y := by
  have e : (((y * wn + x : Nat) : Nat) : Int) = (y : Int) * wn + x := by rw [Int.natCast_add, Int.natCast_mul]
  constructor
  · rw [e, Int.mul_comm, Int.add_comm, Int.add_mul_emod_self_left, Int.emod_eq_of_lt (by omega) (by omega)]
  · rw [e, Int.mul_comm, Int.add_comm, Int.add_mul_ediv_left _ _ (by omega), Int.ediv_eq_zero_of_lt (by omega) (by omega)]
    omega

set_option maxRecDepth 100000 in
set_option maxHeartbeats 8000000 in
theorem rKinds_c (l : List Plate) (PA : Option Addr) (pcap : Nat) (okl : platesB l = true) (w : World) (hl : Plates w PA pcap l) :
    Calls Try.prog 12 #[.slice PA l.length pcap] w (KindsPost l w) := by
  have hl8 := plates_len okl
  have Hpe := Lib.hid okl
  go_enter Try.func12, Try.ntmps12
  go_wp2_with fail
  refine (rPlates_c PA pcap l _ hl).mono ?_
  rintro e W1 ⟨rfl, E1⟩
  rw [Hpe.out]
  go_wp2_with fail
  obtain ⟨T, hT⟩ : ∃ T, W1.heap.size = T := ⟨_, rfl⟩
  have hwT : w.heap.size ≤ T := by have := E1.size; omega
  have HT := Lib.hid hT
  clear hT
  go_loopw [4, 5] (fun ov i wr => ∃ (k : Nat) (rows : List (List Value)), k ≤ l.length ∧ i = .int .i64 k ∧ Ext w wr ∧ T ≤ wr.heap.size ∧ wr.ownsRow T 53 3 ov k rows.flatten ∧ KindsOwn wr T l k rows ∧
    ∀ (j : Nat) (p : Plate), j < k → l[j]? = some p → p.W * p.D ≤ 24) (fun _ i _ => l.length - (intOf i).toNat)
  case atStart => exact ⟨0, [], by omega, rfl, E1, by rw [HT.out]; exact Nat.le_refl _, World.ownsRow_nil _ _ _ _, ⟨rfl, fun j r p hj => by simp at hj⟩, fun j p hj => by omega⟩
  case round =>
    obtain ⟨k, rows, hk, rfl, E, hTr, own, hko, hsm⟩ := hrel
    have Hko := Lib.hid hko
    have Hsm := Lib.hid hsm
    clear hko hsm
    by_cases hlt : k < l.length
    · obtain ⟨pb, poff, p, hPA, hp, hpb, p0, p1, p2, p3⟩ := hl.at_ hlt
      subst hPA
      clear p2 p3
      have okp := plate_ok okl hp
      obtain ⟨pw1, pw2⟩ := okp.w
      have pd := okp.d
      clear okp
      have Hp := Lib.hid hp
      clear hp
      have e1 := mul_bd (A := 8) (B := 8) pw1 (by omega : p.W ≤ (8 : Nat)) (by omega : 1 ≤ p.D) (by omega : p.D ≤ (8 : Nat))
      obtain ⟨n, hn⟩ : ∃ n : Nat, p.W * p.D = n := Int.eq_ofNat_of_zero_le (by omega)
      have Hn := Lib.hid hn
      have hw1 : IntKind.i64.wrap (p.W * p.D) = n := by rw [hn]; exact IntWalk.i64_in _ (by omega)
      have r0 := E.cell p0
      have r1 := E.cell p1
      by_cases hbig : 24 < n
      · have hd : decide (24 < (n : Int)) = true := by simp; omega
        have Htb : Hid (tooBig l = true) := Lib.hid (by
          unfold tooBig
          rw [List.any_eq_true]
          exact ⟨p, List.mem_of_getElem? Hp.out, by rw [Hn.out]; exact hd⟩)
        clear hbig
        go_wp2_with fail
        refine wp_region_grow (by kernel_rfl) (by kernel_rfl) ?_
        repeat (go_big_quiet_step (fail))
        refine wpQuiet_nil ?_
        intro W2 hW2
        have E2 : Ext wr W2 := by
          obtain ⟨x, rfl⟩ := hW2
          exact (Ext.refl _).grow x
        clear hW2
        obtain ⟨hcW2, hfW2, hzW2⟩ := ext_facts E2
        go_wp2_with fail
        go_ret2
        exact ⟨fun h => (by rw [Htb.out] at h; cases h), fun _ => ⟨rfl, E.trans E2⟩⟩
      · have hd : decide (24 < (n : Int)) = false := by simp; omega
        obtain ⟨wn, hwn⟩ := Int.eq_ofNat_of_zero_le (show 0 ≤ p.W by omega)
        obtain ⟨dn, hdn⟩ := Int.eq_ofNat_of_zero_le (show 0 ≤ p.D by omega)
        have hmul : wn * dn = n := by
          rw [hwn, hdn, ← Int.natCast_mul] at hn
          omega
        have hwn8 : wn ≤ 8 := by omega
        have hdn8 : dn ≤ 8 := by omega
        have Hwn := Lib.hid hwn
        have Hdn := Lib.hid hdn
        have Hmul := Lib.hid hmul
        clear hmul hn e1 hwn hdn
        go_wp2_with fail
        refine wp_region_grow (by kernel_rfl) (by kernel_rfl) ?_
        repeat (go_big_quiet_step (fail))
        refine wpQuiet_nil ?_
        intro W2 hW2
        have E2 : Ext wr W2 := by
          obtain ⟨x, rfl⟩ := hW2
          exact (Ext.refl _).grow x
        clear hW2
        obtain ⟨hcW2, hfW2, hzW2⟩ := ext_facts E2
        have E02 := E.trans E2
        have s0 := E02.cell p0
        have s1 := E02.cell p1
        have hpb2 : pb < W2.heap.size := Nat.lt_of_lt_of_le hpb E02.size
        have np1 : pb ≠ W2.heap.size := by omega
        have np2 : W2.heap.size ≠ pb := by omega
        clear r0 r1 hcW2 hfW2 hzW2
        go_upto_region 9 with (fail)
        go_cut [6] from 13 to 82 (fun s6 wx => NewBlk 53 #[.slice none 0 0, .slice none 0 0, .int .i64 n] W2 s6 wx)
        case first =>
          go_region_held3 (fun w' => w'.cell? ⟨pb, poff + k * 4, none⟩ = some (.int .i64 p.W) ∧ w'.cell? ⟨pb, poff + k * 4 + 1, none⟩ = some (.int .i64 p.D)) (go_keep) (first | fail)
          all_goals
            go_wp2_with fail
            go_meet
            exact ⟨_, rfl, Nat.le_refl _, (Blk.new _ _ _).drew, ((Ext.refl _).alloc _).drew⟩
        case rest =>
          obtain ⟨KB, rfl, hgK, B3, E3⟩ := hcut
          clear s0 s1 np1 np2 hw1 hd
          rw [Hwn.out] at p0
          rw [Hdn.out] at p1
          have E03 := E02.trans E3
          have E23 := E2.trans E3
          obtain ⟨T3, hT3⟩ : ∃ T3, wc.heap.size = T3 := ⟨_, rfl⟩
          have hKT : KB < T3 := by have := B3.lt; omega
          have hsz2 := E2.size
          have hTK : T ≤ KB := by omega
          have hwK : wr.heap.size ≤ KB := by omega
          go_wp2_with fail
          have HT3 := Lib.hid hT3
          clear hT3
          obtain ⟨wo, rfl⟩ : ∃ wo : World, wo = wr := ⟨_, rfl⟩
          go_loopw [7] (fun i wr => ∃ (y : Nat) (cv kv : Value), y ≤ dn ∧ i = .int .i64 y ∧ But KB T3 wc wr ∧ T3 ≤ wr.heap.size ∧ Blk wr KB 53 #[cv, kv, .int .i64 n] ∧
            wr.ownsRow T3 62 3 cv (y * wn) (cellRows p (y * wn)).flatten ∧ wr.ownsRow T3 75 5 kv (2 * (y * wn)) (knobRows p (y * wn)).flatten) (fun i _ => dn - (intOf i).toNat)
          case atStart => exact ⟨0, _, _, by omega, rfl, But.refl _ _ _, by rw [HT3.out]; exact Nat.le_refl _, B3, by rw [Nat.zero_mul]; exact World.ownsRow_nil _ _ _ _, by rw [Nat.zero_mul]; exact World.ownsRow_nil _ _ _ _⟩
          case round =>
            obtain ⟨y, cv, kv, hy, rfl, but, hTr3, BK, oc, ok⟩ := hrel
            have Er := but.below E03 (by omega) (by omega)
            have r0 := Er.cell p0
            have r1 := Er.cell p1
            by_cases hlty : y < dn
            · have hyy : (y + 1) * wn ≤ n := by
                rw [← Hmul.out, Nat.mul_comm wn dn]
                exact Nat.mul_le_mul_right _ (by omega)
              rw [Nat.add_mul, Nat.one_mul] at hyy
              obtain ⟨wy, rfl⟩ : ∃ wy : World, wy = wr := ⟨_, rfl⟩
              go_wp2_with fail
              clear r0 r1
              go_loopw [8] (fun i wr => ∃ (x : Nat) (cv kv : Value), x ≤ wn ∧ i = .int .i64 x ∧ But KB T3 wc wr ∧ T3 ≤ wr.heap.size ∧ Blk wr KB 53 #[cv, kv, .int .i64 n] ∧
                wr.ownsRow T3 62 3 cv (y * wn + x) (cellRows p (y * wn + x)).flatten ∧ wr.ownsRow T3 75 5 kv (2 * (y * wn + x)) (knobRows p (y * wn + x)).flatten) (fun i _ => wn - (intOf i).toNat)
              case atStart => exact ⟨0, cv, kv, by omega, rfl, but, hTr3, BK, by rw [Nat.add_zero]; exact oc, by rw [Nat.add_zero]; exact ok⟩
              case round =>
                clear but hTr3 BK oc ok Er
                obtain ⟨x, cv, kv, hx, rfl, but, hTr3, BK, oc, ok⟩ := hrel
                have Er := but.below E03 (by omega) (by omega)
                have r0 := Er.cell p0
                have r1 := Er.cell p1
                by_cases hltx : x < wn
                · obtain ⟨q1, q2⟩ := place_xy (y := y) hltx
                  rw [← Hwn.out] at q1 q2
                  obtain ⟨j, hjj⟩ : ∃ j, y * wn + x = j := ⟨_, rfl⟩
                  have hj24 : j < 24 := by omega
                  rw [hjj] at oc ok q1 q2
                  obtain ⟨wc6, hwc6, E6, BC, hz6⟩ := box_ wr #[.int .i64 x, .int .i64 y, .int .i64 0] 62
                  have hg : wr.heap.size ≤ wr.heap.size := Nat.le_refl _
                  clear hz6
                  have Hq1 := Lib.hid q1
                  have Hq2 := Lib.hid q2
                  have Hjj := Lib.hid hjj
                  have Hwc6 := Lib.hid hwc6
                  clear q1 q2 hjj hwc6
                  go_upto_region 17 with (fail)
                  rw [Hwc6.out]
                  have BK6 := BK.ext E6
                  have bk6 := BK6.cell
                  have fk6 := BK6.frozen
                  have bc6 := BC.cell
                  have oc6 := own_ext oc E6
                  have ok6 := own_ext ok E6
                  have but6 := but.ext E6 hTr3
                  have hT6 : T3 ≤ wc6.heap.size := Nat.le_trans hTr3 E6.size
                  obtain ⟨iC, hi, hz0, hz1', hz2'⟩ := info_parts infoCell
                  obtain ⟨iK, ki, kz0, kz1, kz2⟩ := info_parts infoKnob
                  have hml : j + 1 ≤ maxLen := by unfold maxLen; omega
                  have hml2 : 2 * j + 2 ≤ maxLen := by unfold maxLen; omega
                  have Hcs : Hid ((cellRows p (j + 1)).flatten = (cellRows p j).flatten ++ [.int .i64 x, .int .i64 y, .int .i64 0]) := Lib.hid (by rw [cellRows_succ, kcell, Hq1.out, Hq2.out])
                  have Hks : Hid ((knobRows p (j + 1)).flatten = (knobRows p j).flatten ++ [.int .i64 x, .int .i64 y, .int .i64 0, .int .u8 4, .int .u8 1, .int .i64 x, .int .i64 y, .int .i64 0, .int .u8 5, .int .u8 2]) := Lib.hid (by rw [knobRows_succ, kknob, kknob, Hq1.out, Hq2.out]; rfl)
                  have hgK : wr.heap.size ≠ KB := by have := BK.lt; omega
                  go_upto_region 18 with (at_builtin; refine wpList_append_one #[.int .i64 x, .int .i64 y, .int .i64 0] rfl (.tmp 65) (.tmp 67) 50 rfl T3 62 62 iC _ 3 24 Try.underlying50 hi hz0 hz1' hz2' rfl (by decide) cv j _ _ rfl oc6 rfl rfl (by simp [Value.oneCell']) hml (by omega) hT6 ?_; intro g7 cap7 w7 own7 hg7; have BK7 := (BK6.alloc (.cells #[.int .i64 x, .int .i64 y, .int .i64 0] 62)).grown hg7 (own_ne oc6 hKT); have bk7 := BK7.cell; have fk7 := BK7.frozen)
                  obtain ⟨W8, hW8, BK8, keep8, ext8, hz8⟩ := BK7.store1 0 (.slice (some ⟨g7, 0, none⟩) (j + 1) cap7)
                  rw [hW8]
                  have BK8 : Blk W8 KB 53 #[.slice (some ⟨g7, 0, none⟩) (j + 1) cap7, kv, .int .i64 n] := BK8
                  have BC8 := keep8 _ _ _ hgK ((BC.alloc (.cells #[.int .i64 x, .int .i64 y, .int .i64 0] 62)).grown hg7 (fun e => by have := (oc.lt _ e.symm).2; omega))
                  have oc8 : W8.ownsRow T3 62 3 (.slice (some ⟨g7, 0, none⟩) (j + 1) cap7) (j + 1) ((cellRows p j).flatten ++ [.int .i64 x, .int .i64 y, .int .i64 0]) := by
                    rw [← hW8]
                    exact own_setCell own7 hKT _
                  have ok8 : W8.ownsRow T3 75 5 kv (2 * j) (knobRows p j).flatten := by
                    rw [← hW8]
                    exact own_setCell (own_grown (own_ext ok6 (ext_alloc _ _)) hg7 (own_apart (own_ext ok6 (ext_alloc wc6 (.cells #[.int .i64 x, .int .i64 y, .int .i64 0] 62))) (own_ext oc6 (ext_alloc wc6 (.cells #[.int .i64 x, .int .i64 y, .int .i64 0] 62))) (by decide))) hKT _
                  have hs7 := hg7.size
                  have hs6 := (ext_alloc wc6 (.cells #[.int .i64 x, .int .i64 y, .int .i64 0] 62)).size
                  have hT8 : T3 ≤ W8.heap.size := by omega
                  have but8 : But KB T3 wc W8 := by
                    rw [← hW8]
                    exact ((but6.alloc hT6 _).grown hg7 (by omega) (fun q hq => (oc6.lt q hq).1)).setG _ _
                  have bk8 := BK8.cell
                  have fk8 := BK8.frozen
                  have bc8 := BC8.cell
                  clear bk6 fk6 bc6 bk7 fk7 hW8 hz8 hs7 hs6
                  go_wp2_with (at_builtin; refine wpList_append_many #[.int .i64 x, .int .i64 y, .int .i64 0, .int .u8 4, .int .u8 1, .int .i64 x, .int .i64 y, .int .i64 0, .int .u8 5, .int .u8 2] 2 (by omega) rfl (.tmp 71) (.tmp 76) 51 rfl T3 75 75 iK _ 5 32 Try.underlying51 ki kz0 kz1 kz2 rfl (by decide) kv (2 * j) _ _ rfl ok8 rfl rfl (by simp [Value.oneCell']) hml2 (by omega) hT8 ?_; intro g9 cap9 w9 own9 hg9; have BK9 := (BK8.alloc (.cells #[.int .i64 x, .int .i64 y, .int .i64 0, .int .u8 4, .int .u8 1, .int .i64 x, .int .i64 y, .int .i64 0, .int .u8 5, .int .u8 2] 75)).grown hg9 (own_ne ok8 hKT); have bk9 := BK9.cell; have fk9 := BK9.frozen)
                  go_roundw
                  case rel =>
                    have hs9 := hg9.size
                    have hs8 := (ext_alloc W8 (.cells #[.int .i64 x, .int .i64 y, .int .i64 0, .int .u8 4, .int .u8 1, .int .i64 x, .int .i64 y, .int .i64 0, .int .u8 5, .int .u8 2] 75)).size
                    have oc9 := own_grown (own_ext oc8 (ext_alloc W8 (.cells #[.int .i64 x, .int .i64 y, .int .i64 0, .int .u8 4, .int .u8 1, .int .i64 x, .int .i64 y, .int .i64 0, .int .u8 5, .int .u8 2] 75))) hg9 (own_apart (own_ext oc8 (ext_alloc W8 (.cells #[.int .i64 x, .int .i64 y, .int .i64 0, .int .u8 4, .int .u8 1, .int .i64 x, .int .i64 y, .int .i64 0, .int .u8 5, .int .u8 2] 75))) (own_ext ok8 (ext_alloc W8 (.cells #[.int .i64 x, .int .i64 y, .int .i64 0, .int .u8 4, .int .u8 1, .int .i64 x, .int .i64 y, .int .i64 0, .int .u8 5, .int .u8 2] 75))) (by decide))
                    have Hj1 : y * wn + (x + 1) = j + 1 := by have := Hjj.out; omega
                    refine ⟨x + 1, .slice (some ⟨g7, 0, none⟩) (j + 1) cap7, .slice (some ⟨g9, 0, none⟩) (2 * j + 2) cap9, by omega, by go_num, ((but8.alloc hT8 _).grown hg9 (by omega) (fun q hq => (ok8.lt q hq).1)).setG _ _, by rw [set_size]; omega, BK9.set_ 1 _, own_setCell ?_ hKT _, own_setCell ?_ hKT _⟩
                    · rw [Hj1, Hcs.out]
                      exact oc9
                    · rw [Hj1, Hks.out]
                      exact own9
                  case measure => simp only [intOf]; omega

                · obtain rfl : x = wn := by omega
                  go_wp2_with fail
                  go_roundw
                  case rel =>
                    refine ⟨y + 1, cv, kv, by omega, by go_num, but, hTr3, BK, ?_, ?_⟩
                    · rw [Nat.add_mul, Nat.one_mul]
                      exact oc
                    · rw [Nat.add_mul, Nat.one_mul]
                      exact ok
                  case measure => simp only [intOf]; omega
            · obtain rfl : y = dn := by omega
              rw [Nat.mul_comm y wn, Hmul.out] at oc ok
              obtain ⟨CA, cc, rfl⟩ := own_forms oc
              obtain ⟨KA, kc, rfl⟩ := own_forms ok
              have bk := BK.cell
              have own3 := own_but (own_ext own E23) but (fun q hq => by have := (own.lt q hq).2; omega)
              have hTw : T ≤ wr.heap.size := by omega
              have Harea : areaP p = n := by unfold areaP; rw [Hn.out]; rfl
              have HA := Lib.hid Harea
              clear Harea
              obtain ⟨iD, hi, hz0, hz1', hz2'⟩ := info_parts infoKind
              have hml : k + 1 ≤ maxLen := by unfold maxLen; omega
              go_wp2_with (at_builtin; refine wpList_append_one #[.slice CA n cc, .slice KA (2 * n) kc, .int .i64 n] rfl (.tmp 79) (.tmp 81) 43 rfl T 53 53 iD _ 3 56 Try.underlying43 hi hz0 hz1' hz2' rfl (by decide) _ k _ _ rfl own3 rfl rfl (by simp [Value.oneCell']) hml (by omega) hTw ?_; intro g7 cap7 w7 own7 hg7)
              go_roundw
              case rel =>
                have hs7 := hg7.size
                have hs6 := (ext_alloc wr (.cells #[.slice CA n cc, .slice KA (2 * n) kc, .int .i64 n] 53)).size
                have own3' := own_ext own3 (ext_alloc wr (.cells #[.slice CA n cc, .slice KA (2 * n) kc, .int .i64 n] 53))
                have hkw : KindOwn wr T [.slice CA n cc, .slice KA (2 * n) kc, .int .i64 n] p := by
                  refine ⟨CA, cc, KA, kc, by rw [HA.out, Hn.out], ?_, ?_⟩
                  · rw [HA.out]; exact own_base oc (by omega)
                  · rw [HA.out]; exact own_base ok (by omega)
                have hk7 : KindOwn w7 T [.slice CA n cc, .slice KA (2 * n) kc, .int .i64 n] p := (hkw.ext (ext_alloc wr (.cells #[.slice CA n cc, .slice KA (2 * n) kc, .int .i64 n] 53))).grown own3' hg7
                have hko7 : KindsOwn w7 T l k rows := ⟨Hko.out.1, fun a r q h1 h2 => by
                  obtain ⟨h3, h4⟩ := Hko.out.2 a r q h1 h2
                  exact ⟨(((h3.but E23 but hwK hKT).ext (ext_alloc wr (.cells #[.slice CA n cc, .slice KA (2 * n) kc, .int .i64 n] 53))).grown own3' hg7), h4⟩⟩
                refine ⟨k + 1, rows ++ [[.slice CA n cc, .slice KA (2 * n) kc, .int .i64 n]], by omega, by go_num, ?_, by omega, ?_, hko7.snoc Hp.out hk7 rfl, fun a q ha hq => ?_⟩
                · exact ((but.below E03 (by omega) (by omega)).alloc _).grown hg7 (fun q hq => by have := (own3.lt q hq).1; omega)
                · rw [List.flatten_append]
                  exact own7
                · rcases Nat.lt_or_ge a k with h | h
                  · exact Hsm.out a q h hq
                  · obtain rfl : a = k := by omega
                    rw [Hp.out] at hq
                    cases hq
                    rw [Hn.out]
                    omega
              case measure => simp only [intOf]; omega
    · obtain rfl : k = l.length := by omega
      have Htb : Hid (tooBig l = false) := Lib.hid (by
        unfold tooBig
        rw [List.any_eq_false]
        intro p hp
        obtain ⟨i, hi⟩ := List.getElem?_of_mem hp
        have := Hsm.out i p (List.getElem?_eq_some_iff.1 hi).1 hi
        simpa using this)
      obtain ⟨OA, oc, rfl⟩ := own_forms own
      go_wp2_with fail
      go_ret2
      refine ⟨fun _ => ⟨⟨OA, oc, rows, rfl, own_base own hwT, ⟨Hko.out.1, fun a r q h1 h2 => ?_⟩⟩, E⟩, fun h => (by rw [Htb.out] at h; cases h)⟩
      obtain ⟨⟨CA, cc, KA, kc, h3, h5, h6⟩, h4⟩ := Hko.out.2 a r q h1 h2
      exact ⟨⟨CA, cc, KA, kc, h3, own_base h5 hwT, own_base h6 hwT⟩, h4⟩
end Go.Proofs.Ytpikemglnnjemaa
