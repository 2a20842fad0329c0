/- The given statement LatticeKindsSaid: for every input the law returns true, and each argument reads behind the call as it did. No conditions. -/
import Derived.Test.YtenigkngmdofiaaLk11
import Derived.ProofKit
import Derived.Deep.Slices
import Derived.Carry
import Derived.OpenShut
import Derived.Lib.SmallJoins

namespace Go.Proofs.Ytenigkngmdofiaa
open Go.RowKit

theorem brk_same (a b c d e f : Int) (w : World) : (binOp .eql 42 (.agg #[.int .i64 a, .int .i64 b, .int .i64 c, .int .i64 d, .int .u8 e, .int .u8 f]) (.agg #[.int .i64 a, .int .i64 b, .int .i64 c, .int .i64 d, .int .u8 e, .int .u8 f])).run Try.prog w = .ok (.bool true) w := by
  simp [go_sem]
theorem pts_ints {l : List Pt} {ex : Array Value} {k : Nat} (hk : k < l.length * 3) : ∃ z : Int, (rowsA (l.map Pt.cs) ++ ex)[k]? = some (.int .i64 z) := by
  have hi : k / 3 < l.length := by omega
  have h0 : (l.map Pt.cs)[k / 3]? = some (Pt.cs l[k / 3]) := by
    rw [List.getElem?_map, List.getElem?_eq_getElem hi]
    rfl
  have hr : ∃ z : Int, (Pt.cs l[k / 3])[k % 3]? = some (.int .i64 z) := by
    have h3 : k % 3 = 0 ∨ k % 3 = 1 ∨ k % 3 = 2 := by omega
    rcases h3 with h | h | h <;> rw [h] <;> exact ⟨_, rfl⟩
  obtain ⟨z, hz⟩ := hr
  have h1 := rowsA_get (pts_wide l) h0 hz
  rw [Nat.div_add_mod'] at h1
  exact ⟨z, by rw [Array.getElem?_append_left (Array.getElem?_eq_some_iff.1 h1).1]; exact h1⟩
theorem ints_set {cs : Array Value} {n k : Nat} {z : Int} (h : ∀ i, i < n → ∃ z : Int, cs[i]? = some (.int .i64 z)) : ∀ i, i < n → ∃ z' : Int, (cs.setIfInBounds k (.int .i64 z))[i]? = some (.int .i64 z') := fun i hi => by
  obtain ⟨y, hy⟩ := h i hi
  by_cases hik : k = i
  · subst hik
    exact ⟨z, by rw [Array.getElem?_setIfInBounds_self_of_lt (Array.getElem?_eq_some_iff.1 hy).1]⟩
  · exact ⟨y, by rw [Array.getElem?_setIfInBounds_ne hik]; exact hy⟩
set_option maxRecDepth 100000 in
set_option maxHeartbeats 16000000 in
theorem kinds_walk (cells : List Pt) (knobs : List Knb) (wt : Int) (A0 : Option Addr) (c0 : Nat) (B0 : Option Addr) (d0 : Nat) (qs : List (Knd × KAt)) (QA : Option Addr) (qc : Nat) (kd x y z t c : Int) (hby : Brk.byte ⟨kd, ⟨x, y, z⟩, t, c⟩)
    (w : World) (hc : Cells w A0 c0 cells) (hn : Knobs w B0 d0 knobs) (hk : Kinds w QA qc qs) (hnil : ∀ q ∈ qs, (q.2.A = none → q.2.ca = 0) ∧ (q.2.B = none → q.2.cb = 0)) :
    Calls Try.prog 4 #[.agg #[.slice A0 cells.length c0, .slice B0 knobs.length d0, .int .i64 wt], .slice QA qs.length qc, .agg #[.int .i64 kd, .int .i64 x, .int .i64 y, .int .i64 z, .int .u8 t, .int .u8 c]] w fun e w' => e = .returned (.bool true) ∧ Ext w w' := by
  obtain ⟨W1, hW1, E1, B1, hz1⟩ := mk_ w #[.slice A0 cells.length c0, .slice B0 knobs.length d0, .int .i64 wt] 39
  obtain ⟨W2, hW2, E2, B2, hz2⟩ := mk_ W1 #[.int .i64 kd, .int .i64 x, .int .i64 y, .int .i64 z, .int .u8 t, .int .u8 c] 42
  obtain ⟨W3, hW3, E3, B3, hz3⟩ := mk_ W2 #[.slice A0 cells.length c0, .slice B0 knobs.length d0, .int .i64 wt] 39
  have E02 := E1.trans E2
  have E03 := E02.trans E3
  have B12 := B1.ext E2
  have b1 := B12.cell
  have G1 := great_c [(⟨cells, knobs, wt⟩, ⟨A0, c0, B0, d0⟩)] (some ⟨W2.heap.size, 0, none⟩) 1 none 0 0 W3 (kinds_one (p := ⟨A0, c0, B0, d0⟩) (k := ⟨cells, knobs, wt⟩) B3 ⟨hc.ext E03, hn.ext E03⟩) (by omega)
  have G2 := fun W (E : Ext w W) => great_c qs QA qc none 0 0 W (hk.ext E) (by omega)
  obtain ⟨g1, hg1⟩ : ∃ g, greatB ([((⟨cells, knobs, wt⟩ : Knd), (⟨A0, c0, B0, d0⟩ : KAt))].map (·.1)) 0 = g := ⟨_, rfl⟩
  obtain ⟨g2, hg2⟩ : ∃ g, greatB (qs.map (·.1)) 0 = g := ⟨_, rfl⟩
  rw [hg1] at G1
  have HG1 := Lib.hid G1
  have HG2 : Hid (∀ W, Ext w W → Calls Try.prog 14 #[.slice QA qs.length qc, .agg #[.slice none 0 0]] W fun e w' => e = .returned (.bool g2) ∧ Ext W w') := Lib.hid (by
    rw [← hg2]
    exact G2)
  clear G1 G2 hg1
  clear hz3
  cases g1
  rotate_left
  · clear hg2 hz1 hz2
    go_enter Try.func4, Try.ntmps4
    go_wp2_with fail
    refine HG1.out.mono ?_
    rintro e W4 ⟨rfl, E4⟩
    go_wp2_with fail
    go_ret
    exact ⟨rfl, E03.trans E4⟩
  cases g2
  rotate_left
  · clear hg2 hz1 hz2
    go_enter Try.func4, Try.ntmps4
    go_wp2_with fail
    refine HG1.out.mono ?_
    rintro e W4 ⟨rfl, E4⟩
    go_wp2_with fail
    refine (HG2.out _ (E03.trans E4)).mono ?_
    rintro e W5 ⟨rfl, E5⟩
    go_wp2_with fail
    go_ret
    exact ⟨rfl, (E03.trans E4).trans E5⟩
  obtain ⟨hq1, -, hq2⟩ := greatB_kinds hg2
  rw [List.length_map] at hq1
  have TW := Lib.hid (fun W (E : Ext w W) => twin_c qs QA qc W (hk.ext E) (by omega) (fun q hq => by have := hq2 q.1 (List.mem_map.2 ⟨q, hq, rfl⟩); omega) hnil)
  have CK := Lib.hid (fun W (E : Ext w W) => checkKind_c cells knobs wt A0 c0 B0 d0 W (hc.ext E) (hn.ext E))
  have CR := Lib.hid (fun W (E : Ext w W) => rCheckKind_c cells knobs wt A0 c0 B0 d0 W (hc.ext E) (hn.ext E))
  have CL := Lib.hid (fun W (E : Ext w W) => rCheckKinds_c qs QA qc W (hk.ext E))
  obtain ⟨sl, se, hs1, hs2⟩ := sym_any cells knobs wt A0 c0 B0 d0 w hc hn
  have HS1 := Lib.hid hs1
  have HS2 := Lib.hid hs2
  have HK := Lib.hid hk
  clear hg2 hq2 hs1 hs2 hk hc hn hnil
  clear hz1 hz2
  go_enter Try.func4, Try.ntmps4
  go_wp2_with fail
  refine HG1.out.mono ?_
  rintro e W4 ⟨rfl, E4⟩
  go_wp2_with fail
  refine (HG2.out _ (E03.trans E4)).mono ?_
  rintro e W5 ⟨rfl, E5⟩
  have E := (E03.trans E4).trans E5
  replace B12 := ((B12.ext E3).ext E4).ext E5
  have B25 := ((B2.ext E3).ext E4).ext E5
  clear b1 HG1 HG2 hW1 hW2 hW3 E1 E2 E3 E4 E5 E02 E03 B1 B2 B3
  go_wp2_with fail
  refine (TW.out _ E).mono ?_
  rintro e W6 ⟨TA, tc, qs', rfl, hqq, hT, E6⟩
  replace E := E.trans E6
  have C1 := B12.ext E6
  have C2 := B25.ext E6
  have hTl : qs'.length = qs.length := by have := congrArg List.length hqq; simpa using this
  have CT := Lib.hid (fun x => checkKinds_c qs' TA tc (grow W6 x) (hT.ext ((Ext.refl W6).grow x)))
  have CK' := Lib.hid (fun x => CK.out (grow W6 x) (E.grow x))
  have CR' := Lib.hid (fun x => CR.out (grow W6 x) (E.grow x))
  have CL' := Lib.hid (fun x => CL.out (grow W6 x) (E.grow x))
  rw [hqq, hTl] at CT
  obtain ⟨e1, he1⟩ : ∃ e, kindErr ⟨cells, knobs, wt⟩ = e := ⟨_, rfl⟩
  obtain ⟨e2, he2⟩ : ∃ e, kindsErr (qs.map (·.1)) = e := ⟨_, rfl⟩
  rw [he1] at CK' CR'
  rw [he2] at CT CL'
  obtain ⟨pl, pe, hpl, hp1, hp2⟩ := cells_any qs' qs TA tc QA qc W6 hT (HK.out.ext E) hqq kd x y z t c hby
  obtain ⟨ol, oe, hol, ho1, ho2⟩ := knobs_any qs' qs TA tc QA qc W6 hT (HK.out.ext E) hqq kd x y z t c hby
  obtain ⟨n1, n2, n3, n4, n5, n6, ne, hn1, hn2⟩ := normal_any qs' qs TA tc QA qc W6 hT (HK.out.ext E) hqq kd x y z t c hby
  have SM := Lib.hid (fun W (EW : Ext W6 W) => same_c qs' qs TA QA tc qc W (hT.ext EW) (HK.out.ext (E.trans EW)) hqq)
  rw [hTl] at hp1 ho1 hn1 SM
  have HP1 := Lib.hid hp1
  have HP2 := Lib.hid hp2
  have HO1 := Lib.hid ho1
  have HO2 := Lib.hid ho2
  have HN1 := Lib.hid hn1
  have HN2 := Lib.hid hn2
  clear he1 he2 hp1 hp2 ho1 ho2 hn1 hn2 hT hqq hTl CK CR CL TW E6 B12 B25 HK hby
  have c1 := C1.cell
  go_wp2_with fail
  refine wp_region_grow (by kernel_rfl) (by kernel_rfl) ?_
  repeat (go_big_quiet_step ((first | (go_at_call 16; exact quiet_ext (CK'.out _)) | (go_at_call 17; exact quiet_ext (CR'.out _)) | (go_at_call 18; exact quiet_ext (CT.out _)) | (go_at_call 19; exact quiet_ext (CL'.out _)))))
  refine wpQuiet_nil ?_
  intro W7 hW7
  have E7 : Ext W6 W7 := by
    obtain ⟨x, rfl⟩ := hW7
    exact (Ext.refl _).grow x
  clear hW7
  obtain ⟨hcW7, hfW7, hzW7⟩ := ext_facts E7
  clear hcW7 hfW7 hzW7 CK' CR' CT CL' c1
  have D1 := C1.ext E7
  have D2 := C2.ext E7
  have c1 := D1.cell
  have hW6 := E.size
  go_wp2_with fail
  refine (HS1.out _ (E.trans E7)).mono ?_
  rintro e W8 ⟨SA, sc, rfl, hsa, E8⟩
  have E68 := E7.trans E8
  have c1 := (D1.ext E8).cell
  go_wp2_with fail
  refine (HS2.out _ (E.trans E68)).mono ?_
  rintro e W9 ⟨SB, sd, rfl, hsb, E9⟩
  have E69 := E68.trans E9
  have SI := rSameInts_c SA SB sc sd sl sl W9 (hsa.ext E9) hsb
  rw [eqI_iff.2 rfl] at SI
  clear c1 hsa hsb E7 E8 E9 E68 D1 D2
  go_wp2_with fail
  refine SI.mono ?_
  rintro e W10 ⟨rfl, E10⟩
  have E6a := E69.trans E10
  have c2 := (C2.ext E6a).cell
  clear SI
  go_wp2_with fail
  refine (HP1.out _ E6a).mono ?_
  rintro e W11 ⟨PA, pc, rfl, p1, p2, pX, E11⟩
  have E6b := E6a.trans E11
  clear c2
  have c2 := (C2.ext E6b).cell
  go_wp2_with fail
  refine (HP2.out _ E6b).mono ?_
  rintro e W12 ⟨PB, pd, rfl, q1, q2, qX, E12⟩
  have E6c := E6b.trans E12
  have SC := rSameCells_c PA PB pc pd pl pl W12 ((NewPts.slice (w := W10) p1 p2 pX).ext E12) (NewPts.slice (w := W11) q1 q2 qX)
  rw [eqC_self] at SC
  have HPX := Lib.hid pX
  clear c2 q1 q2 qX pX
  go_wp2_with fail
  refine SC.mono ?_
  rintro e W13 ⟨rfl, E13⟩
  have E6d := E6c.trans E13
  have HE := Lib.hid (E12.trans E13)
  obtain ⟨m1, hm1⟩ : ∃ m, pl.length = m := ⟨_, rfl⟩
  rw [hm1] at hpl ⊢
  have Hm1 := Lib.hid hm1
  have hs10 := E6a.size
  clear hm1 SC E12 E13 E11 E6a E6b E6c E69 E10
  go_wp2_with fail
  go_loopw [85] (fun i wr => ∃ (j : Nat), j ≤ m1 ∧ i = .int .i64 j ∧ Ext W6 wr ∧ (0 < m1 → ∃ g cs, PA = some ⟨g, 0, none⟩ ∧ W6.heap.size ≤ g ∧ Blk wr g 23 cs ∧ ∀ k, k < m1 * 3 → ∃ z : Int, cs[k]? = some (.int .i64 z))) (fun i _ => m1 - (intOf i).toNat)
  case atStart => exact ⟨0, by omega, rfl, E6d, fun h => by
    obtain ⟨g, h1, h2, ex, h3⟩ := HPX.out (by rw [Hm1.out]; exact h)
    exact ⟨g, _, h1, Nat.le_trans hs10 h2, h3.ext HE.out, fun k hk => pts_ints (by rw [Hm1.out]; exact hk)⟩⟩
  case round =>
    clear E6d
    obtain ⟨j, hj, rfl, E6, hX⟩ := hrel
    by_cases hlt : j < m1
    · obtain ⟨g, cs, rfl, hg, BX, hz⟩ := hX (by omega)
      obtain ⟨z0, hz0⟩ := hz (j * 3) (by omega)
      have bx := BX.cell
      have fx := BX.frozen
      have x0 : wr.cell? ⟨g, j * 3, none⟩ = some (.int .i64 z0) := (bx _).trans hz0
      have Hz := Lib.hid hz
      have j1 : (0 : Int) ≤ j := by omega
      have j2 : (j : Int) < m1 := by omega
      clear hz hX bx hz0
      go_wp2_with fail
      go_roundw
      case rel => exact ⟨j + 1, by omega, by go_num, E6.setCell hg _, fun _ => ⟨g, _, rfl, hg, BX.set_ _ _, ints_set Hz.out⟩⟩
      case measure => simp only [intOf]; omega
    · obtain rfl : m1 = j := by omega
      clear hX
      have c2 := (C2.ext E6).cell
      go_wp2_with fail
      refine (HO1.out _ E6).mono ?_
      rintro e V1 ⟨OA, oc, rfl, o1, o2, oX, F1⟩
      have E6v := E6.trans F1
      clear c2
      have c2 := (C2.ext E6v).cell
      go_wp2_with fail
      refine (HO2.out _ E6v).mono ?_
      rintro e V2 ⟨OB, od, rfl, ys, yb, F2⟩
      have E6w := E6v.trans F2
      have hN : 0 < ol.length → ∃ g, OA = some ⟨g, 0, none⟩ ∧ W6.heap.size ≤ g ∧ RowX V2 g 68 (ol.map Knb.cs) ∧ ∀ q, OB = some q → ¬ q.block = g := fun h => by
        obtain ⟨g, h1, h2, h3⟩ := oX h
        refine ⟨g, h1, Nat.le_trans E6.size h2, h3.ext F2, fun q hq e => ?_⟩
        have := yb q hq
        have := h3.lt
        omega
      have HN := Lib.hid hN
      obtain ⟨m2, hm2⟩ : ∃ m, ol.length = m := ⟨_, rfl⟩
      rw [hm2] at hol ys ⊢
      have Hm2 := Lib.hid hm2
      clear c2 hN o1 o2 oX yb F1 F2 hm2 E6v E6
      go_wp2_with fail
      go_loopw [121] (fun i wr => ∃ (j : Nat), j ≤ m2 ∧ i = .int .i64 j ∧ Ext W6 wr ∧ SliceIs wr OB m2 od 5 (ol.map Knb.cs) ∧ (0 < m2 → ∃ g cs, OA = some ⟨g, 0, none⟩ ∧ W6.heap.size ≤ g ∧ (∀ q, OB = some q → ¬ q.block = g) ∧ Blk wr g 68 cs ∧ ∀ k u, j * 5 ≤ k → (rowsA (ol.map Knb.cs))[k]? = some u → cs[k]? = some u)) (fun i _ => m2 - (intOf i).toNat)
      case atStart => exact ⟨0, by omega, rfl, E6w, ys, fun h => by
        obtain ⟨g, h1, h2, ⟨ex, h3⟩, h4⟩ := HN.out (by rw [Hm2.out]; exact h)
        exact ⟨g, _, h1, h2, h4, h3, fun k u _ hu => by rw [Array.getElem?_append_left (Array.getElem?_eq_some_iff.1 hu).1]; exact hu⟩⟩
      case round =>
        clear E6w ys
        obtain ⟨k, hk, rfl, E6, hY, hX⟩ := hrel
        by_cases hlk : k < m2
        · obtain ⟨g, cs, rfl, hg, hne, BX, hcs⟩ := hX (by omega)
          have hpk : ol[k]? = some (ol[k]'(by rw [Hm2.out]; exact hlk)) := List.getElem?_eq_getElem _
          obtain ⟨p, hp⟩ : ∃ p, ol[k]'(by rw [Hm2.out]; exact hlk) = p := ⟨_, rfl⟩
          rw [hp] at hpk
          have hr : (ol.map Knb.cs)[k]? = some p.cs := by rw [List.getElem?_map, hpk]; rfl
          have bx := BX.cell
          have fx := BX.frozen
          have x0 : wr.cell? ⟨g, k * 5, none⟩ = some (.int .i64 p.at_.x) := (bx _).trans (hcs _ _ (by omega) (rowsA_get (knbs_wide ol) hr (j := 0) rfl))
          have x1 : wr.cell? ⟨g, k * 5 + 1, none⟩ = some (.int .i64 p.at_.y) := (bx _).trans (hcs _ _ (by omega) (rowsA_get (knbs_wide ol) hr (j := 1) rfl))
          have x2 : wr.cell? ⟨g, k * 5 + 2, none⟩ = some (.int .i64 p.at_.z) := (bx _).trans (hcs _ _ (by omega) (rowsA_get (knbs_wide ol) hr (j := 2) rfl))
          have x3 : wr.cell? ⟨g, k * 5 + 3, none⟩ = some (.int .u8 p.dir) := (bx _).trans (hcs _ _ (by omega) (rowsA_get (knbs_wide ol) hr (j := 3) rfl))
          have x4 : wr.cell? ⟨g, k * 5 + 4, none⟩ = some (.int .u8 p.sort) := (bx _).trans (hcs _ _ (by omega) (rowsA_get (knbs_wide ol) hr (j := 4) rfl))
          obtain ⟨yb, yoff, rfl, hyb, yc⟩ := hY.cells (by omega)
          have y0 := yc k _ hr 0 _ rfl
          have y1 := yc k _ hr 1 _ rfl
          have y2 := yc k _ hr 2 _ rfl
          have y3 := yc k _ hr 3 _ rfl
          have y4 := yc k _ hr 4 _ rfl
          simp only [Nat.add_zero] at y0
          have hneq := knb_same p
          have k1 : (0 : Int) ≤ k := by omega
          have k2 : (k : Int) < m2 := by omega
          have Hcs := Lib.hid hcs
          have HY := Lib.hid hY
          have Hne := Lib.hid hne
          clear hcs hX bx hpk hp hr yc hY hne fx
          go_upto_region 26 with (fail)
          refine wp_region_grow (by kernel_rfl) (by kernel_rfl) ?_
          repeat (go_big_quiet_step (fail))
          refine wpQuiet_nil ?_
          intro U1 hU1
          have F1 : Ext wr U1 := by
            obtain ⟨x, rfl⟩ := hU1
            exact (Ext.refl _).grow x
          clear hU1
          obtain ⟨hcU1, hfU1, hzU1⟩ := ext_facts F1
          have BX1 := BX.ext F1
          have x3' := F1.cell x3
          have fx := BX1.frozen
          have E61 := E6.trans F1
          clear hcU1 hfU1 hzU1 x0 x1 x2 x3 x4 y0 y1 y2 y3 y4 hneq BX
          go_wp2_with fail
          go_roundw
          case rel => exact ⟨k + 1, by omega, by go_num, E61.setCell hg _, (HY.out.ext F1).only ((Only.refl (fun i => i = g) _).setCell (fun _ => rfl) _) (fun q hq => Hne.out q hq), fun _ => ⟨g, _, rfl, hg, Hne.out, BX1.set_ _ _, fun i u hi hu => by
            rw [Array.getElem?_setIfInBounds_ne (by omega)]
            exact Hcs.out i u (by omega) hu⟩⟩
          case measure => simp only [intOf]; omega
        · obtain rfl : m2 = k := by omega
          clear hX hY
          have c2 := (C2.ext E6).cell
          go_wp2_with fail
          refine (HN1.out _ E6).mono ?_
          rintro e U1 ⟨rfl, F1⟩
          obtain ⟨U2, hU2, F2, BN, hzU⟩ := mk_ U1 #[.int .i64 n1, .int .i64 n2, .int .i64 n3, .int .i64 n4, .int .u8 n5, .int .u8 n6] 42
          have E6u := (E6.trans F1).trans F2
          clear c2 hzU
          have c2 := (C2.ext E6u).cell
          go_wp2_with fail
          refine (HN2.out _ E6u).mono ?_
          rintro e U3 ⟨rfl, F3⟩
          obtain ⟨U4, hU4, F4, BM, hzU⟩ := mk_ U3 #[.int .i64 n1, .int .i64 n2, .int .i64 n3, .int .i64 n4, .int .u8 n5, .int .u8 n6] 42
          have E6z := (E6u.trans F3).trans F4
          have bn := ((BN.ext F3).ext F4).cell
          have bm := BM.cell
          have hbs := brk_same n1 n2 n3 n4 n5 n6
          have SK := SM.out U4 E6z
          clear c2 hzU hU2
          go_wp2_with fail
          refine SK.mono ?_
          rintro e U5 ⟨rfl, F5⟩
          go_wp2_with fail
          go_ret
          exact ⟨rfl, (E.trans E6z).trans F5⟩
end Go.Proofs.Ytenigkngmdofiaa

namespace Go.Proofs.Ytenigkngmdofiaa
open Go.RowKit Go.ChangeShapes Go.WideShapes Go.ChangeAt Go.Deep

theorem Try.own : ownKnob Try.prog.godebug = none := by kernel_rfl
theorem Try.laidOut : laidOutB Try.prog = true := by kernel_rfl

theorem list_of {α : Type} (p : Nat → α → Prop) (n : Nat) (h : ∀ i, i < n → ∃ x, p i x) : ∃ l : List α, l.length = n ∧ ∀ i x, l[i]? = some x → p i x := by
  induction n with
  | zero => exact ⟨[], rfl, fun i x hx => by simp at hx⟩
  | succ n ih =>
    obtain ⟨l, hl, hp⟩ := ih (fun i hi => h i (by omega))
    obtain ⟨x, hx⟩ := h n (by omega)
    refine ⟨l ++ [x], by simp [hl], fun i y hy => ?_⟩
    rcases Nat.lt_or_ge i n with hi | hi
    · rw [List.getElem?_append_left (by omega)] at hy
      exact hp i y hy
    · rw [List.getElem?_append_right (by omega), hl] at hy
      obtain rfl : i = n := by
        rcases Nat.eq_or_lt_of_le hi with h' | h'
        · exact h'.symm
        · rw [List.getElem?_eq_none (by simp; omega)] at hy; cases hy
      simp at hy
      subst hy
      exact hx

section
variable {H : Type} {enc : TypeId × Value → H} {P : Program} {w : World} {base : Nat} {spare : Nat → Bool} {held : Bool}

theorem rows_of_trod {t e : TypeId} {fuel sz : Nat} {A : Option Addr} {n cap : Nat} {x : DataW H × List MemPlace} (ht : P.underlying t = some (.slice e)) (hC : P.cellsOf e = sz) (hsz : 0 < sz)
    (h : DataW.trod enc P w base spare held fuel t [.slice A n cap] = some x) :
    ∃ rows : List (List Value), SliceIs w A n cap sz rows ∧ ∀ r ∈ rows, ∃ (m : Nat) (y : DataW H × List MemPlace), DataW.trod enc P w base spare held m e r = some y := by
  rcases open_slice ht h with ⟨h0, _⟩ | ⟨a, len, cap', m, fl, D, Pl, hcs, _, hl, hm, hmm, _, hi⟩
  · simp only [List.cons.injEq, Value.slice.injEq, and_true] at h0
    obtain ⟨rfl, rfl, rfl⟩ := h0
    exact ⟨[], ⟨rfl, Nat.le_refl _, by unfold maxLen; omega, by simp, fun h => by omega⟩, by simp⟩
  · simp only [List.cons.injEq, Value.slice.injEq, and_true] at hcs
    obtain ⟨rfl, rfl, rfl⟩ := hcs
    rw [hC] at hi
    have hnm : n ≤ m := by rw [hmm]; split <;> omega
    obtain ⟨rows, hlen, hrow⟩ := list_of (fun i r => w.cells? base (a.add (i * sz)) sz = some r ∧ DataW.trod enc P w base spare held fl e r = some (D i, Pl i)) n (fun i hin => hi i (by omega))
    refine ⟨rows, ⟨hlen, hl, hm, ?_, fun hn => ?_⟩, ?_⟩
    · intro r hr
      obtain ⟨i, hir⟩ := List.getElem?_of_mem hr
      exact (World.cells?_some (hrow i r hir).1).2.1
    · have h0 := hi 0 (by omega)
      obtain ⟨cs0, hc0, _⟩ := h0
      obtain ⟨_, hl0, hat0⟩ := World.cells?_some hc0
      have hcell0 := hat0 0 hsz
      have hsome : (w.cell? a).isSome = true := by
        have : (a.add (0 * sz)).add 0 = a := by simp [Addr.add]
        rw [this] at hcell0
        rw [hcell0, List.getElem?_eq_getElem (by omega)]
        rfl
      obtain ⟨b, off, spot⟩ := a
      have hspot : spot = none := by
        cases spot with
        | none => rfl
        | some q =>
          exfalso
          unfold World.cell? at hsome
          simp only at hsome
          split at hsome <;> simp at hsome
      subst hspot
      obtain ⟨u, hu⟩ := Option.isSome_iff_exists.1 hsome
      refine ⟨b, off, rfl, World.block_lt_of_cell? w _ hu, fun i r hr j u hu => ?_⟩
      obtain ⟨_, hlr, hat⟩ := World.cells?_some (hrow i r hr).1
      have hj : j < sz := by
        rcases Nat.lt_or_ge j r.length with h' | h'
        · omega
        · rw [List.getElem?_eq_none h'] at hu; cases hu
      have hadd : ((⟨b, off, none⟩ : Addr).add (i * sz)).add j = ⟨b, off + i * sz + j, none⟩ := by
        unfold Addr.add
        by_cases h1 : i * sz = 0 <;> by_cases h2 : j = 0 <;> simp [h1, h2]
      rw [← hadd, hat j hj]
      exact hu
    · intro r hr
      obtain ⟨i, hir⟩ := List.getElem?_of_mem hr
      exact ⟨_, _, (hrow i r hir).2⟩

/-- All arguments read behind the call as they did, where the world has only grown. -/
theorem trodAll_ext {ts : List TypeId} (hl : laidOutB P = true) {W W' : World} (hb : Ext W W') :
    ∀ {vs : List Value} {ds : List (DataW H)} {ps : List MemPlace}, (∀ t ∈ ts, P.readableRec t = true ∧ t < P.types.size) → DataW.TrodAll enc P W 0 (fun _ => true) true ts vs ds ps → (∀ x ∈ ps, x.block < W.heap.size) →
      DataW.TrodAll enc P W' 0 (fun b => decide (b < W.heap.size)) true ts vs ds ps := by
  induction ts with
  | nil =>
    intro vs ds ps _ h _
    obtain ⟨rfl, rfl, rfl⟩ := trodAll_nil h
    exact trodAll_mk0
  | cons t ts ih =>
    intro vs ds ps hr h hlt
    obtain ⟨v, vs', d, ds', p, q, rfl, rfl, rfl, hd, hrest⟩ := trodAll_cons h
    exact ⟨p, q, Below.trod hl (hr t (by simp)).1 (hr t (by simp)).2 hd hb (fun x hx => hlt x (by simp [hx])), ih (fun t' ht' => hr t' (by simp [ht'])) hrest (fun x hx => hlt x (by simp [hx])), rfl⟩
end
end Go.Proofs.Ytenigkngmdofiaa

namespace Go.Proofs.Ytenigkngmdofiaa
open Go.RowKit Go.ChangeShapes Go.WideShapes Go.ChangeAt Go.Deep Go.Joins

theorem cells_u8 : Try.prog.cellsOf 5 = 1 := by kernel_rfl
theorem cells_int : Try.prog.cellsOf 3 = 1 := by kernel_rfl
theorem cells_cell : Try.prog.cellsOf 23 = 3 := by kernel_rfl
theorem cells_knob : Try.prog.cellsOf 68 = 5 := by kernel_rfl
theorem cells_kind : Try.prog.cellsOf 39 = 3 := by kernel_rfl
theorem cells_brick : Try.prog.cellsOf 42 = 6 := by kernel_rfl
theorem cells_scell : Try.prog.cellsOf 36 = 1 := by kernel_rfl
theorem cells_sknob : Try.prog.cellsOf 37 = 1 := by kernel_rfl
theorem rows_map {α : Type} (f : α → List Value) {rows : List (List Value)} {xs : List α} (hl : xs.length = rows.length) (h : ∀ (i : Nat) (x : α), xs[i]? = some x → rows[i]? = some (f x)) : rows = xs.map f := by
  apply List.ext_getElem?
  intro i
  rw [List.getElem?_map]
  rcases Nat.lt_or_ge i rows.length with hi | hi
  · have : xs[i]? = some xs[i] := List.getElem?_eq_getElem (by omega)
    rw [this, h i _ this]
    rfl
  · rw [List.getElem?_eq_none hi, List.getElem?_eq_none (by omega)]
    rfl
section
variable {H : Type} {enc : TypeId × Value → H} {w : World} {base : Nat} {spare : Nat → Bool} {held : Bool}

set_option maxRecDepth 100000 in
theorem pt_of_trod {fuel : Nat} {c0 c1 c2 : Value} {x : DataW H × List MemPlace} (h : DataW.trod enc Try.prog w base spare held fuel 23 [c0, c1, c2] = some x) : ∃ p : Pt, [c0, c1, c2] = p.cs := by
  obtain ⟨zs, m'', _, _, _, hzl, hg⟩ := DataW.trod_struct Try.underlying23 h
  have g0 := hg 0 _ rfl
  have g1 := hg 1 _ rfl
  have g2 := hg 2 _ rfl
  match zs, hzl with
  | [z0, z1, z2], _ =>
    obtain ⟨x, h1, _, _⟩ := DataW.trod_int Try.underlying3 g0
    obtain ⟨y, h2, _, _⟩ := DataW.trod_int Try.underlying3 g1
    obtain ⟨z, h3, _, _⟩ := DataW.trod_int Try.underlying3 g2
    change List.take (Try.prog.cellsOf 3) [c0, c1, c2] = _ at h1
    change List.take (Try.prog.cellsOf 3) [c1, c2] = _ at h2
    change List.take (Try.prog.cellsOf 3) [c2] = _ at h3
    rw [cells_int] at h1 h2 h3
    simp at h1 h2 h3
    subst h1 h2 h3
    exact ⟨⟨x, y, z⟩, rfl⟩
set_option maxRecDepth 100000 in
theorem cells_of_trod {fuel n cap : Nat} {A : Option Addr} {x : DataW H × List MemPlace}
    (h : DataW.trod enc Try.prog w base spare held fuel 36 [.slice A n cap] = some x) : ∃ l : List Pt, l.length = n ∧ Cells w A cap l := by
  obtain ⟨rows, hS, hr⟩ := rows_of_trod Try.underlying36 cells_cell (by omega) h
  obtain ⟨l, hl, hp⟩ := list_of (fun i (p : Pt) => rows[i]? = some p.cs) n (fun i hi => by
    have hi' : i < rows.length := by rw [hS.len]; exact hi
    have hget : rows[i]? = some rows[i] := List.getElem?_eq_getElem hi'
    obtain ⟨m, y, hy⟩ := hr _ (List.mem_of_getElem? hget)
    have hlen := hS.wide _ (List.mem_of_getElem? hget)
    generalize rows[i] = r at hget hy hlen
    match r, hlen with
    | [c0, c1, c2], _ =>
      obtain ⟨p, hp⟩ := pt_of_trod hy
      exact ⟨p, by rw [hget, hp]⟩)
  refine ⟨l, hl, ?_⟩
  have := rows_map Pt.cs (hl.trans hS.len.symm) hp
  unfold Cells
  rw [← this, hl]
  exact hS
set_option maxRecDepth 100000 in
theorem knobs_of_trod {fuel n cap : Nat} {A : Option Addr} {x : DataW H × List MemPlace}
    (h : DataW.trod enc Try.prog w base spare held fuel 37 [.slice A n cap] = some x) : ∃ l : List Knb, l.length = n ∧ Knobs w A cap l := by
  obtain ⟨rows, hS, hr⟩ := rows_of_trod Try.underlying37 cells_knob (by omega) h
  obtain ⟨l, hl, hp⟩ := list_of (fun i (p : Knb) => rows[i]? = some p.cs ∧ p.byte) n (fun i hi => by
    have hi' : i < rows.length := by rw [hS.len]; exact hi
    have hget : rows[i]? = some rows[i] := List.getElem?_eq_getElem hi'
    obtain ⟨m, y, hy⟩ := hr _ (List.mem_of_getElem? hget)
    obtain ⟨xs, m', _, _, hlen, hxl, hf⟩ := DataW.trod_struct Try.underlying68 hy
    rw [cells_knob] at hlen
    generalize rows[i] = r at hget hy hlen hf
    match r, hlen with
    | [c0, c1, c2, c3, c4], _ =>
      have f0 := hf 0 _ rfl
      have f1 := hf 1 _ rfl
      have f2 := hf 2 _ rfl
      match xs, hxl with
      | [y0, y1, y2], _ =>
        change DataW.trod enc _ _ _ _ _ _ _ (List.take (Try.prog.cellsOf 23) [c0, c1, c2, c3, c4]) = _ at f0
        rw [cells_cell] at f0
        obtain ⟨p, hp⟩ := pt_of_trod f0
        obtain ⟨d, e1, _, wd⟩ := DataW.trod_int Try.underlying5 f1
        obtain ⟨s, e2, _, ws⟩ := DataW.trod_int Try.underlying5 f2
        change List.take (Try.prog.cellsOf 5) [c3, c4] = _ at e1
        change List.take (Try.prog.cellsOf 5) [c4] = _ at e2
        rw [cells_u8] at e1 e2
        simp at e1 e2
        subst e1 e2
        unfold Pt.cs at hp
        simp only [List.cons.injEq, and_true] at hp
        obtain ⟨rfl, rfl, rfl⟩ := hp
        exact ⟨⟨p, d, s⟩, hget, bounds_u8 wd, bounds_u8 ws⟩)
  refine ⟨l, hl, ?_, fun x hm => ?_⟩
  · have := rows_map Knb.cs (hl.trans hS.len.symm) fun i x hx => (hp i x hx).1
    rw [← this, hl]
    exact hS
  · obtain ⟨i, hi⟩ := List.getElem?_of_mem hm
    exact (hp i x hi).2
theorem slice_form' {t e : TypeId} (ht : Try.prog.underlying t = some (.slice e)) {fuel : Nat} {c : Value} {x : DataW H × List MemPlace} (h : DataW.trod enc Try.prog w base spare held fuel t [c] = some x) : ∃ A n ca, c = .slice A n ca ∧ (A = none → ca = 0) := by
  rcases open_slice ht h with ⟨h, _⟩ | ⟨a, len, cap', _, _, _, _, h, _⟩
  · exact ⟨none, 0, 0, by simpa using h, fun _ => rfl⟩
  · exact ⟨some a, len, cap', by simpa using h, fun h => by cases h⟩
set_option maxRecDepth 100000 in
theorem kind_of_trod {fuel : Nat} {c0 c1 c2 : Value} {x : DataW H × List MemPlace} (h : DataW.trod enc Try.prog w base spare held fuel 39 [c0, c1, c2] = some x) :
    ∃ (k : Knd) (p : KAt), [c0, c1, c2] = k.cs p ∧ KindAt w p k ∧ (p.A = none → p.ca = 0) ∧ (p.B = none → p.cb = 0) := by
  obtain ⟨zs, m'', _, _, _, hzl, hg⟩ := DataW.trod_struct Try.underlying39 h
  have g0 := hg 0 _ rfl
  have g1 := hg 1 _ rfl
  have g2 := hg 2 _ rfl
  match zs, hzl with
  | [z0, z1, z2], _ =>
    change DataW.trod enc _ _ _ _ _ _ _ (List.take (Try.prog.cellsOf 36) [c0, c1, c2]) = _ at g0
    change DataW.trod enc _ _ _ _ _ _ _ (List.take (Try.prog.cellsOf 37) [c1, c2]) = _ at g1
    rw [cells_scell] at g0
    rw [cells_sknob] at g1
    change DataW.trod enc _ _ _ _ _ _ _ [c0] = _ at g0
    change DataW.trod enc _ _ _ _ _ _ _ [c1] = _ at g1
    obtain ⟨A, n, ca, rfl, hA⟩ := slice_form' Try.underlying36 g0
    obtain ⟨B, m, cb, rfl, hB⟩ := slice_form' Try.underlying37 g1
    obtain ⟨cells, rfl, hc⟩ := cells_of_trod g0
    obtain ⟨knobs, rfl, hn⟩ := knobs_of_trod g1
    obtain ⟨wt, h3, _, _⟩ := DataW.trod_int Try.underlying3 g2
    change List.take (Try.prog.cellsOf 3) [c2] = _ at h3
    rw [cells_int] at h3
    simp at h3
    subst h3
    exact ⟨⟨cells, knobs, wt⟩, ⟨A, ca, B, cb⟩, rfl, ⟨hc, hn⟩, hA, hB⟩
set_option maxRecDepth 100000 in
theorem kinds_of_trod {fuel n cap : Nat} {A : Option Addr} {x : DataW H × List MemPlace}
    (h : DataW.trod enc Try.prog w base spare held fuel 40 [.slice A n cap] = some x) : ∃ qs : List (Knd × KAt), qs.length = n ∧ Kinds w A cap qs ∧ ∀ q ∈ qs, (q.2.A = none → q.2.ca = 0) ∧ (q.2.B = none → q.2.cb = 0) := by
  obtain ⟨rows, hS, hr⟩ := rows_of_trod Try.underlying40 cells_kind (by omega) h
  obtain ⟨l, hl, hp⟩ := list_of (fun i (q : Knd × KAt) => rows[i]? = some (q.1.cs q.2) ∧ KindAt w q.2 q.1 ∧ (q.2.A = none → q.2.ca = 0) ∧ (q.2.B = none → q.2.cb = 0)) n (fun i hi => by
    have hi' : i < rows.length := by rw [hS.len]; exact hi
    have hget : rows[i]? = some rows[i] := List.getElem?_eq_getElem hi'
    obtain ⟨m, y, hy⟩ := hr _ (List.mem_of_getElem? hget)
    have hlen := hS.wide _ (List.mem_of_getElem? hget)
    generalize rows[i] = r at hget hy hlen
    match r, hlen with
    | [c0, c1, c2], _ =>
      obtain ⟨k, p, hp, hk⟩ := kind_of_trod hy
      exact ⟨(k, p), by rw [hget, hp], hk⟩)
  refine ⟨l, hl, ⟨?_, fun q hm => ?_⟩, fun q hm => ?_⟩
  · have := rows_map (fun q : Knd × KAt => q.1.cs q.2) (hl.trans hS.len.symm) fun i x hx => (hp i x hx).1
    rw [← this, hl]
    exact hS
  · obtain ⟨i, hi⟩ := List.getElem?_of_mem hm
    exact (hp i q hi).2.1
  · obtain ⟨i, hi⟩ := List.getElem?_of_mem hm
    exact (hp i q hi).2.2
set_option maxRecDepth 100000 in
theorem brick_of_trod {fuel : Nat} {c0 c1 c2 c3 c4 c5 : Value} {x : DataW H × List MemPlace} (h : DataW.trod enc Try.prog w base spare held fuel 42 [c0, c1, c2, c3, c4, c5] = some x) :
    ∃ b : Brk, [c0, c1, c2, c3, c4, c5] = b.cs ∧ b.byte := by
  obtain ⟨zs, m'', _, _, _, hzl, hg⟩ := DataW.trod_struct Try.underlying42 h
  have g0 := hg 0 _ rfl
  have g1 := hg 1 _ rfl
  have g2 := hg 2 _ rfl
  have g3 := hg 3 _ rfl
  match zs, hzl with
  | [z0, z1, z2, z3], _ =>
    change DataW.trod enc _ _ _ _ _ _ _ (List.take (Try.prog.cellsOf 23) [c1, c2, c3, c4, c5]) = _ at g1
    rw [cells_cell] at g1
    obtain ⟨p, hp⟩ := pt_of_trod g1
    obtain ⟨k, h1, _, _⟩ := DataW.trod_int Try.underlying3 g0
    obtain ⟨t, h2, _, wt⟩ := DataW.trod_int Try.underlying5 g2
    obtain ⟨c, h3, _, wc⟩ := DataW.trod_int Try.underlying5 g3
    change List.take (Try.prog.cellsOf 3) [c0, c1, c2, c3, c4, c5] = _ at h1
    change List.take (Try.prog.cellsOf 5) [c4, c5] = _ at h2
    change List.take (Try.prog.cellsOf 5) [c5] = _ at h3
    rw [cells_int] at h1
    rw [cells_u8] at h2 h3
    simp at h1 h2 h3
    subst h1 h2 h3
    unfold Pt.cs at hp
    simp only [List.cons.injEq, and_true] at hp
    obtain ⟨rfl, rfl, rfl⟩ := hp
    exact ⟨⟨k, p, t, c⟩, rfl, bounds_u8 wt, bounds_u8 wc⟩
set_option maxRecDepth 100000 in
theorem bricks_of_trod {fuel n cap : Nat} {A : Option Addr} {x : DataW H × List MemPlace}
    (h : DataW.trod enc Try.prog w base spare held fuel 44 [.slice A n cap] = some x) : ∃ l : List Brk, l.length = n ∧ Bricks w A cap l := by
  obtain ⟨rows, hS, hr⟩ := rows_of_trod Try.underlying44 cells_brick (by omega) h
  obtain ⟨l, hl, hp⟩ := list_of (fun i (p : Brk) => rows[i]? = some p.cs ∧ p.byte) n (fun i hi => by
    have hi' : i < rows.length := by rw [hS.len]; exact hi
    have hget : rows[i]? = some rows[i] := List.getElem?_eq_getElem hi'
    obtain ⟨m, y, hy⟩ := hr _ (List.mem_of_getElem? hget)
    have hlen := hS.wide _ (List.mem_of_getElem? hget)
    generalize rows[i] = r at hget hy hlen
    match r, hlen with
    | [c0, c1, c2, c3, c4, c5], _ =>
      obtain ⟨b, hb, hbb⟩ := brick_of_trod hy
      exact ⟨b, by rw [hget, hb], hbb⟩)
  refine ⟨l, hl, ?_, fun x hm => ?_⟩
  · have := rows_map Brk.cs (hl.trans hS.len.symm) fun i x hx => (hp i x hx).1
    rw [← this, hl]
    exact hS
  · obtain ⟨i, hi⟩ := List.getElem?_of_mem hm
    exact (hp i x hi).2
set_option maxRecDepth 100000 in
theorem open_six {r : Reach} {b0 : Nat} {t : TypeId} {fs : Array Field} {v : Value} {d : DataW H} {p : List MemPlace} (hs : Try.prog.underlying t = some (.struct fs)) (hC : Try.prog.cellsOf t = 6)
    (hv : Value.okWide Try.prog w r b0 t v) (h : DataW.Trod enc Try.prog w base spare held t v d p) : ∃ c0 c1 c2 c3 c4 c5 fuel, v = .agg #[c0, c1, c2, c3, c4, c5] ∧ DataW.trod enc Try.prog w base spare held fuel t [c0, c1, c2, c3, c4, c5] = some (d, p) := by
  obtain ⟨cs, rfl, hsz⟩ := okWide_struct hs hv
  rw [hC] at hsz
  obtain ⟨l⟩ := cs
  simp only [List.size_toArray] at hsz
  match l, hsz with
  | [c0, c1, c2, c3, c4, c5], _ =>
    obtain ⟨fuel, hf⟩ := h
    exact ⟨c0, c1, c2, c3, c4, c5, fuel, rfl, by simpa [Value.cells] using hf⟩
set_option maxRecDepth 100000 in
theorem open_three {r : Reach} {b0 : Nat} {t : TypeId} {fs : Array Field} {v : Value} {d : DataW H} {p : List MemPlace} (hs : Try.prog.underlying t = some (.struct fs)) (hC : Try.prog.cellsOf t = 3)
    (hv : Value.okWide Try.prog w r b0 t v) (h : DataW.Trod enc Try.prog w base spare held t v d p) : ∃ c0 c1 c2 fuel, v = .agg #[c0, c1, c2] ∧ DataW.trod enc Try.prog w base spare held fuel t [c0, c1, c2] = some (d, p) := by
  obtain ⟨cs, rfl, hsz⟩ := okWide_struct hs hv
  rw [hC] at hsz
  obtain ⟨l⟩ := cs
  simp only [List.size_toArray] at hsz
  match l, hsz with
  | [c0, c1, c2], _ =>
    obtain ⟨fuel, hf⟩ := h
    exact ⟨c0, c1, c2, fuel, rfl, by simpa [Value.cells] using hf⟩
end
end Go.Proofs.Ytenigkngmdofiaa

namespace Go.Proofs.Ytenigkngmdofiaa
open Go.RowKit Go.ChangeShapes Go.WideShapes Go.ChangeAt Go.Deep Go.Joins

set_option maxRecDepth 100000 in
theorem kinds_lifted (os : Os) (started : os.Started) (H : Type) (enc : TypeId × Value → H) :
    ReturnsInHanded {} Try.checked os 4 .any (Rows.latticeKindsSpec.pre6 enc Try.prog Try.f4 Rows.latticeKindsRow.domain false) (Rows.latticeKindsSpec.post enc Try.prog Try.f4 false true false false) := by
  refine returnsInHanded_of_change (C := Try.checked) Try.own started (by kernel_rfl) Try.func4
    (ChangeSpec.witness6 (enc := enc) (C := Try.checked) false ⟨#[], #[.agg #[.slice none 0 0, .slice none 0 0, .int .i64 0], .slice none 0 0, .agg #[.int .i64 0, .int .i64 0, .int .i64 0, .int .i64 0, .int .u8 0, .int .u8 0]], []⟩ 8 (by kernel_rfl) (by kernel_rfl) (by kernel_rfl) (by kernel_rfl)) ?_
  intro W base args ds gs before hval0 hW hcnd _
  have hval : ∀ (j : Nat) t v, Try.f4.params[j]? = some t → args[j]? = some v → Value.okWide Try.prog W .any base t v := hval0
  have hW' := hW
  obtain ⟨p, q, hA0, hV, rfl, hfz, hnd⟩ := hW
  have hA : DataW.TrodAll enc Try.prog W 0 (fun _ => true) true Try.f4.params.toList args.toList ds p := hA0
  rw [Try.params4] at hA hval
  have hAll := hA
  obtain ⟨v0, v1, v2, d0, d1, d2, p0, p1, p2, rfl, rfl, rfl, h0, h1, h2⟩ := trodAll_three hA
  obtain ⟨rfl, rfl⟩ := trodVars_none hV
  obtain ⟨c0, c1, c2, fu0, rfl, hf0⟩ := open_three Try.underlying39 cells_kind (hval 0 39 v0 rfl rfl) h0
  obtain ⟨⟨cells, knobs, wt⟩, ⟨A, ca, B, cb⟩, hk0, ⟨hc, hn⟩, -, -⟩ := kind_of_trod hf0
  unfold Knd.cs at hk0
  simp only [List.cons.injEq, and_true] at hk0 hc hn
  obtain ⟨rfl, rfl, rfl⟩ := hk0
  obtain ⟨C, n1, cc, rfl⟩ := okWide_slice Try.underlying40 (hval 1 40 v1 rfl rfl)
  obtain ⟨fu1, hf1⟩ := h1
  obtain ⟨qs, rfl, hk, hnil⟩ := kinds_of_trod (by simpa [Value.cells] using hf1)
  obtain ⟨b0, b1, b2, b3, b4, b5, fu2, rfl, hf2⟩ := open_six Try.underlying42 cells_brick (hval 2 42 v2 rfl rfl) h2
  obtain ⟨⟨kd, ⟨x, y, z⟩, t, c⟩, hb0, hby⟩ := brick_of_trod hf2
  unfold Brk.cs at hb0
  simp only [List.cons.injEq, and_true] at hb0
  obtain ⟨rfl, rfl, rfl, rfl, rfl, rfl⟩ := hb0
  clear hA0 hval0
  simp only [List.append_nil] at hW' hAll
  have hlt : ∀ q ∈ p0 ++ p1 ++ p2, q.block < W.heap.size := fun q hq => hW'.lt q hq
  refine (kinds_walk cells knobs wt A ca B cb qs C cc kd x y z t c hby W hc hn hk hnil).mono fun e W' ⟨he, hE⟩ => ?_
  subst he
  refine ⟨_, rfl, ?_⟩
  refine ⟨_, _, _, [], p0 ++ p1 ++ p2, [], hW', ?_, ?_, rfl, hE.frame _, fun h => by cases h⟩
  · exact trodAll_mk1 (shut_bool Try.underlying4 true)
  · exact trodAll_ext (ts := [39, 40, 42]) Try.laidOut hE (by
      intro t ht
      simp only [List.mem_cons, List.not_mem_nil, or_false] at ht
      rcases ht with rfl | rfl | rfl <;> exact ⟨by kernel_rfl, of_decide_eq_true (by kernel_rfl)⟩) hAll hlt

theorem latticeKinds_holds : Rows.LatticeKindsSaid :=
  OpenClaim.holds_of_wide 4 Try.f4 rfl rfl rfl rfl rfl rfl rfl ⟨rfl, rfl, rfl, rfl, rfl⟩ rfl rfl rfl rfl rfl (by kernel_rfl) Try.func4 (by kernel_rfl)
    (of_decide_eq_true (by kernel_rfl)) (by unfold Func.isWrapper; rw [if_neg (of_decide_eq_false (by kernel_rfl))]; exact ⟨rfl, rfl⟩)
    (fun os started H enc _ => kinds_lifted os started H enc)
#print axioms latticeKinds_holds
end Go.Proofs.Ytenigkngmdofiaa
