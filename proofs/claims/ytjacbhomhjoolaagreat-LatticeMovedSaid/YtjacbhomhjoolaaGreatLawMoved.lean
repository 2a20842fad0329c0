/- The given statement LatticeMovedSaid: for every input the law returns true, and each argument reads behind the call as it did. No conditions. -/
import Derived.Test.YtjacbhomhjoolaaGreatBAlive
import Derived.Test.YtjacbhomhjoolaaGreatBTouch
import Derived.Test.YtjacbhomhjoolaaGreatBMoved
import Derived.Test.YtjacbhomhjoolaaGreatBApi
import Derived.Test.YtjacbhomhjoolaaGreatBMove
import Derived.Test.YtjacbhomhjoolaaGreatBLinks
import Derived.Test.YtjacbhomhjoolaaGreatBLinkS
import Derived.Test.YtjacbhomhjoolaaGreatBLib
import Derived.Test.YtjacbhomhjoolaaGreatBOpen
import Derived.Test.YtjacbhomhjoolaaGreatBOpenN
namespace Go.Proofs.YtjacbhomhjoolaaGreat
open Go.RowKit

theorem great_mv {qs : List (Knd × KAt)} {A : Option Addr} {cap : Nat} {B : Option Addr} {n cb : Nat} {r : Bool} (h : greatB (qs.map (·.1)) n = r) {w : World} (hk : Kinds w A cap qs) (hn : n ≤ maxLen) :
    Calls Tryz.prog 7 #[.slice A qs.length cap, .agg #[.slice B n cb]] w fun e w' => e = .returned (.bool r) ∧ Ext w w' := by
  subst h
  exact great_c _ _ _ _ _ _ _ hk hn
theorem moveErr_good {ks : List Knd} {bs : List Brk} {turn : Int} {s : Pt} (h : moveErr ks bs turn s = 0) : checkErr ks bs = 0 ∧ inB 0 23 turn = true ∧ nearB s (-1000) 1000 = true ∧ bricksB ks.length (movedL turn.toNat s bs) = true := by
  by_cases h1 : checkErr ks bs = 0
  rotate_left
  · exact absurd (moveErr_check rfl h1 ▸ h) h1
  by_cases h2 : inB 0 23 turn = true ∧ nearB s (-1000) 1000 = true
  rotate_left
  · rw [moveErr_arg h1 h2] at h
    cases h
  rw [moveErr_brick h1 h2] at h
  cases hb : bricksB ks.length (movedL turn.toNat s bs)
  · rw [hb] at h
    cases h
  · exact ⟨h1, h2.1, h2.2, rfl⟩
section
variable {qs : List (Knd × KAt)} {bs : List Brk}
theorem bcells_in {w : World} {QA : Option Addr} {qc : Nat} (hk : Kinds w QA qc qs) (hb : ∀ b ∈ bs, b.byte) (h0 : modelErr (qs.map (·.1)) bs = 0) {j : Nat} (hj : j < bs.length) : ∀ p ∈ bcells (qs.map (·.1)) (brkAt bs j), p.in_ 1015 := by
  obtain ⟨i, t, x, y, z, c, k, p, e, ht, hi, hkf, hp, hby, has, hc, -⟩ := brk_parts hk hb h0 hj
  intro q hq
  rw [hc] at hq
  have hm := (sortP_perm _).mem_iff.1 hq
  obtain ⟨d, hd, e⟩ := List.mem_map.1 (show _ ∈ k.cells.map (fun c => addP (turnS c t) ⟨x, y, z⟩) from hm)
  rw [← e]
  exact addP_in (B := 15) (C := 1000) (turnS_in (hkf.near d hd) t) hp
end
theorem bricks_own {w : World} {b : Nat} {A : Option Addr} {cap : Nat} {l : List Brk} (h : w.ownsRow b 51 6 (.slice A l.length cap) l.length (l.map Brk.cs).flatten) (hb : ∀ x ∈ l, x.byte) : Bricks w A cap l := by
  obtain ⟨A', cap', he, hs, -⟩ := own_slice0 (fun r hr => by obtain ⟨y, -, rfl⟩ := List.mem_map.1 hr; rfl) (by rw [List.length_map]) h
  cases he
  exact ⟨hs, hb⟩
/-- As ZRow, where the row may be none. -/
structure ZR (w : World) (A : Option Addr) (lo n cap : Nat) (l : List Jnt) : Prop where
  s : Jnts w A cap l
  b : ∀ q, A = some q → lo ≤ q.block ∧ q = ⟨q.block, 0, none⟩ ∧ ∃ cs, Blk w q.block 44 cs
  n : l.length = n
theorem ZR.of_own {w : World} {b : Nat} {A : Option Addr} {cap : Nat} {l : List Jnt} (h : w.ownsRow b 44 5 (.slice A l.length cap) l.length (l.map Jnt.cs).flatten) (hs : Jnts w A cap l) : ZR w A b l.length cap l := by
  refine ⟨hs, fun q hq => ?_, rfl⟩
  rcases h.2 with ⟨hv, h0⟩ | ⟨g, cap', cur, hv, hg, hh, r⟩
  · simp only [Value.slice.injEq] at hv
    rw [hv.1] at hq
    cases hq
  · simp only [Value.slice.injEq] at hv
    rw [hv.1] at hq
    cases hq
    exact ⟨hg, rfl, cur, hh⟩
theorem ZR.ext {w w' : World} {A : Option Addr} {lo n cap : Nat} {l : List Jnt} (h : ZR w A lo n cap l) (E : Ext w w') : ZR w' A lo n cap l := ⟨h.s.ext E, fun q hq => let ⟨h1, h2, cs, hb⟩ := h.b q hq; ⟨h1, h2, cs, hb.ext E⟩, h.n⟩
theorem ZR.lt {w : World} {A : Option Addr} {lo n cap : Nat} {l : List Jnt} (h : ZR w A lo n cap l) {q : Addr} (hq : A = some q) : q.block < w.heap.size := by
  obtain ⟨-, -, cs, hb⟩ := h.b q hq
  exact hb.lt
theorem ZR.row {w : World} {g lo n cap : Nat} {l : List Jnt} (h : ZR w (some ⟨g, 0, none⟩) lo n cap l) : ZRow w g n cap l := by
  obtain ⟨-, -, cs, hb⟩ := h.b _ rfl
  exact ⟨h.s, ⟨cs, hb⟩, h.n⟩
theorem ZRow.zr {w : World} {g lo n cap : Nat} {l : List Jnt} (h : ZRow w g n cap l) (hl : lo ≤ g) : ZR w (some ⟨g, 0, none⟩) lo n cap l := ⟨h.s, fun q hq => by cases hq; exact ⟨hl, rfl, h.b⟩, h.n⟩
set_option maxRecDepth 100000 in
set_option maxHeartbeats 16000000 in
theorem moved_walk (qs : List (Knd × KAt)) (QA : Option Addr) (qc : Nat) (bs : List Brk) (B : Option Addr) (cb : Nat) (turn sx sy sz : Int) (w : World) (hk : Kinds w QA qc qs) (hb : Bricks w B cb bs) (_ : B = none → cb = 0) :
    Calls Tryz.prog 3 #[.slice QA qs.length qc, .agg #[.slice B bs.length cb], .int .i64 turn, .agg #[.int .i64 sx, .int .i64 sy, .int .i64 sz]] w fun e w' => e = .returned (.bool true) ∧ Ext w w' := by
  obtain ⟨W1, hW1, E1, B1, hz1⟩ := mk_ w #[.slice B bs.length cb] 25
  obtain ⟨W2, hW2, E2, B2, hz2⟩ := mk_ W1 #[.int .i64 sx, .int .i64 sy, .int .i64 sz] 27
  have b1 := (B1.ext E2).cell
  have b2 := B2.cell
  obtain ⟨X1, hX1⟩ : ∃ X, w.heap.size = X := ⟨_, rfl⟩
  rw [hX1] at B1 b1 hz1
  rw [hz1] at B2 b2
  clear hz2
  obtain ⟨gr, hg⟩ : ∃ r, greatB (qs.map (·.1)) bs.length = r := ⟨_, rfl⟩
  have GR := Lib.hid (fun W (E : Ext w W) => great_mv (B := B) (cb := cb) hg (hk.ext E) hb.len)
  have MV := Lib.hid (fun W (E : Ext w W) => move_c qs QA qc bs B cb turn sx sy sz W (hk.ext E) (hb.ext E))
  have HX := Lib.hid hX1
  have HZ := Lib.hid hz1
  clear hX1 hz1
  cases gr
  rotate_left
  · clear hg hk hb
    go_enter Tryz.func3, Tryz.ntmps3
    go_wp2_with fail
    rw [HX.out, HZ.out]
    refine (alive_c _).mono ?_
    rintro e W3 ⟨rfl, E3⟩
    have c1 := ((B1.ext E2).ext E3).cell
    clear b1 b2 hW1 hW2
    go_wp2_with fail
    refine (GR.out _ ((E1.trans E2).trans E3)).mono ?_
    rintro e W4 ⟨rfl, E4⟩
    have E := ((E1.trans E2).trans E3).trans E4
    have BM := ((B1.ext E2).ext E3).ext E4
    have BC := (B2.ext E3).ext E4
    clear c1 E1 E2 E3 E4 B1 B2 GR
    have b1 := BM.cell
    have b2 := BC.cell
    go_wp2_with fail
    go_ret
    exact ⟨rfl, E⟩
  by_cases hme : moveErr (qs.map (·.1)) bs turn ⟨sx, sy, sz⟩ = 0
  rotate_left
  · obtain ⟨me, hm⟩ : ∃ e, moveErr (qs.map (·.1)) bs turn ⟨sx, sy, sz⟩ = e := ⟨_, rfl⟩
    rw [moveL_bad hm (by rw [← hm]; exact hme), hm] at MV
    have h1 : (me != 0) = true := by rw [← hm]; simpa using hme
    clear hg hk hb hme hm
    go_enter Tryz.func3, Tryz.ntmps3
    go_wp2_with fail
    rw [HX.out, HZ.out]
    refine (alive_c _).mono ?_
    rintro e W3 ⟨rfl, E3⟩
    have c1 := ((B1.ext E2).ext E3).cell
    clear b1 b2 hW1 hW2
    go_wp2_with fail
    refine (GR.out _ ((E1.trans E2).trans E3)).mono ?_
    rintro e W4 ⟨rfl, E4⟩
    have E := ((E1.trans E2).trans E3).trans E4
    have BM := ((B1.ext E2).ext E3).ext E4
    have BC := (B2.ext E3).ext E4
    clear c1 E1 E2 E3 E4 B1 B2 GR
    have b1 := BM.cell
    have b2 := BC.cell
    go_wp2_with fail
    refine (MV.out _ E).mono ?_
    rintro e W5 ⟨XA, xc, rfl, -, -, E5⟩
    simp only [List.length_nil]
    obtain ⟨W6, hW6, E6, B6, hz6⟩ := mk_ W5 #[.slice XA 0 xc] 25
    have b6 := B6.cell
    replace E := (E.trans E5).trans E6
    clear b1 b2 E5 E6 MV hz6
    go_wp2_with fail
    go_ret
    exact ⟨rfl, E⟩
  obtain ⟨hce, hti, hnr, hbr⟩ := moveErr_good hme
  have ht0 := inB_iff.1 hti
  obtain ⟨tn, rfl⟩ : ∃ n : Nat, turn = n := ⟨turn.toNat, by omega⟩
  have htn : tn < 24 := by omega
  rw [Int.toNat_natCast] at hbr
  have hml : moveL (qs.map (·.1)) bs (tn : Int) ⟨sx, sy, sz⟩ = movedL tn ⟨sx, sy, sz⟩ bs := by unfold moveL; rw [if_pos hme, Int.toNat_natCast]
  rw [hml, hme] at MV
  have hft := fit_of hk hb.2 hce
  have hcx := check_mv hft hce htn ⟨sx, sy, sz⟩ hbr
  have hm0 := check_model hce
  have hmx := check_model hcx
  have hLx := linkL_mv hft htn ⟨sx, sy, sz⟩
  have hJx := jointL_mv hft htn ⟨sx, sy, sz⟩
  have hfew := links_few hk hb.2 hce
  have hjo : JntsOk (linkL (qs.map (·.1)) bs) (jointL (qs.map (·.1)) bs) := jntsOk hft rfl
  have hjlen : (jointL (qs.map (·.1)) bs).length ≤ (linkL (qs.map (·.1)) bs).length := pj_len _ _
  have hnb := hft.n
  have HCM := Lib.hid (fun (j : Nat) (hj : j < bs.length) (c : Pt) (hc : c ∈ bcells (qs.map (·.1)) (brkAt bs j)) => (mem_mv hft htn ⟨sx, sy, sz⟩ hj).2 ⟨c, hc, rfl⟩)
  have HCL := Lib.hid (fun (j : Nat) (hj : j < bs.length) => len_mv hft htn ⟨sx, sy, sz⟩ hj)
  have HCI := Lib.hid (fun (j : Nat) (hj : j < bs.length) => bcells_in hk hb.2 hm0 hj)
  have HSN := Lib.hid (near_in' hnr)
  obtain ⟨xs, hxs⟩ : ∃ l, movedL tn ⟨sx, sy, sz⟩ bs = l := ⟨_, rfl⟩
  have hxl : xs.length = bs.length := by rw [← hxs, movedL_len]
  rw [hxs] at MV hcx hmx hLx hJx HCM HCL
  have hlr1 : linkR (qs.map (·.1)) bs = linkL (qs.map (·.1)) bs := if_pos hce
  have hlr2 : linkR (qs.map (·.1)) xs = linkL (qs.map (·.1)) bs := (if_pos hcx).trans hLx
  have hjr1 : jointR (qs.map (·.1)) bs = jointL (qs.map (·.1)) bs := if_pos hce
  have hjr2 : jointR (qs.map (·.1)) xs = (jointL (qs.map (·.1)) bs).map (turnJ tn) := (if_pos hcx).trans hJx
  have hgr1 : groupR (qs.map (·.1)) bs = natZ (groupL (linkL (qs.map (·.1)) bs) bs.length) := if_pos hce
  have hgr2 : groupR (qs.map (·.1)) xs = natZ (groupL (linkL (qs.map (·.1)) bs) bs.length) := (if_pos hcx).trans (by rw [hLx, hxl])
  have L1 := Lib.hid (fun W (E : Ext w W) => linksA_c qs QA qc bs B cb W (hk.ext E) (hb.ext E))
  have L2 := Lib.hid (fun W A cap (E : Ext w W) (h : Bricks W A cap xs) => linksA_c qs QA qc xs A cap W (hk.ext E) h)
  have J1 := Lib.hid (fun W (E : Ext w W) => jointsA_c qs QA qc bs B cb W (hk.ext E) (hb.ext E) (fun _ => hfew))
  have J2 := Lib.hid (fun W A cap (E : Ext w W) (h : Bricks W A cap xs) => jointsA_c qs QA qc xs A cap W (hk.ext E) h (fun _ => by rw [hLx]; exact hfew))
  have G1 := Lib.hid (fun W (E : Ext w W) => groupsA_c qs QA qc bs B cb W (hk.ext E) (hb.ext E) (fun _ => hfew))
  have G2 := Lib.hid (fun W A cap (E : Ext w W) (h : Bricks W A cap xs) => groupsA_c qs QA qc xs A cap W (hk.ext E) h (fun _ => by rw [hLx]; exact hfew))
  have CK := Lib.hid (fun W A cap (E : Ext w W) (h : Bricks W A cap xs) => checkM_c qs QA qc xs A cap W (hk.ext E) h)
  have C1 := Lib.hid (fun (j : Nat) (hj : j < bs.length) (W : World) (E : Ext w W) => cellsAt_c hk hb.2 hm0 hj W E)
  have C2 := Lib.hid (fun (h : ∀ b ∈ xs, b.byte) (j : Nat) (hj : j < xs.length) (W : World) (E : Ext w W) => cellsAt_c hk h hmx hj W E)
  rw [hlr1, hce] at L1
  rw [hlr2, hcx, hxl] at L2
  rw [hjr1, hce] at J1
  rw [hjr2, hcx, hxl] at J2
  rw [hgr1, hce] at G1
  rw [hgr2, hcx, hxl] at G2
  rw [hcx, hxl] at CK
  have HB := Lib.hid hb
  obtain ⟨ks, hks⟩ : ∃ ks, qs.map (·.1) = ks := ⟨_, rfl⟩
  rw [hks] at L1 L2 J1 J2 G1 G2 C1 C2 HCM HCL HCI hfew hjo hjlen
  obtain ⟨J, hJ⟩ : ∃ l, jointL ks bs = l := ⟨_, rfl⟩
  rw [hJ] at J1 J2 hjo hjlen
  obtain ⟨L, hL⟩ : ∃ l, linkL ks bs = l := ⟨_, rfl⟩
  rw [hL] at L1 L2 G1 G2 hfew hjo hjlen
  obtain ⟨gl, hgl⟩ : ∃ l, natZ (groupL L bs.length) = l := ⟨_, rfl⟩
  rw [hgl] at G1 G2
  obtain ⟨T, hT⟩ : ∃ l, J.map (turnJ tn) = l := ⟨_, rfl⟩
  rw [hT] at J2
  have HT := Lib.hid hT
  have HTl := Lib.hid (show T.length = J.length by rw [← hT, List.length_map])
  obtain ⟨nj, hnj⟩ : ∃ n, J.length = n := ⟨_, rfl⟩
  rw [hnj] at hjlen HTl
  have Hnj := Lib.hid hnj
  have Hjo := Lib.hid hjo
  obtain ⟨nb, hnbe⟩ : ∃ n, bs.length = n := ⟨_, rfl⟩
  have Hxl := Lib.hid hxl
  rw [hnbe] at B1 b1 hW1 GR L1 L2 J1 J2 G1 G2 CK C1 MV HCM HCL HCI hnb Hxl ⊢
  have Hnb := Lib.hid hnbe
  obtain ⟨nq, hnq⟩ : ∃ n, qs.length = n := ⟨_, rfl⟩
  rw [hnq] at GR L1 L2 J1 J2 G1 G2 CK C1 C2 MV ⊢
  have hnj1 : nj ≤ 100000 := by omega
  clear hg hk hb hme hce hti hnr hbr ht0 hml hft hcx hm0 hmx hLx hJx hfew hjo hjlen hxs hxl hlr1 hlr2 hjr1 hjr2 hgr1 hgr2 hks hJ hL hgl hT hnj hnbe hnq
  go_enter Tryz.func3, Tryz.ntmps3
  go_wp2_with fail
  rw [HX.out, HZ.out]
  refine (alive_c _).mono ?_
  rintro e W3 ⟨rfl, E3⟩
  have c1 := ((B1.ext E2).ext E3).cell
  clear b1 b2 hW1 hW2
  go_wp2_with fail
  refine (GR.out _ ((E1.trans E2).trans E3)).mono ?_
  rintro e W4 ⟨rfl, E4⟩
  have E := ((E1.trans E2).trans E3).trans E4
  have BM := ((B1.ext E2).ext E3).ext E4
  have BC := (B2.ext E3).ext E4
  clear c1 E1 E2 E3 E4 B1 B2 GR
  have b1 := BM.cell
  have b2 := BC.cell
  go_wp2_with fail
  refine (MV.out _ E).mono ?_
  rintro e W5 ⟨XA, xc, rfl, own, hby, E5⟩
  have HBX := bricks_own own hby
  have Hby := Lib.hid hby
  rw [Hxl.out]
  replace E := E.trans E5
  replace BM := BM.ext E5
  replace BC := BC.ext E5
  obtain ⟨W6, hW6, E6, B6, hz6⟩ := mk_ W5 #[.slice XA nb xc] 25
  obtain ⟨X6, hX6⟩ : ∃ X, W5.heap.size = X := ⟨_, rfl⟩
  rw [hX6] at B6
  have HX6 := Lib.hid hX6
  clear b1 b2 E5 own hby MV hz6 hX6
  go_upto_region 5 with (fail)
  rw [HX6.out]
  clear hW6
  replace E := E.trans E6
  replace BM := BM.ext E6
  replace BC := BC.ext E6
  replace HBX := HBX.ext E6
  clear E6
  have b1 := BM.cell
  go_wp2_with fail
  refine (L1.out _ E).mono ?_
  rintro e W7 ⟨A7, c7, rfl, hL1, E7⟩
  replace E := E.trans E7
  replace BM := BM.ext E7
  replace BC := BC.ext E7
  replace B6 := B6.ext E7
  replace HBX := HBX.ext E7
  clear b1 E7 L1
  have b6 := B6.cell
  go_wp2_with fail
  refine (L2.out _ _ _ E HBX).mono ?_
  rintro e W8 ⟨A8, c8, rfl, hL2, E8⟩
  replace E := E.trans E8
  replace BM := BM.ext E8
  replace BC := BC.ext E8
  replace B6 := B6.ext E8
  replace HBX := HBX.ext E8
  replace hL1 := hL1.ext E8
  clear b6 E8 L2
  have b1 := BM.cell
  have H8 := Lib.hid (And.intro E (And.intro BM (And.intro BC (And.intro B6 (And.intro HBX (And.intro hL1 hL2))))))
  go_wp2_with fail
  refine (J1.out _ E).mono ?_
  rintro e W9 ⟨PA, pc, rfl, own, hs, E9⟩
  have ZP := ZR.of_own own hs
  rw [Hnj.out] at ZP ⊢
  have HPM := Lib.hid (fun q hq => ZP.lt (q := q) hq)
  have hLM := E9.size
  replace E := E.trans E9
  replace BM := BM.ext E9
  replace BC := BC.ext E9
  replace B6 := B6.ext E9
  replace HBX := HBX.ext E9
  clear b1 own hs J1
  have b6 := B6.cell
  go_wp2_with fail
  refine (J2.out _ _ _ E HBX).mono ?_
  rintro e W10 ⟨QB, qd, rfl, own, hs, E10⟩
  have hMH := E10.size
  have ZQ := ZR.of_own own hs
  rw [HTl.out] at ZQ ⊢
  have HQM := Lib.hid (fun q hq => ZQ.lt (q := q) hq)
  replace E := E.trans E10
  replace BM := BM.ext E10
  replace BC := BC.ext E10
  replace B6 := B6.ext E10
  replace HBX := HBX.ext E10
  replace ZP := ZP.ext E10
  have E810 := E9.trans E10
  clear b6 own hs J2 E9 E10
  have b1 := BM.cell
  go_wp2_with fail
  refine (G1.out _ E).mono ?_
  rintro e W11 ⟨SA, sc, rfl, hS, hSn, E11⟩
  replace E := E.trans E11
  replace BM := BM.ext E11
  replace BC := BC.ext E11
  replace B6 := B6.ext E11
  replace HBX := HBX.ext E11
  replace ZP := ZP.ext E11
  replace ZQ := ZQ.ext E11
  have E811 := E810.trans E11
  clear b1 G1
  have b6 := B6.cell
  go_wp2_with fail
  refine (G2.out _ _ _ E HBX).mono ?_
  rintro e W12 ⟨TA, tc, rfl, hTT, hTn, E12⟩
  replace E := E.trans E12
  replace BM := BM.ext E12
  replace BC := BC.ext E12
  replace B6 := B6.ext E12
  replace HBX := HBX.ext E12
  replace ZP := ZP.ext E12
  replace ZQ := ZQ.ext E12
  replace hS := hS.ext E12
  have hTn2 : ∀ q, TA = some q → W10.heap.size ≤ q.block := fun q hq => Nat.le_trans E11.size (hTn q hq)
  have E812 := E811.trans E12
  clear b6 G2 E11 E12 E810 E811 hTn
  have b1 := BM.cell
  have b6 := B6.cell
  go_wp2_with fail
  refine (CK.out _ _ _ E HBX).mono ?_
  rintro e W13 ⟨rfl, E13⟩
  replace E := E.trans E13
  replace BM := BM.ext E13
  replace BC := BC.ext E13
  replace B6 := B6.ext E13
  replace HBX := HBX.ext E13
  replace ZP := ZP.ext E13
  replace ZQ := ZQ.ext E13
  replace hS := hS.ext E13
  replace hTT := hTT.ext E13
  have E813 := E812.trans E13
  clear b1 b6 CK E812 E13
  have b1 := BM.cell
  have b6 := B6.cell
  obtain ⟨LO, hLO⟩ : ∃ n, W8.heap.size = n := ⟨_, rfl⟩
  obtain ⟨MI, hMI⟩ : ∃ n, W9.heap.size = n := ⟨_, rfl⟩
  obtain ⟨HI, hHI⟩ : ∃ n, W10.heap.size = n := ⟨_, rfl⟩
  rw [hLO, hMI] at hLM
  rw [hLO] at ZP
  rw [hMI] at ZQ HPM
  rw [hHI] at hSn hTn2 HQM
  have HLO := Lib.hid hLO
  have HPB := Lib.hid (fun q (hq : PA = some q) => (And.intro (ZP.b q hq).1 (HPM.out q hq) : LO ≤ q.block ∧ q.block < MI))
  have HQB := Lib.hid (fun q (hq : QB = some q) => (And.intro (ZQ.b q hq).1 (HQM.out q hq) : MI ≤ q.block ∧ q.block < HI))
  have HE813 := Lib.hid E813
  have HS := Lib.hid hS
  have HTT := Lib.hid hTT
  have HSn := Lib.hid hSn
  have HTn := Lib.hid hTn2
  rw [hMI, hHI] at hMH
  clear hLO hMI hHI HPM HQM E813 E BM BC B6 HBX hL1 hL2 hS hTT hSn hTn2
  go_wp2_with fail
  clear b1 b6
  go_loopw [140] (fun ii wr => ∃ k : Nat, k ≤ nj ∧ ii = .int .i64 k ∧ Only (fun b => LO ≤ b ∧ b < HI) W13 wr ∧ ZR wr PA LO nj pc (zeroed J k) ∧ ZR wr QB MI nj qd (zeroed T k)) (fun ii _ => nj - (intOf ii).toNat)
  case atStart => exact ⟨0, by omega, rfl, Only.refl _ _, ZP, ZQ⟩
  case round =>
    clear ZP ZQ
    obtain ⟨k, hk', rfl, O, ZP, ZQ⟩ := hrel
    by_cases hkt : k < nj
    · have hJk : k < J.length := by rw [Hnj.out]; exact hkt
      have hTk : k < T.length := by rw [HTl.out]; exact hkt
      obtain ⟨pg, hPA⟩ : ∃ g, PA = some ⟨g, 0, none⟩ := by
        obtain ⟨g, off, hA, -, -⟩ := SliceIs.cells ZP.s (by rw [zeroed_len, Hnj.out]; omega)
        have h0 := (ZP.b _ hA).2.1
        exact ⟨g, hA.trans (congrArg some h0)⟩
      obtain ⟨qg, hQB⟩ : ∃ g, QB = some ⟨g, 0, none⟩ := by
        obtain ⟨g, off, hA, -, -⟩ := SliceIs.cells ZQ.s (by rw [zeroed_len, HTl.out]; omega)
        have h0 := (ZQ.b _ hA).2.1
        exact ⟨g, hA.trans (congrArg some h0)⟩
      subst hPA hQB
      obtain ⟨hp1, hp2⟩ := HPB.out _ rfl
      obtain ⟨hq1, hq2⟩ := HQB.out _ rfl
      simp only at hp1 hp2 hq1 hq2
      have hpq : pg ≠ qg := by omega
      have hpc : nj ≤ pc := by have := ZP.s.le; rw [zeroed_len, Hnj.out] at this; exact this
      have hqd : nj ≤ qd := by have := ZQ.s.le; rw [zeroed_len, HTl.out] at this; exact this
      obtain ⟨-, -, -, c3, -⟩ := jnts_cell ZP.s (k := k) (by rw [zeroed_len]; exact hJk) rfl
      obtain ⟨-, -, -, e3, -⟩ := jnts_cell ZQ.s (k := k) (by rw [zeroed_len]; exact hTk) rfl
      rw [zeroed_get hJk, Nat.zero_add] at c3
      rw [zeroed_get hTk, Nat.zero_add] at e3
      have hax := (Hjo.out.a _ (List.mem_of_getElem? (jntGet_get hJk))).2
      have htx : (jntGet T k).axis = turnA tn (jntGet J k).axis := by rw [← HT.out, turn_get hJk]; rfl
      rw [htx] at e3
      obtain ⟨ax, hax'⟩ : ∃ a, (jntGet J k).axis = a := ⟨_, rfl⟩
      rw [hax'] at c3 e3 hax
      obtain ⟨-, -, csP, hbP⟩ := ZP.b _ rfl
      obtain ⟨-, -, csQ, hbQ⟩ := ZQ.b _ rfl
      simp only at hbP hbQ
      have k0 : (0 : Int) ≤ k := by omega
      have k1 : (k : Int) < nj := by omega
      have k2 : (k : Int) < pc := by omega
      have k3 : (k : Int) < qd := by omega
      have HbP := Lib.hid hbP
      have HbQ := Lib.hid hbQ
      have HO := Lib.hid O
      have HZP := Lib.hid ZP
      have HZQ := Lib.hid ZQ
      have HJk := Lib.hid hJk
      have HTk := Lib.hid hTk
      have Hp1 := Lib.hid hp1
      have Hp2 := Lib.hid (show pg < HI by omega)
      have Hq1 := Lib.hid (show LO ≤ qg by omega)
      have Hq2 := Lib.hid hq2
      have Hm1 := Lib.hid hq1
      clear htx hax' hbP hbQ O ZP ZQ hJk hTk hp1 hp2 hq1 hq2 hpc hqd
      by_cases h0 : ax = 0
      · subst h0
        have hz0 : turnA tn 0 = 0 := turnA_zero.2 rfl
        rw [hz0] at e3
        have C3 := Lib.hid c3
        have E3 := Lib.hid e3
        clear hz0 hax
        go_upto_region 18 with (fail)
        refine wp_region_grow (by kernel_rfl) (by kernel_rfl) ?_
        repeat (go_big_quiet_step (fail))
        refine wpQuiet_nil ?_
        intro W14 hW14
        have E14 : Ext wr W14 := by
          obtain ⟨x, rfl⟩ := hW14
          exact (Ext.refl _).grow x
        clear hW14
        obtain ⟨hcW14, hfW14, hzW14⟩ := ext_facts E14
        clear hcW14 hfW14 hzW14 c3 e3
        have c3 := E14.cell C3.out
        have c3 := E14.cell C3.out
        have e3 := E14.cell E3.out
        have fp := (HbP.out.ext E14).frozen
        have fq := (HbQ.out.ext E14).frozen
        have ZPn := Lib.hid (((HZP.out.ext E14).row.next HJk.out).far (p := ⟨qg, k * 5 + 3, none⟩) hpq (.int .u8 0))
        have ZQn := Lib.hid (((HZQ.out.ext E14).row.far (p := ⟨pg, k * 5 + 3, none⟩) (Ne.symm hpq) (.int .u8 0)).next HTk.out)
        have On := Lib.hid (((HO.out.ext E14).setCell (p := ⟨pg, k * 5 + 3, none⟩) (fun _ => ⟨Hp1.out, Hp2.out⟩) (.int .u8 0)).setCell (p := ⟨qg, k * 5 + 3, none⟩) (fun _ => ⟨Hq1.out, Hq2.out⟩) (.int .u8 0))
        clear E14
        go_wp2_with fail
        go_roundw
        case rel => exact ⟨k + 1, by omega, by go_num, On.out, ZPn.out.zr Hp1.out, ZQn.out.zr Hm1.out⟩
        case measure => simp only [intOf]; omega
      · obtain ⟨d, hd, hd3⟩ : ∃ d : Nat, ax = d + 1 ∧ d < 3 := ⟨ax.toNat - 1, by omega, by omega⟩
        subst hd
        have ht2 : turnA tn ((d : Int) + 1) = ((dirT (2 * d) tn / 2 : Nat) : Int) + 1 := by
          unfold turnA
          rw [if_neg (by omega), show (2 * ((d : Int) + 1) - 2).toNat = 2 * d by omega]
        rw [ht2] at e3
        have DI := Lib.hid (show ∀ W, Calls Tryz.prog 13 #[.int .i64 (2 * ((d : Int) + 1) - 2), .int .i64 tn] W fun e w' => e = .returned (.tuple #[.int .i64 (dirT (2 * d) tn), .int .i64 0]) ∧ Ext W w' from fun W => by
          have := Direction_ok (2 * d) tn W (by omega) htn
          rw [show ((2 * d : Nat) : Int) = 2 * ((d : Int) + 1) - 2 by omega] at this
          exact this)
        have hdn := dirT_lt (d := 2 * d) (n := tn) (by omega) htn
        obtain ⟨dn, hdne⟩ : ∃ x, dirT (2 * d) tn = x := ⟨_, rfl⟩
        rw [hdne] at DI e3 hdn
        have C3 := Lib.hid c3
        have E3 := Lib.hid e3
        have n1 : ((d : Int) + 1 == 0) = false := by simp; omega
        have n2 : (((dn / 2 : Nat) : Int) + 1 == 0) = false := by simp; omega
        clear ht2 hdne hax h0
        go_upto_region 18 with (fail)
        refine wp_region_grow (by kernel_rfl) (by kernel_rfl) ?_
        repeat (go_big_quiet_step (fail))
        refine wpQuiet_nil ?_
        intro W14 hW14
        have E14 : Ext wr W14 := by
          obtain ⟨x, rfl⟩ := hW14
          exact (Ext.refl _).grow x
        clear hW14
        obtain ⟨hcW14, hfW14, hzW14⟩ := ext_facts E14
        clear hcW14 hfW14 hzW14 c3 e3
        have c3 := E14.cell C3.out
        have n3 : decide ((d : Int) + 1 > 0) = true := decide_eq_true (by omega)
        have n4 : (d : Int) + 1 > 0 := by omega
        go_wp2_with fail
        refine (DI.out _).mono ?_
        rintro e W15 ⟨rfl, E15⟩
        have E45 := E14.trans E15
        clear E14 E15 c3
        have e3 := E45.cell E3.out
        have e4 : (((dn / 2 : Nat) : Int) + 1 - 1) = ((dn / 2 : Nat) : Int) := by omega
        have n5 : (((dn : Int).tdiv 2) != ((dn / 2 : Nat) : Int)) = false := by
          rw [bne_eq_false_iff_eq]
          rfl
        have c3 := E45.cell C3.out
        have e3 := E45.cell E3.out
        have fp := (HbP.out.ext E45).frozen
        have fq := (HbQ.out.ext E45).frozen
        have ZPn := Lib.hid (((HZP.out.ext E45).row.next HJk.out).far (p := ⟨qg, k * 5 + 3, none⟩) hpq (.int .u8 0))
        have ZQn := Lib.hid (((HZQ.out.ext E45).row.far (p := ⟨pg, k * 5 + 3, none⟩) (Ne.symm hpq) (.int .u8 0)).next HTk.out)
        have On := Lib.hid (((HO.out.ext E45).setCell (p := ⟨pg, k * 5 + 3, none⟩) (fun _ => ⟨Hp1.out, Hp2.out⟩) (.int .u8 0)).setCell (p := ⟨qg, k * 5 + 3, none⟩) (fun _ => ⟨Hq1.out, Hq2.out⟩) (.int .u8 0))
        clear E45
        go_wp2_with fail
        go_roundw
        case rel => exact ⟨k + 1, by omega, by go_num, On.out, ZPn.out.zr Hp1.out, ZQn.out.zr Hm1.out⟩
        case measure => simp only [intOf]; omega
    · obtain rfl : k = nj := by omega
      have hZ : zeroed T k = zeroed J k := by
        have h1 := zeroed_all T
        have h2 := zeroed_all J
        rw [HTl.out] at h1
        rw [Hnj.out] at h2
        rw [h1, h2, ← HT.out, zero_turn]
      rw [hZ] at ZQ
      obtain ⟨ZJ, hZJ⟩ : ∃ l, zeroed J k = l := ⟨_, rfl⟩
      have hZl : ZJ.length = k := by rw [← hZJ, zeroed_len, Hnj.out]
      rw [hZJ] at ZP ZQ
      have Er : Ext W8 wr := Only.below HE813.out O (fun b hb => by have := HLO.out; omega)
      obtain ⟨E, BM, BC, B6, HBX, hL1, hL2⟩ := H8.out
      replace E := E.trans Er
      replace BM := BM.ext Er
      replace BC := BC.ext Er
      replace B6 := B6.ext Er
      replace HBX := HBX.ext Er
      replace hL1 := hL1.ext Er
      replace hL2 := hL2.ext Er
      have hS := SliceIs.only HS.out O (fun q hq h => by have := HSn.out q hq; have h2 := h.2; omega)
      have hTT := SliceIs.only HTT.out O (fun q hq h => by have := HTn.out q hq; have h2 := h.2; omega)
      have hP := ZP.s
      have hQ := ZQ.s
      have HF := Lib.hid (And.intro hL1 (And.intro hL2 (And.intro hP (And.intro hQ (And.intro hS hTT)))))
      have b1 := BM.cell
      have HE := Lib.hid E
      have HBM := Lib.hid BM
      have HBC := Lib.hid BC
      have HB6 := Lib.hid B6
      have HHX := Lib.hid HBX
      clear hZ hZJ ZP ZQ Er O hL1 hL2 hP hQ hS hTT HS HTT HSn HTn H8 HE813 HLO HPB HQB BM BC B6 HBX E
      go_wp2_with fail
      clear b1
      go_loopw [201] (fun ii wq => ∃ j : Nat, j ≤ nb ∧ ii = .int .i64 j ∧ Ext wr wq) (fun ii _ => nb - (intOf ii).toNat)
      case atStart => exact ⟨0, by omega, rfl, Ext.refl _⟩
      case round =>
        obtain ⟨j, hj, rfl, Eq⟩ := hrel
        by_cases hjt : j < nb
        · obtain ⟨bg, boff, hBA⟩ := bricks_addr HB.out (by rw [Hnb.out]; omega)
          subst hBA
          obtain ⟨xg, xoff, hXA⟩ := bricks_addr HHX.out (by rw [Hxl.out]; omega)
          subst hXA
          obtain ⟨d0, d1, d2, d3, d4, d5⟩ := bricks_cell (HB.out.ext (HE.out.trans Eq)) (k := j) (by rw [Hnb.out]; exact hjt) rfl
          obtain ⟨y0, y1, y2, y3, y4, y5⟩ := bricks_cell (HHX.out.ext Eq) (k := j) (by rw [Hxl.out]; exact hjt) rfl
          have hcm := HCM.out j hjt
          have hcl := HCL.out j hjt
          have hci := HCI.out j hjt
          have CA := C1.out j hjt
          have CB := C2.out Hby.out j (by rw [Hxl.out]; exact hjt)
          have hbc : nb ≤ cb := by have := HB.out.1.le; rw [Hnb.out] at this; exact this
          have hxc : nb ≤ xc := by have := HHX.out.1.le; rw [Hxl.out] at this; exact this
          obtain ⟨⟨k1, ⟨p1, p2, p3⟩, p4, p5⟩, hb1⟩ : ∃ b, brkAt bs j = b := ⟨_, rfl⟩
          obtain ⟨⟨k2, ⟨q1, q2, q3⟩, q4, q5⟩, hb2⟩ : ∃ b, brkAt xs j = b := ⟨_, rfl⟩
          rw [hb1] at d0 d1 d2 d3 d4 d5 CA hcm hcl hci
          rw [hb2] at y0 y1 y2 y3 y4 y5 CB hcm hcl
          unfold brkV at CA CB
          simp only at d0 d1 d2 d3 d4 d5 y0 y1 y2 y3 y4 y5 CA CB
          obtain ⟨Lc, hLc⟩ : ∃ l, bcells ks ⟨k1, ⟨p1, p2, p3⟩, p4, p5⟩ = l := ⟨_, rfl⟩
          obtain ⟨Ld, hLd⟩ : ∃ l, bcells ks ⟨k2, ⟨q1, q2, q3⟩, q4, q5⟩ = l := ⟨_, rfl⟩
          rw [hLc] at CA hcm hcl hci
          rw [hLd] at CB hcm hcl
          rw [hcl] at CB
          obtain ⟨n, hn⟩ : ∃ n, Lc.length = n := ⟨_, rfl⟩
          rw [hn] at CA CB hcl
          have HCA := Lib.hid CA
          have HCB := Lib.hid CB
          have Hcm := Lib.hid hcm
          have Hcl := Lib.hid hcl
          have Hci := Lib.hid hci
          have Hn := Lib.hid hn
          have HEq := Lib.hid (HE.out.trans Eq)
          have j0 : (0 : Int) ≤ j := by omega
          have j1 : (j : Int) < nb := by omega
          have j2 : (j : Int) < cb := by omega
          have j3 : (j : Int) < xc := by omega
          have b1 := (HBM.out.ext Eq).cell
          clear hcm hcl hci hn hb1 hb2 hLc hLd CA CB
          go_wp2_with fail
          refine (HCA.out _ HEq.out).mono ?_
          rintro e wa ⟨g1, f1, hg1, rfl, hf1, hm1, R1, Ea⟩
          replace y0 := Ea.cell y0
          replace y1 := Ea.cell y1
          replace y2 := Ea.cell y2
          replace y3 := Ea.cell y3
          replace y4 := Ea.cell y4
          replace y5 := Ea.cell y5
          have b6 := (HB6.out.ext (Eq.trans Ea)).cell
          have Eqa := Eq.trans Ea
          clear b1 d0 d1 d2 d3 d4 d5 hg1
          have hw3 : ∀ (l : List Pt), ∀ r ∈ l.map Pt.cs, r.length = 3 := fun l r hr => by obtain ⟨p, -, rfl⟩ := List.mem_map.1 hr; rfl
          have HR1 := Lib.hid R1
          clear R1 Ea
          go_wp2_with fail
          refine (HCB.out _ (HE.out.trans Eqa)).mono ?_
          rintro e wb ⟨g2, f2, hg2, rfl, hf2, hm2, R2, Eb⟩
          have Eqb := Eqa.trans Eb
          have HC2 := Lib.hid (show Cells wb (some ⟨g2, 0, none⟩) f2 Ld from R2.slice (hw3 _) (by rw [List.length_map]) (by rw [Hcl.out]; exact hf2) hm2)
          have HR := Lib.hid (HR1.out.ext Eb)
          have HEqb := Lib.hid Eqb
          have hn9 : n ≤ maxLen := Nat.le_trans hf1 hm1
          unfold maxLen at hn9
          clear b6 y0 y1 y2 y3 y4 y5 hg2 R2 HR1 Eb Eqa Eqb Eq HEq
          go_wp2_with fail
          go_loopw [239] (fun ii wq => ∃ q : Nat, q ≤ n ∧ ii = .int .i64 q ∧ Ext wb wq) (fun ii _ => n - (intOf ii).toNat)
          case atStart => exact ⟨0, by omega, rfl, Ext.refl _⟩
          case round =>
            obtain ⟨q, hq, rfl, Ec⟩ := hrel
            by_cases hqt : q < n
            · obtain ⟨⟨a, b, c⟩, hc⟩ : ∃ c, Lc[q]? = some c := ⟨_, List.getElem?_eq_getElem (by rw [Hn.out]; exact hqt)⟩
              have hr : (Lc.map Pt.cs)[q]? = some (Pt.cs ⟨a, b, c⟩) := by rw [List.getElem?_map, hc]; rfl
              have RC := HR.out.ext Ec
              have c0 := RC.cell (hw3 _) (j := 0) hr rfl
              have c1 := RC.cell (hw3 _) (j := 1) hr rfl
              have c2 := RC.cell (hw3 _) (j := 2) hr rfl
              simp only [Nat.add_zero] at c0
              have hin := Hci.out _ (List.mem_of_getElem? hc)
              have hmm := Hcm.out _ (List.mem_of_getElem? hc)
              have hti := turnS_in hin tn
              have TU := Lib.hid (fun W => Turn_ok a b c tn W htn (nearB_iff.2 (by unfold Pt.in_ at hin; simp only at hin ⊢; omega)))
              unfold mvP at hmm
              obtain ⟨⟨u, v, s⟩, hu⟩ : ∃ p, turnS ⟨a, b, c⟩ tn = p := ⟨_, rfl⟩
              rw [hu] at hmm hti TU
              simp only at TU
              unfold addP at hmm
              simp only at hmm
              have HH := Lib.hid (hasP_iff.2 hmm)
              have PL := Lib.hid (fun W => lPlus_c u v s sx sy sz W (hti.ok (by omega)) (HSN.out.ok (by omega)))
              have HA := Lib.hid (fun W (E : Ext wb W) => rHas_c (some ⟨g2, 0, none⟩) f2 Ld (u + sx) (v + sy) (s + sz) W (HC2.out.ext E))
              rw [HH.out, Hcl.out] at HA
              obtain ⟨Wy, hWy, Ey, By, -⟩ := mk_ wr #[.int .i64 a, .int .i64 b, .int .i64 c] 27
              obtain ⟨Y, hY⟩ : ∃ X, wr.heap.size = X := ⟨_, rfl⟩
              rw [hY] at By
              have HY := Lib.hid hY
              have Ecy := Ec.trans Ey
              have q0 : (0 : Int) ≤ q := by omega
              have q1 : (q : Int) < n := by omega
              have q2 : (q : Int) < f1 := by omega
              clear hc hr RC hin hmm hti hu HH hY Ey Ec
              go_upto_region 36 with (fail)
              rw [HY.out]
              clear c0 c1 c2 hWy
              have by_ := By.cell
              go_wp2_with fail
              refine (TU.out _).mono ?_
              rintro e wt ⟨rfl, Et⟩
              obtain ⟨Wz, hWz, Ez, Bz, -⟩ := mk_ wt #[.int .i64 u, .int .i64 v, .int .i64 s] 27
              obtain ⟨Z, hZ⟩ : ∃ X, wt.heap.size = X := ⟨_, rfl⟩
              rw [hZ] at Bz
              have HZ2 := Lib.hid hZ
              have Ecz := (Ecy.trans Et).trans Ez
              clear by_ TU Et hZ By Ecy
              go_upto_region 37 with (fail)
              rw [HZ2.out]
              clear hWz Ez
              have bz := Bz.cell
              have b2 := (HBC.out.ext (HEqb.out.trans Ecz)).cell
              go_wp2_with fail
              refine (PL.out _).mono ?_
              rintro e wp ⟨rfl, Ep⟩
              have Ecp := Ecz.trans Ep
              clear bz b2 PL Ep Bz Ecz
              go_wp2_with fail
              refine (HA.out _ Ecp).mono ?_
              rintro e wh ⟨rfl, Eh⟩
              have Ech := Ecp.trans Eh
              clear HA Eh Ecp
              go_wp2_with fail
              go_roundw
              case rel => exact ⟨q + 1, by omega, by go_num, Ech⟩
              case measure => simp only [intOf]; omega
            · obtain rfl : q = n := by omega
              go_wp2_with fail
              go_roundw
              case rel => exact ⟨j + 1, by omega, by go_num, HEqb.out.trans Ec⟩
              case measure => simp only [intOf]; omega
        · obtain rfl : j = nb := by omega
          obtain ⟨hL1, hL2, hP, hQ, hS, hTT⟩ := HF.out
          have SL := Lib.hid (fun W (E : Ext wr W) => sameLinks_c A7 A8 c7 c8 L W ((hL1.ext Eq).ext E) ((hL2.ext Eq).ext E))
          have SJ := Lib.hid (fun W (E : Ext wr W) => sameJoints_c PA QB pc qd ZJ W (Jnts.ext (Jnts.ext hP Eq) E) (Jnts.ext (Jnts.ext hQ Eq) E))
          have SI := Lib.hid (fun W (E : Ext wr W) => rSameInts_c SA TA sc tc gl gl W ((SliceIs.ext (SliceIs.ext hS Eq) E)) ((SliceIs.ext (SliceIs.ext hTT Eq) E)))
          rw [hZl] at SJ
          rw [eqI_iff.2 rfl] at SI
          have HE2 := Lib.hid (HE.out.trans Eq)
          clear hL1 hL2 hP hQ hS hTT HF
          go_wp2_with fail
          refine (SL.out _ (Ext.refl _)).mono ?_
          rintro e w1 ⟨rfl, F1⟩
          go_wp2_with fail
          refine (SJ.out _ F1).mono ?_
          rintro e w2 ⟨rfl, F2⟩
          go_wp2_with fail
          refine (SI.out _ (F1.trans F2)).mono ?_
          rintro e w3 ⟨rfl, F3⟩
          have HFF := Lib.hid ((F1.trans F2).trans F3)
          clear F1 F2 F3
          go_wp2_with fail
          go_ret
          exact ⟨rfl, HE2.out.trans HFF.out⟩
end Go.Proofs.YtjacbhomhjoolaaGreat
namespace Go.Proofs.YtjacbhomhjoolaaGreat
open Go.RowKit Go.ChangeShapes Go.WideShapes Go.ChangeAt Go.Deep Go.Joins

set_option maxRecDepth 100000 in
theorem latticeMoved_lifted (os : Os) (started : os.Started) (H : Type) (enc : TypeId × Value → H) :
    ReturnsInHanded {} Tryz.checked os 3 .any (Rows.latticeMovedSpec.pre6 enc Tryz.prog Tryz.f3 Rows.latticeMovedRow.domain false) (Rows.latticeMovedSpec.post enc Tryz.prog Tryz.f3 false true false false) := by
  refine returnsInHanded_of_change (C := Tryz.checked) Tryz.own started (by kernel_rfl) Tryz.func3
    (ChangeSpec.witness6 (enc := enc) (C := Tryz.checked) false ⟨#[], #[.slice none 0 0, .agg #[.slice none 0 0], .int .i64 0, .agg #[.int .i64 0, .int .i64 0, .int .i64 0]], []⟩ 8 (by kernel_rfl) (by kernel_rfl) (by kernel_rfl) (by kernel_rfl)) ?_
  intro W base args ds gs before hval0 hW hcnd _
  have hval : ∀ (j : Nat) t v, Tryz.f3.params[j]? = some t → args[j]? = some v → Value.okWide Tryz.prog W .any base t v := hval0
  have hW' := hW
  obtain ⟨p, q, hA0, hV, rfl, hfz, hnd⟩ := hW
  have hA : DataW.TrodAll enc Tryz.prog W 0 (fun _ => true) true Tryz.f3.params.toList args.toList ds p := hA0
  rw [Tryz.params3] at hA hval
  have hAll := hA
  obtain ⟨v0, v1, v2, v3, d0, d1, d2, d3, p0, p1, p2, p3, rfl, rfl, rfl, h0, h1, h2, h3⟩ := trodAll_four hA
  obtain ⟨rfl, rfl⟩ := trodVars_none hV
  obtain ⟨C, n1, cc, rfl⟩ := okWide_slice Tryz.underlying22 (hval 0 22 v0 rfl rfl)
  obtain ⟨fu0, hf0⟩ := h0
  obtain ⟨qs, rfl, hk, -⟩ := kinds_of_trod (by simpa [Value.cells] using hf0)
  obtain ⟨D, cd, bs, rfl, hb, hnil⟩ := model_open (hval 1 25 v1 rfl rfl) h1
  obtain ⟨n2, rfl⟩ := int_open (hval 2 3 v2 rfl rfl) h2
  obtain ⟨x3, y3, z3, rfl⟩ := cell_open (hval 3 27 v3 rfl rfl) h3
  clear hA0 hval0
  simp only [List.append_nil] at hW' hAll
  have hlt : ∀ q ∈ p0 ++ p1 ++ p2 ++ p3, q.block < W.heap.size := fun q hq => hW'.lt q hq
  refine (moved_walk qs C cc bs D cd n2 x3 y3 z3 W hk hb hnil).mono fun e W' ⟨he, hE⟩ => ?_
  subst he
  refine ⟨_, rfl, ?_⟩
  refine ⟨_, _, _, [], p0 ++ p1 ++ p2 ++ p3, [], hW', ?_, ?_, rfl, hE.frame _, fun h => by cases h⟩
  · exact trodAll_mk1 (shut_bool Tryz.underlying4 true)
  · exact trodAll_ext (ts := [22, 25, 3, 27]) Tryz.laidOut hE (by
      intro t ht
      simp only [List.mem_cons, List.not_mem_nil, or_false] at ht
      rcases ht with rfl | rfl | rfl | rfl <;> exact ⟨by kernel_rfl, of_decide_eq_true (by kernel_rfl)⟩) hAll hlt

theorem latticeMoved_holds : Rows.LatticeMovedSaid :=
  OpenClaim.holds_of_wide 3 Tryz.f3 rfl rfl rfl rfl rfl rfl rfl ⟨rfl, rfl, rfl, rfl, rfl⟩ rfl rfl rfl rfl rfl (by kernel_rfl) Tryz.func3 (by kernel_rfl)
    (of_decide_eq_true (by kernel_rfl)) (by unfold Func.isWrapper; rw [if_neg (of_decide_eq_false (by kernel_rfl))]; exact ⟨rfl, rfl⟩)
    (fun os started H enc _ => latticeMoved_lifted os started H enc)
#print axioms latticeMoved_holds
end Go.Proofs.YtjacbhomhjoolaaGreat
