/- like of the program. Conditions: the kind is valid, the turns are turns, the place is not far. Cells and Knobs, of the program and of the reference. Conditions: a brick's turn and colour are bytes. Worlds in which some blocks have turned; append of one element, and whether it grew. Rows of the call's own beside each other; append of a whole slice, whatever its source. The pairs of bricks that overlap, plain; Overlapping of the reference. Condition: kinds and bricks are valid. Overlapping of the reference. Condition: kinds and bricks are valid. -/
import Derived.Test.YtenigkngmdofiaaLm7
import Derived.Laws.AppendOwnNone

namespace Go.Proofs.Ytenigkngmdofiaa
open Go.RowKit

/-- A new block behind a pointer. -/
def NewB (t : TypeId) (cs : Array Value) (w0 : World) (v : Value) (w : World) : Prop := ∃ g, v = .pointer (some ⟨g, 0, none⟩) ∧ w0.heap.size ≤ g ∧ Blk w g t cs ∧ Ext w0 w
theorem pts_cell {w : World} {g : Nat} {l : List Pt} (h : Blk w g 23 (ptsA l)) (hp : 0 < l.length) : w.cell? ⟨g, 0, none⟩ = some (.int .i64 (ptAt l 0).x) ∧ w.cell? ⟨g, 1, none⟩ = some (.int .i64 (ptAt l 0).y) ∧ w.cell? ⟨g, 2, none⟩ = some (.int .i64 (ptAt l 0).z) := by
  have h0 : l[0]? = some (ptAt l 0) := by
    rw [ptAt_eq (List.getElem?_eq_getElem hp)]
    exact List.getElem?_eq_getElem hp
  have hr : (l.map Pt.cs)[0]? = some (Pt.cs (ptAt l 0)) := by
    rw [List.getElem?_map, h0]
    rfl
  have a0 := rowsA_get (pts_wide l) hr (j := 0) rfl
  have a1 := rowsA_get (pts_wide l) hr (j := 1) rfl
  have a2 := rowsA_get (pts_wide l) hr (j := 2) rfl
  simp only [Nat.zero_mul, Nat.zero_add] at a0 a1 a2
  exact ⟨(h.cell 0).trans a0, (h.cell 1).trans a1, (h.cell 2).trans a2⟩
theorem Blk.ext' {w w' : World} {g : Nat} {t : TypeId} {cs : Array Value} (h : Blk w g t cs) (e : Ext w w') : Blk w' g t cs := h.ext e
set_option maxRecDepth 100000 in
set_option maxHeartbeats 16000000 in
theorem like_c (k : Knd) (p : KAt) (w : World) (hk : KindAt w p k) (hf : k.Fine) (bk x y z bc : Int) (bt n : Nat) (hbt : bt < 24) (hn : n < 24) (hp : Pt.in_ 1000 ⟨x, y, z⟩) :
    Calls Try.prog 61 #[.agg #[.slice p.A k.cells.length p.ca, .slice p.B k.knobs.length p.cb, .int .i64 k.weight], .agg #[.int .i64 bk, .int .i64 x, .int .i64 y, .int .i64 z, .int .u8 bt, .int .u8 bc], .int .i64 n] w fun e w' =>
      e = .returned (.tuple #[.agg #[.int .i64 (likeAt k bt ⟨x, y, z⟩ n).x, .int .i64 (likeAt k bt ⟨x, y, z⟩ n).y, .int .i64 (likeAt k bt ⟨x, y, z⟩ n).z], .bool (likeB k bt ⟨x, y, z⟩ n)]) ∧ Ext w w' := by
  obtain ⟨A, ca, B, cb⟩ := p
  have hc := hk.c
  have hkn := hk.n
  simp only at hc hkn
  have hcl := hf.len
  have hcp := hf.pos
  have hkl := hf.klen
  have hpok : Pt.ok ⟨x, y, z⟩ := hp.ok (by omega)
  have hat := likeAt_in hf bt n hp
  have hok0 : Pt.ok ⟨0, 0, 0⟩ := by
    unfold Pt.ok CB
    simp
  have hw0 := (head_in hf bt hp).ok (by omega)
  have hf0 : (ptAt (sortP (placeP k.cells n ⟨0, 0, 0⟩)) 0).ok := (head_in hf n (B := 0) (p := ⟨0, 0, 0⟩) (by unfold Pt.in_; simp)).ok (by omega)
  obtain ⟨at_, hate⟩ : ∃ q, likeAt k bt ⟨x, y, z⟩ n = q := ⟨_, rfl⟩
  have hsub : subP (ptAt (sortP (placeP k.cells bt ⟨x, y, z⟩)) 0) (ptAt (sortP (placeP k.cells n ⟨0, 0, 0⟩)) 0) = at_ := hate
  have hlb : likeB k bt ⟨x, y, z⟩ n = (eqC (sortP (placeP k.cells n at_)) (sortP (placeP k.cells bt ⟨x, y, z⟩)) && subK (placeK k.knobs n at_) (placeK k.knobs bt ⟨x, y, z⟩)) := by rw [← hate]; rfl
  rw [hate] at hat ⊢
  have haok : at_.ok := hat.ok (by omega)
  obtain ⟨cells, knobs, wt⟩ := k
  simp only at hc hkn hcl hcp hkl hsub hlb hw0 hf0 ⊢
  have hcok : ∀ q ∈ cells, q.ok := hf.cok
  have hkok : ∀ q ∈ knobs, q.fine := hf.kok
  obtain ⟨n1, hn1⟩ : ∃ m, cells.length = m := ⟨_, rfl⟩
  obtain ⟨n2, hn2⟩ : ∃ m, knobs.length = m := ⟨_, rfl⟩
  obtain ⟨L1, hL1⟩ : ∃ L, sortP (placeP cells bt ⟨x, y, z⟩) = L := ⟨_, rfl⟩
  obtain ⟨L2, hL2⟩ : ∃ L, sortP (placeP cells n ⟨0, 0, 0⟩) = L := ⟨_, rfl⟩
  obtain ⟨L3, hL3⟩ : ∃ L, sortP (placeP cells n at_) = L := ⟨_, rfl⟩
  obtain ⟨K1, hK1⟩ : ∃ L, placeK knobs bt ⟨x, y, z⟩ = L := ⟨_, rfl⟩
  obtain ⟨K2, hK2⟩ : ∃ L, placeK knobs n at_ = L := ⟨_, rfl⟩
  have l1 : L1.length = n1 := by rw [← hL1, sortP_len, placeP_len, hn1]
  have l2 : L2.length = n1 := by rw [← hL2, sortP_len, placeP_len, hn1]
  have l3 : L3.length = n1 := by rw [← hL3, sortP_len, placeP_len, hn1]
  have m1 : K1.length = n2 := by rw [← hK1, placeK_len, hn2]
  have m2 : K2.length = n2 := by rw [← hK2, placeK_len, hn2]
  rw [hL1, hL2] at hsub
  rw [hL1, hL3, hK1, hK2] at hlb
  rw [hL1] at hw0
  rw [hL2] at hf0
  have cC : ∀ (W : World) (m : Nat) (a b c : Int) (L : List Pt), Ext w W → m < 24 → Pt.ok ⟨a, b, c⟩ → sortP (placeP cells m ⟨a, b, c⟩) = L → Calls Try.prog 64 #[.agg #[.slice A n1 ca, .slice B n2 cb, .int .i64 wt], .int .i64 m, .agg #[.int .i64 a, .int .i64 b, .int .i64 c]] W (CellsPost L n1 W) := fun W m a b c L EW hm hq hL => by
    subst hL hn1
    exact cells_c cells n2 cb wt A ca B m a b c W (hc.ext EW) (by omega) hcok hm hq
  have cK : ∀ (W : World) (m : Nat) (a b c : Int) (L : List Knb), Ext w W → m < 24 → Pt.ok ⟨a, b, c⟩ → placeK knobs m ⟨a, b, c⟩ = L → Calls Try.prog 67 #[.agg #[.slice A n1 ca, .slice B n2 cb, .int .i64 wt], .int .i64 m, .agg #[.int .i64 a, .int .i64 b, .int .i64 c]] W (KnobsPost L n2 W) := fun W m a b c L EW hm hq hL => by
    subst hL hn2
    exact knobs_c n1 ca knobs wt A B cb m a b c W (hkn.ext EW) (by omega) hkok hm hq
  have CC := Lib.hid cC
  have CK := Lib.hid cK
  have HL1 := Lib.hid hL1
  have HL2 := Lib.hid hL2
  have HL3 : Hid (sortP (placeP cells n ⟨at_.x, at_.y, at_.z⟩) = L3) := Lib.hid hL3
  have HK1 := Lib.hid hK1
  have HK2 : Hid (placeK knobs n ⟨at_.x, at_.y, at_.z⟩ = K2) := Lib.hid hK2
  have Hl1 := Lib.hid l1
  have Hl2 := Lib.hid l2
  have Hl3 := Lib.hid l3
  have Hm1 := Lib.hid m1
  have Hm2 := Lib.hid m2
  have Hsub := Lib.hid hsub
  have Hlb := Lib.hid hlb
  rw [hn1] at hcl hcp
  rw [hn2] at hkl
  rw [hn1, hn2]
  have Hw0 := Lib.hid hw0
  have Hf0 := Lib.hid hf0
  have MN : Hid (∀ W, Calls Try.prog 88 #[.agg #[.int .i64 (ptAt L1 0).x, .int .i64 (ptAt L1 0).y, .int .i64 (ptAt L1 0).z], .agg #[.int .i64 (ptAt L2 0).x, .int .i64 (ptAt L2 0).y, .int .i64 (ptAt L2 0).z]] W fun e w' => e = .returned (.agg #[.int .i64 at_.x, .int .i64 at_.y, .int .i64 at_.z]) ∧ Ext W w') := Lib.hid (fun W => by
    have h := minus_c (ptAt L1 0).x (ptAt L1 0).y (ptAt L1 0).z (ptAt L2 0).x (ptAt L2 0).y (ptAt L2 0).z W hw0 hf0
    rw [← hsub]
    exact h)
  have Haok := Lib.hid haok
  clear cC cK hL1 hL2 hL3 hK1 hK2 l1 l2 l3 m1 m2 hsub hlb hn1 hn2 hcok hkok hf hk hc hkn hate hw0 hf0 haok hat
  have f1 : IntKind.i64.wrap (bt : Int) = bt := IntWalk.i64_in _ (by omega)
  obtain ⟨W1, hW1, E1, B1, hz1⟩ := mk_ w #[.slice A n1 ca, .slice B n2 cb, .int .i64 wt] 39
  obtain ⟨W2, hW2, E2, B2, hz2⟩ := mk_ W1 #[.int .i64 bk, .int .i64 x, .int .i64 y, .int .i64 z, .int .u8 bt, .int .u8 bc] 42
  obtain ⟨W3, hW3, E3, B3, hz3⟩ := mk_ W2 #[.int .i64 0, .int .i64 0, .int .i64 0] 23
  rw [hz1] at B2
  rw [hz2, hz1] at B3
  have BK := (B1.ext E2).ext E3
  have BB := B2.ext E3
  have b1 := BK.cell
  have b2 := BB.cell
  have E := (E1.trans E2).trans E3
  go_enter Try.func61, Try.ntmps61
  go_wp2_with fail
  clear hW1 hW2 hW3 hz1 hz2 hz3 B1 B2 E1 E2 E3 b1 b2
  obtain ⟨S, hS⟩ : ∃ S, w.heap.size = S := ⟨_, rfl⟩
  rw [hS] at BK BB B3 ⊢
  have HS := Lib.hid hS
  clear hS
  refine (CC.out W3 bt x y z L1 E hbt hpok HL1.out).mono ?_
  rintro e W4 ⟨g1, hg1, rfl, C1, E4⟩
  replace E := E.trans E4
  replace BK := BK.ext E4
  replace BB := BB.ext E4
  have BR := B3.ext E4
  clear B3
  obtain ⟨q0, q1, q2⟩ := pts_cell C1 (by rw [Hl1.out]; exact hcp)
  have b1 := BK.cell
  go_upto_region 2 with (fail)
  have i1 : (0 : Int) < n1 := by omega
  have hS1 := BR.lt
  go_cut [9] from 20 to 29 (fun s9 wx => NewB 23 #[.int .i64 at_.x, .int .i64 at_.y, .int .i64 at_.z] W4 s9 wx)
  case first =>
    have k0 := BK.cell 0
    have k1 := BK.cell 1
    have k2 := BK.cell 2
    clear b1
    have hS0 := BK.lt
    have hg1 := C1.lt
    have EX : Ext W4 W4.drew := (Ext.refl _).drew
    go_region_law (first
        | (go_simp; go_at_call 64; refine (CC.out _ n 0 0 0 L2 ?_ hn hok0 HL2.out).mono ?_; (first | exact E.trans EX | exact (E.trans EX).alloc _); rintro e wn ⟨g2, hg2, rfl, C2, En⟩; (first | (replace BN := BN.ext En; have bn := BN.cell; have fn := BN.frozen) | (have BN := (Blk.new _ #[.int .i64 0, .int .i64 0, .int .i64 0] 23).ext En; have hN := EX.size; have bn := BN.cell; have fn := BN.frozen) | (have BN := (Blk.new W4 #[.int .i64 0, .int .i64 0, .int .i64 0] 23).drew.ext En; have hN := EX.size; have bn := BN.cell; have fn := BN.frozen) | skip); replace EX : Ext W4 wn := (by first | exact EX.trans En | exact (EX.alloc _).trans En); obtain ⟨r0, r1, r2⟩ := pts_cell C2 (by rw [Hl2.out]; exact hcp); have s0 := ((Ext.refl wn).alloc (.cells #[.int .i64 0, .int .i64 0, .int .i64 0] 23)).cell r0; have s1 := ((Ext.refl wn).alloc (.cells #[.int .i64 0, .int .i64 0, .int .i64 0] 23)).cell r1; have s2 := ((Ext.refl wn).alloc (.cells #[.int .i64 0, .int .i64 0, .int .i64 0] 23)).cell r2; obtain ⟨hcN, hfN, hzN⟩ := ext_facts En; have lN0 := Nat.lt_of_lt_of_le hS0 EX.size; have lN1 := Nat.lt_of_lt_of_le hg1 EX.size; clear En)
        | (go_simp; go_at_call 88; refine (MN.out _).mono ?_; rintro e wn ⟨rfl, En⟩; (first | (replace BN := BN.ext En; have bn := BN.cell; have fn := BN.frozen) | (have BN := (Blk.new _ #[.int .i64 0, .int .i64 0, .int .i64 0] 23).ext En; have hN := EX.size; have bn := BN.cell; have fn := BN.frozen) | (have BN := (Blk.new W4 #[.int .i64 0, .int .i64 0, .int .i64 0] 23).drew.ext En; have hN := EX.size; have bn := BN.cell; have fn := BN.frozen) | skip); replace EX : Ext W4 wn := (by first | exact EX.trans En | exact (EX.alloc _).trans En); obtain ⟨hcN, hfN, hzN⟩ := ext_facts En; have lN0 := Nat.lt_of_lt_of_le hS0 EX.size; have lN1 := Nat.lt_of_lt_of_le hg1 EX.size; clear En))
    all_goals
      go_wp2_with fail
      go_meet
      first
        | exact ⟨_, rfl, EX.size, Blk.new _ _ _, EX.alloc _⟩
        | exact ⟨_, rfl, hN, ((BN.set_ 0 (.int .i64 at_.x)).set_ 1 (.int .i64 at_.y)).set_ 2 (.int .i64 at_.z), ((EX.setCell hN _).setCell hN _).setCell hN _⟩
  case rest =>
    obtain ⟨g9, rfl, hg9, B9, E9⟩ := hcut
    replace E := E.trans E9
    replace BK := BK.ext E9
    replace BB := BB.ext E9
    replace BR := BR.ext E9
    replace C1 := C1.ext E9
    have hW4S : S + 1 + 1 < g9 := by omega
    clear b1 q0 q1 q2 E4 E9 hS1 hg9 MN
    have b1 := BK.cell
    have b9 := B9.cell
    go_wp2_with fail
    refine (CC.out _ n at_.x at_.y at_.z L3 E hn Haok.out HL3.out).mono ?_
    rintro e W5 ⟨g3, hg3, rfl, C3, E5⟩
    replace E := E.trans E5
    replace BK := BK.ext E5
    replace BB := BB.ext E5
    replace BR := BR.ext E5
    replace C1 := C1.ext E5
    replace B9 := B9.ext E5
    clear b1 b9 E5
    have EQ := equal_c (some ⟨g3, 0, none⟩) (some ⟨g1, 0, none⟩) n1 n1 L3 L1 W5 (cells_of_blk C3 Hl3.out (by omega)) (cells_of_blk C1 Hl1.out (by omega))
    rw [Hl3.out, Hl1.out] at EQ
    obtain ⟨r, hr⟩ : ∃ r, eqC L3 L1 = r := ⟨_, rfl⟩
    rw [hr] at EQ
    have Hr := Lib.hid hr
    clear hr
    go_wp2_with fail
    refine EQ.mono ?_
    rintro e W6 ⟨rfl, E6⟩
    replace E := E.trans E6
    replace BK := BK.ext E6
    replace BB := BB.ext E6
    replace BR := BR.ext E6
    replace B9 := B9.ext E6
    clear EQ E6 C1 C3
    have b1 := BK.cell
    have b2 := BB.cell
    have b9 := B9.cell
    have b3 := BR.cell
    have f3 := BR.frozen
    have hSw : w.heap.size ≤ S + 1 + 1 := by have := HS.out; omega
    cases r
    · have Hv := Lib.hid (show likeB ⟨cells, knobs, wt⟩ bt ⟨x, y, z⟩ n = false by rw [Hlb.out, Hr.out]; rfl)
      obtain ⟨WZ, hWZ, BZ, farZ, extZ, hzZ⟩ := BR.store3 (.int .i64 at_.x) (.int .i64 at_.y) (.int .i64 at_.z)
      have cZ := BZ.cell
      go_wp2_with fail
      refine bodyPost_ret (v := .tuple #[.agg #[.int .i64 at_.x, .int .i64 at_.y, .int .i64 at_.z], .bool false]) (by simp [results, Try.results61, go_sem, cZ]) rfl ⟨by rw [Hv.out], extZ _ E hSw⟩
    · go_wp2_with fail
      refine (CK.out _ bt x y z K1 E hbt hpok HK1.out).mono ?_
      rintro e W7 ⟨g5, hg5, rfl, D5, E7⟩
      replace E := E.trans E7
      replace BK := BK.ext E7
      replace BR := BR.ext E7
      replace B9 := B9.ext E7
      clear b1 b2 b3 b9 f3 E7 BB
      have b1 := BK.cell
      have b9 := B9.cell
      go_wp2_with fail
      refine (CK.out _ n at_.x at_.y at_.z K2 E hn Haok.out HK2.out).mono ?_
      rintro e W8 ⟨g6, hg6, rfl, D6, E8⟩
      replace E := E.trans E8
      replace BR := BR.ext E8
      replace B9 := B9.ext E8
      replace D5 := D5.ext E8
      clear b1 b9 E8 BK
      have hsub : likeB ⟨cells, knobs, wt⟩ bt ⟨x, y, z⟩ n = subK K2 K1 := by rw [Hlb.out, Hr.out]; rfl
      have Hsb := Lib.hid hsub
      have R5 : KnobsR W8 (some ⟨g5, 0, none⟩) n2 K1 := knobs_of_blk D5 Hm1.out (by omega)
      have R6 : KnobsR W8 (some ⟨g6, 0, none⟩) n2 K2 := knobs_of_blk D6 Hm2.out (by omega)
      clear hsub D5 D6
      go_wp2_with fail
      go_loopw [50] (fun i wr => ∃ j : Nat, j ≤ n2 ∧ i = .int .i64 j ∧ Ext W8 wr ∧ Hid (∀ i, i < j → hasK K1 (knbAt K2 i) = true)) (fun i _ => n2 - (intOf i).toNat)
      case atStart => exact ⟨0, by omega, rfl, Ext.refl _, Lib.hid (fun i hi => by omega)⟩
      case round =>
        obtain ⟨j, hj, rfl, EW, Hj⟩ := hrel
        have BRr := BR.ext EW
        have B9r := B9.ext EW
        have Er := E.trans EW
        by_cases hlt : j < n2
        · obtain ⟨g, off, ⟨⟨kx, ky, kz⟩, kd, ks⟩, hA, hq, hg, c0, c1, c2, c3, c4⟩ := (R6.ext EW).at_ (k := j) (by rw [Hm2.out]; exact hlt)
          cases hA
          simp only [Nat.zero_add] at c0 c1 c2 c3 c4
          have Hq := Lib.hid (knbAt_eq hq)
          clear hq
          have j1 : (0 : Int) ≤ j := by omega
          have j2 : (j : Int) < n2 := by omega
          obtain ⟨Wk, hWk, Ek, Bk, hzk⟩ := mk_ wr #[.int .i64 kx, .int .i64 ky, .int .i64 kz, .int .u8 kd, .int .u8 ks] 68
          have bk := Bk.cell
          have CN := containsK_c (some ⟨g5, 0, none⟩) n2 K1 kx ky kz kd ks Wk ((R5.ext EW).ext Ek)
          rw [Hm1.out] at CN
          obtain ⟨r, hr⟩ : ∃ r, hasK K1 ⟨⟨kx, ky, kz⟩, kd, ks⟩ = r := ⟨_, rfl⟩
          rw [hr] at CN
          have Hr' := Lib.hid hr
          clear hr
          go_wp2_with fail
          refine CN.mono ?_
          rintro e Wc ⟨rfl, Ec⟩
          have BRc := (BRr.ext Ek).ext Ec
          have b9 := ((B9r.ext Ek).ext Ec).cell
          have b3 := BRc.cell
          have f3 := BRc.frozen
          have Ez := (Er.trans Ek).trans Ec
          clear c0 c1 c2 c3 c4 bk CN hWk hzk
          cases r
          · have Hv := Lib.hid (show likeB ⟨cells, knobs, wt⟩ bt ⟨x, y, z⟩ n = false by rw [Hsb.out]; exact allR_bad (k := j) (by rw [Hm2.out]; exact hlt) (by rw [Hq.out]; exact Hr'.out))
            obtain ⟨WZ, hWZ, BZ, farZ, extZ, hzZ⟩ := BRc.store3 (.int .i64 at_.x) (.int .i64 at_.y) (.int .i64 at_.z)
            have cZ := BZ.cell
            go_wp2_with fail
            refine bodyPost_ret (v := .tuple #[.agg #[.int .i64 at_.x, .int .i64 at_.y, .int .i64 at_.z], .bool false]) (by simp [results, Try.results61, go_sem, cZ]) rfl ⟨by rw [Hv.out], extZ _ Ez hSw⟩
          · go_wp2_with fail
            go_roundw
            case rel => exact ⟨j + 1, by omega, by go_num, (EW.trans Ek).trans Ec, Lib.hid (fun i hi => by
              rcases Nat.lt_or_ge i j with h' | h'
              · exact Hj.out i h'
              · obtain rfl : i = j := by omega
                rw [Hq.out]
                exact Hr'.out)⟩
            case measure => simp only [intOf]; omega
        · obtain rfl : n2 = j := by omega
          have Hv := Lib.hid (show likeB ⟨cells, knobs, wt⟩ bt ⟨x, y, z⟩ n = true by rw [Hsb.out]; exact allR_good (by rw [Hm2.out]; exact Hj.out))
          have b9 := B9r.cell
          have b3 := BRr.cell
          have f3 := BRr.frozen
          obtain ⟨WZ, hWZ, BZ, farZ, extZ, hzZ⟩ := BRr.store3 (.int .i64 at_.x) (.int .i64 at_.y) (.int .i64 at_.z)
          have cZ := BZ.cell
          go_wp2_with fail
          refine bodyPost_ret (v := .tuple #[.agg #[.int .i64 at_.x, .int .i64 at_.y, .int .i64 at_.z], .bool true]) (by simp [results, Try.results61, go_sem, cZ]) rfl ⟨by rw [Hv.out], extZ _ Er hSw⟩
end Go.Proofs.Ytenigkngmdofiaa

namespace Go.Proofs.Ytenigkngmdofiaa
open Go.RowKit

theorem kindsErr_valid {l : List Knd} (h : kindsErr l = 0) {k : Knd} (hk : k ∈ l) : k.valid = true := by
  unfold kindsErr at h
  split at h
  · cases h
  · split at h
    · rename_i h2
      obtain ⟨i, hi⟩ := List.getElem?_of_mem hk
      have := allR_at h2 (List.getElem?_eq_some_iff.1 hi).1
      simpa [kindAt, hi] using this
    · cases h
theorem asked_zero {l : List Knd} {b : Brk} (h : askedErr l [b] = 0) : kindsErr l = 0 ∧ b.ok l.length = true := by
  unfold askedErr at h
  split at h
  · rename_i h0
    refine ⟨h0, ?_⟩
    split at h
    · rename_i h2
      exact allR_at h2 (k := 0) (by simp)
    · cases h
  · rename_i h0
    exact absurd h h0
/-- The kind of a valid brick. -/
theorem asked_kind {w : World} {QA : Option Addr} {qc : Nat} {qs : List (Knd × KAt)} (hk : Kinds w QA qc qs) {b : Brk} (h : askedErr (qs.map (·.1)) [b] = 0) : ∃ (i : Nat) (k : Knd) (p : KAt), b.kind = i ∧ qs[i]? = some (k, p) ∧ k.Fine ∧ nearB b.at_ (-1000) 1000 = true ∧ b.turn < 24 := by
  obtain ⟨h1, h2⟩ := asked_zero h
  rw [Brk.ok_iff, List.length_map] at h2
  obtain ⟨a1, a2, a3, a4, _⟩ := h2
  obtain ⟨i, hi⟩ : ∃ i : Nat, b.kind = i := ⟨b.kind.toNat, by omega⟩
  have hil : i < qs.length := by omega
  have hget : qs[i]? = some (qs[i].1, qs[i].2) := List.getElem?_eq_getElem hil
  refine ⟨i, qs[i].1, qs[i].2, hi, hget, ?_, a3, a4⟩
  have hm : qs[i] ∈ qs := List.getElem_mem hil
  exact Knd.fine_of (kindsErr_valid h1 (List.mem_map.2 ⟨_, hm, rfl⟩)) (hk.k _ hm).n.2
/-- A result of cells, or the error. -/
def CellsRes (l : List Pt) (n : Nat) (w : World) (e : Ending) (w' : World) : Prop := ∃ g cap, w.heap.size ≤ g ∧ e = .returned (.tuple #[.slice (some ⟨g, 0, none⟩) n cap, .int .i64 0]) ∧ n ≤ cap ∧ cap ≤ maxLen ∧ RowX w' g 23 (l.map Pt.cs) ∧ Ext w w'
theorem rowX_of_blk {w : World} {g : Nat} {t : TypeId} {rows : List (List Value)} (h : Blk w g t (rowsA rows)) : RowX w g t rows := ⟨#[], by rw [Array.append_empty]; exact h⟩
set_option maxRecDepth 100000 in
set_option maxHeartbeats 8000000 in
theorem Cells_bad (qs : List (Knd × KAt)) (QA : Option Addr) (qc : Nat) (w : World) (hk : Kinds w QA qc qs) (kd x y z t c er : Int) (hb : Brk.byte ⟨kd, ⟨x, y, z⟩, t, c⟩) (he : askedErr (qs.map (·.1)) [⟨kd, ⟨x, y, z⟩, t, c⟩] = er) (h0 : er ≠ 0) :
    Calls Try.prog 23 #[.slice QA qs.length qc, .agg #[.int .i64 kd, .int .i64 x, .int .i64 y, .int .i64 z, .int .u8 t, .int .u8 c]] w fun e w' => e = .returned (.tuple #[.slice none 0 0, .int .i64 er]) ∧ Ext w w' := by
  obtain ⟨W1, hW1, E1, B1, hz1⟩ := mk_ w #[.int .i64 kd, .int .i64 x, .int .i64 y, .int .i64 z, .int .u8 t, .int .u8 c] 42
  have b1 := B1.cell
  have CH := check1_c qs QA qc kd x y z t c W1 (hk.ext E1) hb 42
  rw [he] at CH
  have h1 : (er != 0) = true := by simpa using h0
  clear he h0 hz1
  go_enter Try.func23, Try.ntmps23
  go_wp2_with fail
  refine CH.mono ?_
  rintro e W2 ⟨rfl, E2⟩
  go_wp2_with fail
  go_ret2
  exact ⟨rfl, E1.trans E2⟩
set_option maxRecDepth 100000 in
set_option maxHeartbeats 8000000 in
theorem Cells_ok (qs : List (Knd × KAt)) (QA : Option Addr) (qc : Nat) (w : World) (hk : Kinds w QA qc qs) (i : Nat) (k : Knd) (p : KAt) (hi : qs[i]? = some (k, p)) (hf : k.Fine) (x y z c : Int) (t : Nat) (hb : Brk.byte ⟨i, ⟨x, y, z⟩, t, c⟩) (he : askedErr (qs.map (·.1)) [⟨i, ⟨x, y, z⟩, t, c⟩] = 0) (ht : t < 24) (hp : Pt.ok ⟨x, y, z⟩) :
    Calls Try.prog 23 #[.slice QA qs.length qc, .agg #[.int .i64 i, .int .i64 x, .int .i64 y, .int .i64 z, .int .u8 t, .int .u8 c]] w (CellsRes (sortP (placeP k.cells t ⟨x, y, z⟩)) k.cells.length w) := by
  obtain ⟨cells, knobs, wt⟩ := k
  obtain ⟨A, ca, B, cb⟩ := p
  have hil : i < qs.length := (List.getElem?_eq_some_iff.1 hi).1
  have hql : qs.length ≤ 9223372036854775807 := by have := hk.len; unfold maxLen at this; omega
  have hcl : cells.length ≤ 24 := hf.len
  obtain ⟨n, hn⟩ : ∃ n, cells.length = n := ⟨_, rfl⟩
  show Calls _ _ _ _ (CellsRes (sortP (placeP cells t ⟨x, y, z⟩)) cells.length w)
  rw [hn]
  have Hn := Lib.hid hn
  clear hn
  have hcok : ∀ q ∈ cells, q.ok := hf.cok
  have hc : Cells w A ca cells := (hk.k _ (List.mem_of_getElem? hi)).c
  obtain ⟨W1, hW1, E1, B1, hz1⟩ := mk_ w #[.int .i64 i, .int .i64 x, .int .i64 y, .int .i64 z, .int .u8 t, .int .u8 c] 42
  have b1 := B1.cell
  have CH := check1_c qs QA qc i x y z t c W1 (hk.ext E1) hb 42
  rw [he] at CH
  clear he hz1
  have hml : cells.length ≤ maxLen := by unfold maxLen; omega
  have f1 : IntKind.i64.wrap (t : Int) = t := IntWalk.i64_in _ (by omega)
  go_enter Try.func23, Try.ntmps23
  go_wp2_with fail
  refine CH.mono ?_
  rintro e W2 ⟨rfl, E2⟩
  have E := E1.trans E2
  have BB := B1.ext E2
  obtain ⟨kg, koff, k', p', rfl, hq, hka, hkg, c0, c1, c2⟩ := (hk.ext E).at_ hil
  rw [hi] at hq
  cases hq
  simp only at c0 c1 c2
  clear CH b1 hW1 B1 E1 E2 hka
  have b1 := BB.cell
  have i1 : (0 : Int) ≤ i := by omega
  have i2 : (i : Int) < qs.length := by omega
  have hn := Hn.out
  have CC : ∀ W, Ext W2 W → Calls Try.prog 64 #[.agg #[.slice A n ca, .slice B knobs.length cb, .int .i64 wt], .int .i64 t, .agg #[.int .i64 x, .int .i64 y, .int .i64 z]] W (CellsPost (sortP (placeP cells t ⟨x, y, z⟩)) n W) := fun W EW => by
    subst hn
    exact cells_c cells knobs.length cb wt A ca B t x y z W (hc.ext (E.trans EW)) (by omega) hcok ht hp
  have HCC := Lib.hid CC
  rw [hn] at c0 hml
  clear CC hn hi hf hc hcok
  go_upto_region 4 with (fail)
  go_region_law (first
    | (go_simp; go_at_call 64; refine (HCC.out _ (Ext.refl W2).drew).mono ?_; rintro e W3 ⟨g, hg, rfl, B3, E3⟩))
  all_goals
    go_wp2_with fail
    go_ret2
    exact ⟨g, n, Nat.le_trans E.size hg, rfl, Nat.le_refl _, hml, rowX_of_blk B3, E.trans (Ext.drew (Ext.refl W2) |>.trans E3)⟩
end Go.Proofs.Ytenigkngmdofiaa

namespace Go.Proofs.Ytenigkngmdofiaa
open Go.RowKit

/-- Of what was there in w, at most the blocks of K have turned in w'. -/
structure Only (K : Nat → Prop) (w w' : World) : Prop where
  os : w'.os = w.os
  tape : w'.tape = w.tape
  output : w'.output = w.output
  size : w.heap.size ≤ w'.heap.size
  block : ∀ k, k < w.heap.size → ¬ K k → w'.heap[k]? = w.heap[k]?
theorem Only.refl (K : Nat → Prop) (w : World) : Only K w w := ⟨rfl, rfl, rfl, Nat.le_refl _, fun _ _ _ => rfl⟩
theorem Only.trans {K K' : Nat → Prop} {a b c : World} (h : Only K a b) (k : Only K' b c) (hk : ∀ i, i < a.heap.size → K' i → K i) : Only K a c :=
  ⟨k.os.trans h.os, k.tape.trans h.tape, k.output.trans h.output, Nat.le_trans h.size k.size, fun i hi hK =>
    (k.block i (Nat.lt_of_lt_of_le hi h.size) (fun e => hK (hk i hi e))).trans (h.block i hi hK)⟩
theorem Only.mono {K K' : Nat → Prop} {a b : World} (h : Only K a b) (hk : ∀ i, i < a.heap.size → K i → K' i) : Only K' a b :=
  ⟨h.os, h.tape, h.output, h.size, fun i hi hK => h.block i hi (fun e => hK (hk i hi e))⟩
theorem Only.of_ext (K : Nat → Prop) {a b : World} (h : Ext a b) : Only K a b := ⟨h.1, h.2, h.3, h.size, fun k hk _ => h.block k hk⟩
theorem Only.ext {K : Nat → Prop} {a b c : World} (h : Only K a b) (k : Ext b c) : Only K a c := h.trans (Only.of_ext (fun _ => False) k) (fun _ _ e => e.elim)
theorem Only.alloc {K : Nat → Prop} {a b : World} (h : Only K a b) (o : Obj) : Only K a (b.alloc o) := h.ext ((Ext.refl b).alloc o)
theorem Only.of_grown {K : Nat → Prop} {a b : World} {row : Option Nat} (h : a.grownBy b row) (hk : ∀ r, row = some r → K r) : Only K a b :=
  ⟨h.os, h.tape, h.output, h.size, fun k hk' hK => h.block k hk' (fun e => hK (hk k e.symm))⟩
theorem Only.grown {K : Nat → Prop} {a b c : World} {row : Option Nat} (h : Only K a b) (g : b.grownBy c row) (hk : ∀ r, row = some r → r < a.heap.size → K r) : Only K a c :=
  h.trans (Only.of_grown (K := fun r => row = some r) g (fun _ e => e)) (fun i hi e => hk i e hi)
theorem Only.setCell {K : Nat → Prop} {a b : World} (h : Only K a b) {p : Addr} (hp : p.block < a.heap.size → K p.block) (u : Value) : Only K a (b.setCell p u) :=
  ⟨h.os, h.tape, h.output, by rw [show (b.setCell p u).heap.size = b.heap.size by simp [World.setCell]]; exact h.size, fun k hk hK => by
    have hne : k ≠ p.block := fun e => hK (by rw [e]; exact hp (by rw [← e]; exact hk))
    rw [Below.heap_setCell _ _ _ _ hne]
    exact h.block k hk hK⟩
theorem Only.below {K : Nat → Prop} {t a b : World} (h0 : Ext t a) (h : Only K a b) (hk : ∀ k, K k → t.heap.size ≤ k) : Ext t b :=
  ⟨h.os.trans h0.1, h.tape.trans h0.2, h.output.trans h0.3, Nat.le_trans h0.size h.size, fun k hk' =>
    (h.block k (Nat.lt_of_lt_of_le hk' h0.size) (fun e => by have := hk k e; omega)).trans (h0.block k hk')⟩
theorem Only.ext_of {K : Nat → Prop} {a b : World} (h : Only K a b) (hk : ∀ k, k < a.heap.size → ¬ K k) : Ext a b :=
  ⟨h.os, h.tape, h.output, h.size, fun k hk' => h.block k hk' (hk k hk')⟩
theorem Blk.only {K : Nat → Prop} {a b : World} {g : Nat} {t : TypeId} {cs : Array Value} (h : Blk a g t cs) (k : Only K a b) (hg : ¬ K g) : Blk b g t cs := (k.block g h.lt hg).trans h
theorem own_only {K : Nat → Prop} {a b : World} {base : Nat} {e : TypeId} {size : Nat} {v : Value} {n : Nat} {xs : List Value} (h : a.ownsRow base e size v n xs) (k : Only K a b) (hv : ∀ r, v.ownBlock = some r → ¬ K r) : b.ownsRow base e size v n xs := by
  obtain ⟨h1, h2⟩ := h
  refine ⟨h1, ?_⟩
  rcases h2 with h2 | ⟨g, cap, cur, hv', hg, hh, r⟩
  · exact Or.inl h2
  · refine Or.inr ⟨g, cap, cur, hv', hg, ?_, r⟩
    rw [k.block g (Array.getElem?_eq_some_iff.1 hh).1 (hv g (by rw [hv']; rfl))]
    exact hh
theorem SliceIs.only {K : Nat → Prop} {a b : World} {A : Option Addr} {n cap sz : Nat} {rows : List (List Value)} (h : SliceIs a A n cap sz rows) (k : Only K a b) (hA : ∀ q, A = some q → ¬ K q.block) : SliceIs b A n cap sz rows := by
  obtain ⟨h1, h2, h3, h4, h5⟩ := h
  refine ⟨h1, h2, h3, h4, fun hn => ?_⟩
  obtain ⟨g, off, rfl, hb, hc⟩ := h5 hn
  refine ⟨g, off, rfl, Nat.lt_of_lt_of_le hb k.size, fun i r hr j u hu => ?_⟩
  have := hc i r hr j u hu
  rw [← this]
  exact World.cell?_of_block (k.block g hb (hA _ rfl))

/-- The row's block is of the row's type. -/
theorem own_typed {w : World} {base : Nat} {e : TypeId} {size : Nat} {v : Value} {n : Nat} {xs : List Value} (h : w.ownsRow base e size v n xs) {r : Nat} (hr : v.ownBlock = some r) : ∃ cs, Blk w r e cs := by
  rcases h.2 with ⟨rfl, _⟩ | ⟨g, cap, cur, rfl, hg, hh, _⟩
  · cases hr
  · cases hr
    exact ⟨cur, hh⟩
theorem Blk.types {w : World} {g : Nat} {t t' : TypeId} {cs cs' : Array Value} (h : Blk w g t cs) (h' : Blk w g t' cs') : t = t' := by
  have := h.symm.trans h'
  cases this
  rfl
/-- A beginning of an owned row is owned. -/
theorem own_prefix {w : World} {base : Nat} {e : TypeId} {size g n m cap : Nat} {xs ys : List Value} (h : w.ownsRow base e size (.slice (some ⟨g, 0, none⟩) (n + m) cap) (n + m) (xs ++ ys)) (hl : xs.length = n * size) :
    w.ownsRow base e size (.slice (some ⟨g, 0, none⟩) n cap) n xs := by
  refine ⟨hl, Or.inr ?_⟩
  rcases h.2 with ⟨h0, _⟩ | ⟨g', cap', cur, hv, hg, hh, h1, h2, h3, h4⟩
  · cases h0
  · cases hv
    refine ⟨g, cap, cur, rfl, hg, hh, by omega, h2, h3, ?_⟩
    have := congrArg (List.take (n * size)) h4
    rw [List.take_take, List.take_left' hl] at this
    rw [← this]
    congr 1
    have : n * size ≤ (n + m) * size := Nat.mul_le_mul_right _ (by omega)
    omega

/-- What became of a row by an append: it is longer in its own block, or it lies in a new one. -/
def Fate (W w' : World) (base : Nat) (e : TypeId) (size : Nat) (v v' : Value) (n : Nat) (xs news : List Value) : Prop :=
  w'.ownsRow base e size v' (n + 1) (xs ++ news) ∧ ∃ g cap, v' = .slice (some ⟨g, 0, none⟩) (n + 1) cap ∧ ((v = .slice (some ⟨g, 0, none⟩) n cap ∧ W.grownBy w' (some g)) ∨ (W.heap.size ≤ g ∧ W.grownBy w' none))
section
variable {P : Program}
theorem run_append_fate (w : World) (base : Nat) (t ty e : TypeId) (i : TypeInfo) (z : Value) (size bytes : Nat) (ht : P.underlying t = some (.slice e)) (hi : P.info? e = some i) (hz : i.zero = some z)
    (hsize : i.size = size) (hby : i.bytes = bytes) (hzs : z.cells.size = size) (hsz : 0 < size)
    (v : Value) (n : Nat) (xs : List Value) (hown : w.ownsRow base e size v n xs)
    (g c : Nat) (news : List Value) (hl : news.length = size) (hnews : ∀ j, w.cell? ⟨g, j, none⟩ = news[j]?) (h1 : ∀ u ∈ news, u.oneCell' = true)
    (h63 : n + 1 ≤ maxLen) (hbytes : (n + 1) * bytes ≤ 140737488355328) (hbase : base ≤ w.heap.size) :
    ∃ v' w', (Builtin.append_ #[t, t] ty #[v, .slice (some ⟨g, 0, none⟩) 1 c]).run P w = .ok v' w' ∧ Fate w w' base e size v v' n xs news := by
  have hl' : news.length = 1 * size := by omega
  have hn' : ∀ j u, news[j]? = some u → w.cell? ((⟨g, 0, none⟩ : Addr).add j) = some u := fun j u hu => by rw [add_zero_addr, hnews j]; exact hu
  obtain ⟨v', w', hr, h2, h3, h4⟩ := run_append_own (P := P) w base t ty e i z size bytes ht hi hz hsize hby hzs hsz v n xs hown ⟨g, 0, none⟩ 1 c news hl' hn' h1 h63 hbytes hbase
  refine ⟨v', w', hr, h2, ?_⟩
  rcases hown.2 with ⟨rfl, rfl⟩ | ⟨b, cap, cur, rfl, hbg, hg, hnc, hcm, hcs, htake⟩
  · have hx : xs = [] := List.eq_nil_of_length_eq_zero (by simpa using hown.1)
    subst hx
    obtain ⟨v2, w2, hr2, h5, h6, _⟩ := run_append_own (P := P) w w.heap.size t ty e i z size bytes ht hi hz hsize hby hzs hsz (.slice none 0 0) 0 [] (World.ownsRow_nil w _ e size) ⟨g, 0, none⟩ 1 c news hl' hn' h1 h63 hbytes (Nat.le_refl _)
    rw [hr] at hr2
    cases hr2
    obtain ⟨b, cap, rfl⟩ := own_form h5 (by omega)
    exact ⟨b, cap, rfl, Or.inr ⟨(h5.lt b rfl).1, h6⟩⟩
  · by_cases hroom : n + 1 ≤ cap
    · have hr2 := run_append_room (P := P) w t ty e i ht hi b n cap cur hg ⟨g, 0, none⟩ 1 c news (by rw [hsize]; exact hl') hn' h1 hroom (by rw [hsize, hl', hcs, ← Nat.add_mul]; exact Nat.mul_le_mul_right _ hroom)
      rw [hr] at hr2
      injection hr2 with e1 e2
      exact ⟨b, cap, e1, Or.inl ⟨rfl, h3⟩⟩
    · have hx : ∀ j u, xs[j]? = some u → w.cell? ((⟨b, 0, none⟩ : Addr).add j) = some u := hown.cells (g := b) rfl
      obtain ⟨v2, w2, hr2, h5, h6⟩ := run_append_arg_grows (P := P) w t ty e i z size bytes ht hi hz hsize hby hzs hsz ⟨b, 0, none⟩ n cap xs hown.1 hx ⟨g, 0, none⟩ 1 c news hl' hn' (by omega) h63 hbytes
      rw [hr] at hr2
      cases hr2
      obtain ⟨b2, cap2, rfl⟩ := own_form h5 (by omega)
      exact ⟨b2, cap2, rfl, Or.inr ⟨(h5.lt b2 rfl).1, h6⟩⟩
/-- The same as a step of a region. -/
theorem step_append_fate {w : World} {ops : Array Oper} {o : Oper} {a : Act} {K : Act → World → Prop} {Q : Exit → Act → World → Prop} {F : Prop} (hgd : o.guard = none) (s x : Operand) (t : TypeId) (ho : o.op = .call { callee := .builtin .append, args := #[s, x], argTypes := #[t, t] })
    (base : Nat) (e : TypeId) (i : TypeInfo) (z : Value) (size bytes : Nat) (ht : P.underlying t = some (.slice e)) (hi : P.info? e = some i) (hz : i.zero = some z)
    (hsize : i.size = size) (hby : i.bytes = bytes) (hzs : z.cells.size = size) (hsz : 0 < size)
    (v : Value) (n : Nat) (xs : List Value) (hs : a.eval s = v) (hown : w.ownsRow base e size v n xs)
    (g c : Nat) (news : List Value) (hx : a.eval x = .slice (some ⟨g, 0, none⟩) 1 c) (hl : news.length = size) (hnews : ∀ j, w.cell? ⟨g, j, none⟩ = news[j]?) (h1 : ∀ u ∈ news, u.oneCell' = true)
    (h63 : n + 1 ≤ maxLen) (hbytes : (n + 1) * bytes ≤ 140737488355328) (hbase : base ≤ w.heap.size)
    (h : ∀ v' w', Fate w w' base e size v v' n xs news → K (a.put o.dst v') w') : if Region.wanted o (yielded ops a.tmps) = true then o.wp P a w K Q else F := by
  rw [if_pos (by simp [Region.wanted, hgd])]
  obtain ⟨v', w', hr, hf⟩ := run_append_fate (P := P) w base t o.type e i z size bytes ht hi hz hsize hby hzs hsz v n xs hown g c news hl hnews h1 h63 hbytes hbase
  unfold Oper.wp execOp
  simp only [ho, resolve, invoke, builtin, Sem.run_bind, Sem.run_pure, Result.andThen_ok, List.map_toArray, List.map_cons, List.map_nil, hs, hx, hr]
  exact h v' w' hf
end
end Go.Proofs.Ytenigkngmdofiaa

namespace Go.Proofs.Ytenigkngmdofiaa
open Go.RowKit

theorem ownApart {w : World} {b b' : Nat} {e e' : TypeId} {sz sz' : Nat} {v v' : Value} {n n' : Nat} {xs xs' : List Value} (h : w.ownsRow b e sz v n xs) (h' : w.ownsRow b' e' sz' v' n' xs') (he : e ≠ e') : v.ownBlock = none ∨ v.ownBlock ≠ v'.ownBlock := by
  rcases h.2 with ⟨rfl, _⟩ | ⟨g, cap, cur, rfl, _, hg, _⟩
  · exact Or.inl rfl
  · right
    rcases h'.2 with ⟨rfl, _⟩ | ⟨g', cap', cur', rfl, _, hg', _⟩
    · intro e1
      cases e1
    · intro e1
      simp only [Value.ownBlock, Option.some.injEq] at e1
      subst e1
      rw [hg] at hg'
      simp only [Option.some.injEq, Obj.cells.injEq] at hg'
      exact he hg'.2.1
theorem ownGrown {w w' : World} {base : Nat} {e : TypeId} {size : Nat} {v : Value} {n : Nat} {xs : List Value} {row : Option Nat} (h : w.ownsRow base e size v n xs) (hg : w.grownBy w' row) (hr : v.ownBlock = none ∨ v.ownBlock ≠ row) :
    w'.ownsRow base e size v n xs :=
  own_only (K := fun k => row = some k) h (Only.of_grown hg fun _ e => e) fun r hr' e => by
    rcases hr with hr | hr
    · rw [hr] at hr'; cases hr'
    · exact hr (hr'.trans e.symm)
theorem ownForm {w : World} {base : Nat} {e : TypeId} {size : Nat} {v : Value} {n : Nat} {xs : List Value} (h : w.ownsRow base e size v n xs) : ∃ A cap, v = .slice A n cap := by
  rcases h.2 with ⟨rfl, rfl⟩ | ⟨g, cap, cur, hv, _⟩
  · exact ⟨none, 0, rfl⟩
  · exact ⟨_, cap, hv⟩
theorem blkGrown {w w' : World} {g : Nat} {t : TypeId} {cs : Array Value} {b : Nat} {e : TypeId} {sz : Nat} {v : Value} {n : Nat} {xs : List Value} (h : Blk w g t cs) (own : w.ownsRow b e sz v n xs) (hg : w.grownBy w' v.ownBlock) (hne : t ≠ e) : Blk w' g t cs := by
  refine h.grown hg fun e1 => ?_
  obtain ⟨cs', h'⟩ := own_typed own e1.symm
  unfold Blk at h h'
  rw [h] at h'
  cases h'
  exact hne rfl
section
variable {P : Program} {w : World} {ops : Array Oper} {o : Oper} {a : Act} {K : Act → World → Prop} {Q : Exit → Act → World → Prop} {F : Prop}
/-- append(s, x...) onto a row of the call's own, as one step of a region. -/
theorem step_append_any (hgd : o.guard = none) (s x : Operand) (t : TypeId) (ho : o.op = .call { callee := .builtin .append, args := #[s, x], argTypes := #[t, t] })
    (base : Nat) (e : TypeId) (i : TypeInfo) (z : Value) (size bytes : Nat) (ht : P.underlying t = some (.slice e)) (hi : P.info? e = some i) (hz : i.zero = some z)
    (hsize : i.size = size) (hby : i.bytes = bytes) (hzs : z.cells.size = size) (hsz : 0 < size)
    (v : Value) (n : Nat) (xs : List Value) (hs : a.eval s = v) (hown : w.ownsRow base e size v n xs)
    (A : Option Addr) (m c : Nat) (rows : List (List Value)) (hx : a.eval x = .slice A m c) (hsrc : SliceIs w A m c size rows) (hnil : A = none → c = 0) (h1 : ∀ u ∈ rows.flatten, u.oneCell' = true)
    (h63 : n + m ≤ maxLen) (hbytes : (n + m) * bytes ≤ 140737488355328) (hbase : base ≤ w.heap.size)
    (h : ∀ v' w', w'.ownsRow base e size v' (n + m) (xs ++ rows.flatten) → w.grownBy w' v.ownBlock → K (a.put o.dst v') w') : if Region.wanted o (yielded ops a.tmps) = true then o.wp P a w K Q else F := by
  rw [if_pos (by simp [Region.wanted, hgd])]
  have hfl : rows.flatten.length = m * size := by rw [rowsF_len hsrc.wide, hsrc.len]
  cases A with
  | none =>
    obtain rfl := hnil rfl
    obtain rfl : m = 0 := by
      have := hsrc.le
      omega
    have e0 : rows.flatten = [] := List.eq_nil_of_length_eq_zero (by rw [hfl, Nat.zero_mul])
    rw [e0, List.append_nil] at h
    have hrun := run_append_owned_none (P := P) (w := w) base t o.type e i size ht hi v n xs hown
    unfold Oper.wp
    simp [execOp, ho, resolve, invoke, builtin, hs, hx, hrun, Result.andThen]
    exact h _ _ hown (World.grownBy.refl _ _)
  | some ad =>
    refine wp_append_own w s x t ho base e i z size bytes ht hi hz hsize hby hzs hsz v n xs hs hown ad m c rows.flatten hx hfl (fun j u hu => ?_) h1 h63 hbytes hbase fun v' w' h2 h3 _ => h v' w' h2 h3
    by_cases hm : 0 < m
    · obtain ⟨b, off, hA, hc⟩ := hsrc.adds hm hsz
      cases hA
      exact hc j u hu
    · obtain rfl : m = 0 := by omega
      have e0 : rows.flatten = [] := List.eq_nil_of_length_eq_zero (by rw [hfl, Nat.zero_mul])
      rw [e0] at hu
      simp at hu
end
end Go.Proofs.Ytenigkngmdofiaa

namespace Go.Proofs.Ytenigkngmdofiaa
open Go.RowKit

/-- The cells of a placed brick. -/
def bcells (ks : List Knd) (b : Brk) : List Pt := sortP (placeP (kindAt ks b.kind.toNat).cells b.turn.toNat b.at_)
def overB (ks : List Knd) (bs : List Brk) (i k : Nat) : Bool := commonB (bcells ks (brkAt bs i)) (bcells ks (brkAt bs k))
/-- The pairs i, k with i given, of the second numbers i + 1 up to m. -/
def rowO (ks : List Knd) (bs : List Brk) (i m : Nat) : List (Int × Int) := ((List.range m).filter fun k => decide (i < k) && overB ks bs i k).map fun (k : Nat) => ((i : Int), (k : Int))
/-- The pairs of the first j numbers. -/
def overL (ks : List Knd) (bs : List Brk) (j : Nat) : List (Int × Int) := (List.range j).flatMap fun i => rowO ks bs i bs.length
theorem rowO_zero (ks : List Knd) (bs : List Brk) (i : Nat) : rowO ks bs i (i + 1) = [] := by
  unfold rowO
  rw [List.map_eq_nil_iff, List.filter_eq_nil_iff]
  intro k hk
  have := List.mem_range.1 hk
  simp
  omega
theorem rowO_succ {ks : List Knd} {bs : List Brk} {i m : Nat} (h : i < m) : rowO ks bs i (m + 1) = rowO ks bs i m ++ if overB ks bs i m then [((i : Int), (m : Int))] else [] := by
  unfold rowO
  rw [List.range_succ, List.filter_append, List.map_append]
  congr 1
  cases hb : overB ks bs i m
  · simp [hb]
  · simp [hb, h]
theorem overL_succ (ks : List Knd) (bs : List Brk) (j : Nat) : overL ks bs (j + 1) = overL ks bs j ++ rowO ks bs j bs.length := by
  unfold overL
  rw [List.range_succ, List.flatMap_append]
  simp
theorem rowO_len (ks : List Knd) (bs : List Brk) (i m : Nat) : (rowO ks bs i m).length ≤ m := by
  unfold rowO
  rw [List.length_map]
  exact Nat.le_trans (List.length_filter_le _ _) (by simp)
theorem overL_len (ks : List Knd) (bs : List Brk) : ∀ j, (overL ks bs j).length ≤ j * bs.length
  | 0 => by simp [overL]
  | j + 1 => by
    rw [overL_succ, List.length_append, Nat.succ_mul]
    have := overL_len ks bs j
    have := rowO_len ks bs j bs.length
    omega
/-- What is used of valid kinds and bricks. -/
structure MFine (qs : List (Knd × KAt)) (bs : List Brk) : Prop where
  n : bs.length ≤ 40
  b : ∀ b ∈ bs, ∃ (i tn : Nat) (k : Knd) (p : KAt), b.kind = i ∧ b.turn = tn ∧ tn < 24 ∧ qs[i]? = some (k, p) ∧ k.Fine ∧ Pt.in_ 1000 b.at_ ∧ b.byte
theorem mfine_of {w : World} {QA : Option Addr} {qc : Nat} {qs : List (Knd × KAt)} (hk : Kinds w QA qc qs) {bs : List Brk} (hb : ∀ b ∈ bs, b.byte) (h : modelErr (qs.map (·.1)) bs = 0) : MFine qs bs := by
  by_cases h0 : kindsErr (qs.map (·.1)) = 0
  rotate_left
  · rw [modelErr_kinds h0] at h
    exact absurd h h0
  by_cases h1 : 40 < bs.length
  · rw [modelErr_many h0 h1] at h
    cases h
  refine ⟨by omega, fun b hm => ?_⟩
  rw [modelErr_few h0 h1] at h
  unfold askedErr at h
  rw [if_pos h0] at h
  split at h
  rotate_left
  · cases h
  rename_i h2
  obtain ⟨j, hj⟩ := List.getElem?_of_mem hm
  have h3 := allR_at h2 (List.getElem?_eq_some_iff.1 hj).1
  rw [brkAt_eq hj] at h3
  have hby := hb b hm
  obtain ⟨kd, at_, t, c⟩ := b
  obtain ⟨i, k, p, a1, a2, a3, a4, a5⟩ := asked_kind hk (b := ⟨kd, at_, t, c⟩) (askedErr_good h0 (fun i hi => by
    have hi0 : i = 0 := by simpa using hi
    subst hi0
    exact h3))
  have hb1 := hby.1.1
  simp only at a1 a5 hb1
  exact ⟨i, t.toNat, k, p, a1, by show t = _; omega, by omega, a2, a3, near_in' a4, hby⟩
theorem bcells_is {qs : List (Knd × KAt)} {b : Brk} {i tn : Nat} {k : Knd} {p : KAt} (h1 : b.kind = i) (h2 : b.turn = tn) (hi : qs[i]? = some (k, p)) : bcells (qs.map (·.1)) b = sortP (placeP k.cells tn b.at_) := by
  unfold bcells kindAt
  rw [h1, h2]
  simp [hi]
end Go.Proofs.Ytenigkngmdofiaa

namespace Go.Proofs.Ytenigkngmdofiaa
open Go.RowKit

structure Ov8 (W0 : World) (vQ vI vK vb vb' : Value) (G : Addr) (B : Option Addr) (bn cb : Nat) (p1 p2 : Addr) (n1 n2 : Nat) (L1 L2 : List Pt) (r : Bool) (L : Nat → Bool) (us : Nat → Value) (w : World) : Prop where
  x : Ext W0 w
  f0 : L 0 = true → us 0 = vQ
  f1 : L 1 = true → us 1 = .pointer (some G)
  f2 : L 2 = true → us 2 = .slice B bn cb
  f3 : L 3 = true → us 3 = vI
  f4 : L 4 = true → us 4 = .pointer (some p1)
  f5 : L 5 = true → us 5 = vb
  f6 : L 6 = true → RowV w (us 6) n1 L1
  f7 : L 7 = true → us 7 = vQ
  f8 : L 8 = true → us 8 = .pointer (some G)
  f9 : L 9 = true → us 9 = .slice B bn cb
  f10 : L 10 = true → us 10 = vK
  f11 : L 11 = true → us 11 = .pointer (some p2)
  f12 : L 12 = true → us 12 = vb'
  f13 : L 13 = true → RowV w (us 13) n2 L2
  f14 : L 14 = true → us 14 = .bool r
theorem info2 : (Try.prog.info? 127).map (fun i => (i.zero, i.size, i.bytes)) = some (some (.agg #[.int .i64 0, .int .i64 0]), 2, 16) := by kernel_rfl
def PrsPost (l : List (Int × Int)) (w : World) (e : Ending) (w' : World) : Prop := ∃ A cap, e = .returned (.slice A l.length cap) ∧ Prs w' A cap l ∧ Ext w w'
theorem rRow {w : World} {v : Value} {n : Nat} {l : List Pt} (h : RowV w v n l) (hn : l.length = n) : ∃ g cp, v = .slice (some ⟨g, 0, none⟩) n cp ∧ Cells w (some ⟨g, 0, none⟩) cp l := by
  obtain ⟨cp, h1, h2, h3, h4⟩ := h
  refine ⟨_, cp, h1, ?_⟩
  unfold Cells
  rw [hn]
  exact RowX.slice h4 (pts_wide l) (by rw [List.length_map, hn]) h2 h3
set_option maxRecDepth 100000 in
set_option maxHeartbeats 16000000 in
theorem overlapping_c (qs : List (Knd × KAt)) (QA : Option Addr) (qc : Nat) (bs : List Brk) (B : Option Addr) (cb : Nat) (w : World) (hk : Kinds w QA qc qs) (hb : Bricks w B cb bs) (hf : MFine qs bs) :
    Calls Try.prog 75 #[.slice QA qs.length qc, .agg #[.slice B bs.length cb]] w (PrsPost (overL (qs.map (·.1)) bs bs.length) w) := by
  have hbn := hf.n
  obtain ⟨W1, hW1, E1, B1, hz1⟩ := mk_ w #[.slice B bs.length cb] 46
  have b1 := B1.cell
  obtain ⟨T, hT⟩ : ∃ T, w.heap.size = T := ⟨_, rfl⟩
  have hTW : T < W1.heap.size := by omega
  have HZ := Lib.hid (show W1.heap.size = T + 1 by omega)
  rw [hT] at B1
  clear hz1
  have HT := Lib.hid hT
  have PL := Lib.hid (fun (b : Brk) (hm : b ∈ bs) => hf.b b hm)
  have PLc := Lib.hid (fun (W : World) (E : Ext w W) (i tn : Nat) (k : Knd) (p : KAt) (x y z c : Int) (hi : qs[i]? = some (k, p)) (hkf : k.Fine) (ht : tn < 24) (hp : Pt.in_ 1000 ⟨x, y, z⟩) =>
    rPlaced_c qs QA qc i k.cells k.knobs k.weight p.A p.ca p.B p.cb hi tn x y z c W (hk.ext E) hkf.pos (Nat.le_trans hkf.len (by omega)) hkf.cok ht (hp.ok (by omega)))
  obtain ⟨nq, hnq⟩ : ∃ m, qs.length = m := ⟨_, rfl⟩
  obtain ⟨nb, hnb⟩ : ∃ m, bs.length = m := ⟨_, rfl⟩
  rw [hnq] at PLc ⊢
  rw [hnb] at hbn ⊢
  have Hnb := Lib.hid hnb
  rw [hnb] at B1 hW1 b1
  rw [hT] at b1
  have HB := Lib.hid hb
  obtain ⟨ks, hks⟩ : ∃ ks, qs.map (·.1) = ks := ⟨_, rfl⟩
  have Hks := Lib.hid hks
  rw [hks]
  clear hnq hnb hks hf hk hb hT
  go_enter Try.func75, Try.ntmps75
  go_wp2_with fail
  rw [HT.out]
  obtain ⟨i0, hi0, hz0, hz1, hz2⟩ := info_parts info2
  clear hW1 b1
  go_loopw [5, 6] (fun v ii wr => ∃ (j : Nat) (u : Value), j ≤ nb ∧ ii = .int .i64 j ∧ u = v ∧ Ext W1 wr ∧ wr.ownsRow (T + 1) 127 2 u (overL ks bs j).length ((overL ks bs j).map prC).flatten) (fun _ ii _ => nb - (intOf ii).toNat)
  case atStart => exact ⟨0, _, by omega, rfl, rfl, Ext.refl W1, World.ownsRow_nil _ _ _ _⟩
  case round =>
    obtain ⟨j, v, hj, rfl, rfl, Er, own⟩ := hrel
    have b1 := (B1.ext Er).cell
    have hlen := overL_len ks bs j
    rw [Hnb.out] at hlen
    have hlen2 : (overL ks bs j).length ≤ 1600 := Nat.le_trans hlen (Nat.le_trans (Nat.mul_le_mul hj (Nat.le_refl nb)) (Nat.mul_le_mul hbn hbn))
    clear hlen
    by_cases hlt : j < nb
    · obtain ⟨g, off, ⟨kd, ⟨x, y, z⟩, t, c⟩, rfl, hq, -, hg, -, -, -, -, -, -⟩ := (HB.out.ext E1).at_ (k := j) (by rw [Hnb.out]; exact hlt)
      obtain ⟨i, tn, kk, p, e1, e2, htn, hqi, hkf, hpt, -⟩ := PL.out _ (List.mem_of_getElem? hq)
      simp only at e1 e2 hpt
      subst e1 e2
      have Hbc := Lib.hid (show bcells ks (brkAt bs j) = sortP (placeP kk.cells tn ⟨x, y, z⟩) by rw [brkAt_eq hq, ← Hks.out]; exact bcells_is rfl rfl hqi)
      have P1 := Lib.hid (fun W E => PLc.out W E i tn kk p x y z c hqi hkf htn hpt)
      have hc := SliceIs.cells (HB.out.ext E1).1 (by rw [Hnb.out]; omega)
      obtain ⟨g', off', hgo, -, hcell⟩ := hc
      cases hgo
      have hr1 : (bs.map Brk.cs)[j]? = some [.int .i64 i, .int .i64 x, .int .i64 y, .int .i64 z, .int .u8 tn, .int .u8 c] := by rw [List.getElem?_map, hq]; rfl
      have Hc1 := Lib.hid (fun k u (h : ([.int .i64 i, .int .i64 x, .int .i64 y, .int .i64 z, .int .u8 tn, .int .u8 c] : List Value)[k]? = some u) => hcell _ _ hr1 k u h)
      have Hcell := Lib.hid hcell
      clear hq hqi hkf hpt htn hcell hr1
      go_wp2_with fail
      have Hown := Lib.hid own
      clear b1
      go_loopw [5, 7] (fun v ii wr' => ∃ (m : Nat) (u : Value), j + 1 ≤ m ∧ m ≤ nb ∧ ii = .int .i64 m ∧ u = v ∧ Ext W1 wr' ∧ wr'.ownsRow (T + 1) 127 2 u (overL ks bs j ++ rowO ks bs j m).length ((overL ks bs j ++ rowO ks bs j m).map prC).flatten) (fun _ ii _ => nb - (intOf ii).toNat)
      case atStart => exact ⟨j + 1, _, by omega, by omega, by go_num, rfl, Er, by rw [rowO_zero, List.append_nil]; exact own⟩
      case round =>
        clear own Hown Er
        obtain ⟨m, v2, hjm, hm, rfl, rfl, Er, own⟩ := hrel
        have b1 := (B1.ext Er).cell
        have hlen3 := rowO_len ks bs j m
        by_cases hmt : m < nb
        · have hq2 : bs[m]? = some (bs[m]'(by rw [Hnb.out]; exact hmt)) := List.getElem?_eq_getElem _
          obtain ⟨i2, tn2, k2, p2, e1, e2, htn2, hqi2, hkf2, hpt2, -⟩ := PL.out _ (List.mem_of_getElem? hq2)
          obtain ⟨⟨kd2, ⟨x2, y2, z2⟩, t2, c2⟩, hbb⟩ : ∃ b, bs[m]'(by rw [Hnb.out]; exact hmt) = b := ⟨_, rfl⟩
          rw [hbb] at hq2 e1 e2 hpt2
          simp only at e1 e2 hpt2
          subst e1 e2
          have Hbc2 := Lib.hid (show bcells ks (brkAt bs m) = sortP (placeP k2.cells tn2 ⟨x2, y2, z2⟩) by rw [brkAt_eq hq2, ← Hks.out]; exact bcells_is rfl rfl hqi2)
          have P2 := Lib.hid (fun W E => PLc.out W E i2 tn2 k2 p2 x2 y2 z2 c2 hqi2 hkf2 htn2 hpt2)
          have hr2 : (bs.map Brk.cs)[m]? = some [.int .i64 i2, .int .i64 x2, .int .i64 y2, .int .i64 z2, .int .u8 tn2, .int .u8 c2] := by rw [List.getElem?_map, hq2]; rfl
          have Hc2 := Lib.hid (fun k u (h : ([.int .i64 i2, .int .i64 x2, .int .i64 y2, .int .i64 z2, .int .u8 tn2, .int .u8 c2] : List Value)[k]? = some u) => Hcell.out _ _ hr2 k u h)
          obtain ⟨L1, hL1⟩ : ∃ L, sortP (placeP kk.cells tn ⟨x, y, z⟩) = L := ⟨_, rfl⟩
          obtain ⟨L2, hL2⟩ : ∃ L, sortP (placeP k2.cells tn2 ⟨x2, y2, z2⟩) = L := ⟨_, rfl⟩
          obtain ⟨n1, hn1⟩ : ∃ n, kk.cells.length = n := ⟨_, rfl⟩
          obtain ⟨n2, hn2⟩ : ∃ n, k2.cells.length = n := ⟨_, rfl⟩
          obtain ⟨r, hr⟩ : ∃ r, commonB L1 L2 = r := ⟨_, rfl⟩
          have Hl1 := Lib.hid (show L1.length = n1 by rw [← hL1, sortP_len, placeP_len, hn1])
          have Hl2 := Lib.hid (show L2.length = n2 by rw [← hL2, sortP_len, placeP_len, hn2])
          have Hr := Lib.hid hr
          have Hov := Lib.hid (show overB ks bs j m = r by unfold overB; rw [Hbc.out, Hbc2.out, hL1, hL2]; exact hr)
          have Hro := Lib.hid (rowO_succ (ks := ks) (bs := bs) (i := j) (m := m) (by omega))
          rw [hL1, hn1] at P1
          rw [hL2, hn2] at P2
          have j1 : (0 : Int) ≤ j := by omega
          have j2 : (j : Int) < nb := by omega
          have m1 : (0 : Int) ≤ m := by omega
          have m2 : (m : Int) < nb := by omega
          have HB1 := Lib.hid (B1.ext Er)
          have HEr := Lib.hid Er
          have HE1 := Lib.hid E1
          have Hown := Lib.hid own
          have hzr := Er.size
          clear hq2 hbb hqi2 hkf2 hpt2 htn2 hr2 hL1 hL2 hn1 hn2 hr
          go_upto_region 8 with (fail)
          clear b1 own
          refine wp_region_by (Ov8 wr (.slice QA nq qc) (.int .i64 j) (.int .i64 m) (.agg #[.int .i64 i, .int .i64 x, .int .i64 y, .int .i64 z, .int .u8 tn, .int .u8 c]) (.agg #[.int .i64 i2, .int .i64 x2, .int .i64 y2, .int .i64 z2, .int .u8 tn2, .int .u8 c2]) ⟨T, 0, none⟩ (some ⟨g, off, none⟩) nb cb ⟨g, off + j * 6, none⟩ ⟨g, off + m * 6, none⟩ n1 n2 L1 L2 r) (by kernel_rfl) (by kernel_rfl) (by kernel_rfl) (fun us => ⟨(Ext.refl _).drew, (nofun), (nofun), (nofun), (nofun), (nofun), (nofun), (nofun), (nofun), (nofun), (nofun), (nofun), (nofun), (nofun), (nofun), (nofun)⟩) ⟨?_, ?_, ?_, ?_, ?_, ?_, ?_, ?_, ?_, ?_, ?_, ?_, ?_, ?_, ?_, trivial⟩ ?_
          · intro L us wx K a ha hp hd hun hI hK
            have HX := hI.x
            clear hp HX
            replace hd := Lib.hid hd
            simp only [putAll, Act.put, List.setIfInBounds_toArray, List.set_cons_succ, List.set_cons_zero, Nat.reduceAdd] at ha
            subst ha
            simp only [Act.put, List.setIfInBounds_toArray, List.set_cons_succ, List.set_cons_zero] at hK
            go_simp
            refine hK _ _ ?_
            refine ⟨?_, ?_, ?_, ?_, ?_, ?_, ?_, ?_, ?_, ?_, ?_, ?_, ?_, ?_, ?_, ?_⟩
            all_goals (first | exact hI.x | exact hI.f0 | exact hI.f1 | exact hI.f2 | exact hI.f3 | exact hI.f4 | exact hI.f5 | exact hI.f6 | exact hI.f7 | exact hI.f8 | exact hI.f9 | exact hI.f10 | exact hI.f11 | exact hI.f12 | exact hI.f13 | exact hI.f14 | exact fun _ => rfl | skip)
          · intro L us wx K a ha hp hd hun hI hK
            have HX := hI.x
            clear hp HX
            replace hd := Lib.hid hd
            simp only [putAll, Act.put, List.setIfInBounds_toArray, List.set_cons_succ, List.set_cons_zero, Nat.reduceAdd] at ha
            subst ha
            simp only [Act.put, List.setIfInBounds_toArray, List.set_cons_succ, List.set_cons_zero] at hK
            go_simp
            refine hK _ _ ?_
            refine ⟨?_, ?_, ?_, ?_, ?_, ?_, ?_, ?_, ?_, ?_, ?_, ?_, ?_, ?_, ?_, ?_⟩
            all_goals (first | exact hI.x | exact hI.f0 | exact hI.f1 | exact hI.f2 | exact hI.f3 | exact hI.f4 | exact hI.f5 | exact hI.f6 | exact hI.f7 | exact hI.f8 | exact hI.f9 | exact hI.f10 | exact hI.f11 | exact hI.f12 | exact hI.f13 | exact hI.f14 | exact fun _ => rfl | skip)
          · intro L us wx K a ha hp hd hun hI hK
            have HX := hI.x
            have u1 := hI.f1 (hp 1 (by kernel_rfl))
            have bb := (HB1.out.ext HX).cell
            clear hp HX
            replace hd := Lib.hid hd
            simp only [putAll, Act.put, List.setIfInBounds_toArray, List.set_cons_succ, List.set_cons_zero, Nat.reduceAdd, u1] at ha
            subst ha
            simp only [Act.put, List.setIfInBounds_toArray, List.set_cons_succ, List.set_cons_zero] at hK
            go_simp
            refine hK _ _ ?_
            refine ⟨?_, ?_, ?_, ?_, ?_, ?_, ?_, ?_, ?_, ?_, ?_, ?_, ?_, ?_, ?_, ?_⟩
            all_goals (first | exact hI.x | exact hI.f0 | exact hI.f1 | exact hI.f2 | exact hI.f3 | exact hI.f4 | exact hI.f5 | exact hI.f6 | exact hI.f7 | exact hI.f8 | exact hI.f9 | exact hI.f10 | exact hI.f11 | exact hI.f12 | exact hI.f13 | exact hI.f14 | exact fun _ => rfl | skip)
          · intro L us wx K a ha hp hd hun hI hK
            have HX := hI.x
            clear hp HX
            replace hd := Lib.hid hd
            simp only [putAll, Act.put, List.setIfInBounds_toArray, List.set_cons_succ, List.set_cons_zero, Nat.reduceAdd] at ha
            subst ha
            simp only [Act.put, List.setIfInBounds_toArray, List.set_cons_succ, List.set_cons_zero] at hK
            go_simp
            refine hK _ _ ?_
            refine ⟨?_, ?_, ?_, ?_, ?_, ?_, ?_, ?_, ?_, ?_, ?_, ?_, ?_, ?_, ?_, ?_⟩
            all_goals (first | exact hI.x | exact hI.f0 | exact hI.f1 | exact hI.f2 | exact hI.f3 | exact hI.f4 | exact hI.f5 | exact hI.f6 | exact hI.f7 | exact hI.f8 | exact hI.f9 | exact hI.f10 | exact hI.f11 | exact hI.f12 | exact hI.f13 | exact hI.f14 | exact fun _ => rfl | skip)
          · intro L us wx K a ha hp hd hun hI hK
            have HX := hI.x
            have u2 := hI.f2 (hp 2 (by kernel_rfl))
            have u3 := hI.f3 (hp 3 (by kernel_rfl))
            clear hp HX
            replace hd := Lib.hid hd
            simp only [putAll, Act.put, List.setIfInBounds_toArray, List.set_cons_succ, List.set_cons_zero, Nat.reduceAdd, u2, u3] at ha
            subst ha
            simp only [Act.put, List.setIfInBounds_toArray, List.set_cons_succ, List.set_cons_zero] at hK
            go_simp
            refine hK _ _ ?_
            refine ⟨?_, ?_, ?_, ?_, ?_, ?_, ?_, ?_, ?_, ?_, ?_, ?_, ?_, ?_, ?_, ?_⟩
            all_goals (first | exact hI.x | exact hI.f0 | exact hI.f1 | exact hI.f2 | exact hI.f3 | exact hI.f4 | exact hI.f5 | exact hI.f6 | exact hI.f7 | exact hI.f8 | exact hI.f9 | exact hI.f10 | exact hI.f11 | exact hI.f12 | exact hI.f13 | exact hI.f14 | exact fun _ => rfl | skip)
          · intro L us wx K a ha hp hd hun hI hK
            have HX := hI.x
            have u4 := hI.f4 (hp 4 (by kernel_rfl))
            have EX := HEr.out.trans HX
            have d0 := EX.cell (Hc1.out 0 _ rfl)
            have d1 := EX.cell (Hc1.out 1 _ rfl)
            have d2 := EX.cell (Hc1.out 2 _ rfl)
            have d3 := EX.cell (Hc1.out 3 _ rfl)
            have d4 := EX.cell (Hc1.out 4 _ rfl)
            have d5 := EX.cell (Hc1.out 5 _ rfl)
            simp only [Nat.add_zero] at d0
            clear EX
            clear hp HX
            replace hd := Lib.hid hd
            simp only [putAll, Act.put, List.setIfInBounds_toArray, List.set_cons_succ, List.set_cons_zero, Nat.reduceAdd, u4] at ha
            subst ha
            simp only [Act.put, List.setIfInBounds_toArray, List.set_cons_succ, List.set_cons_zero] at hK
            go_simp
            refine hK _ _ ?_
            refine ⟨?_, ?_, ?_, ?_, ?_, ?_, ?_, ?_, ?_, ?_, ?_, ?_, ?_, ?_, ?_, ?_⟩
            all_goals (first | exact hI.x | exact hI.f0 | exact hI.f1 | exact hI.f2 | exact hI.f3 | exact hI.f4 | exact hI.f5 | exact hI.f6 | exact hI.f7 | exact hI.f8 | exact hI.f9 | exact hI.f10 | exact hI.f11 | exact hI.f12 | exact hI.f13 | exact hI.f14 | exact fun _ => rfl | skip)
          · intro L us wx K a ha hp hd hun hI hK
            have HX := hI.x
            have u0 := hI.f0 (hp 0 (by kernel_rfl))
            have u5 := hI.f5 (hp 5 (by kernel_rfl))
            have EX := Lib.hid ((HE1.out.trans HEr.out).trans HX)
            clear hp HX
            replace hd := Lib.hid hd
            simp only [putAll, Act.put, List.setIfInBounds_toArray, List.set_cons_succ, List.set_cons_zero, Nat.reduceAdd, u0, u5] at ha
            subst ha
            simp only [Act.put, List.setIfInBounds_toArray, List.set_cons_succ, List.set_cons_zero] at hK
            go_simp
            go_at_call 66
            refine (P1.out _ EX.out).mono ?_
            rintro e wn ⟨g2, cp, hg, rfl, q1, q2, X, En⟩
            go_simp
            refine hK _ _ ?_
            refine ⟨hI.x.trans En, ?_, ?_, ?_, ?_, ?_, ?_, ?_, ?_, ?_, ?_, ?_, ?_, ?_, ?_, ?_⟩
            all_goals (first | exact hI.f0 | exact hI.f1 | exact hI.f2 | exact hI.f3 | exact hI.f4 | exact hI.f5 | exact fun h => (hI.f6 h).ext En | exact hI.f7 | exact hI.f8 | exact hI.f9 | exact hI.f10 | exact hI.f11 | exact hI.f12 | exact fun h => (hI.f13 h).ext En | exact hI.f14 | exact fun _ => rfl | skip)
            all_goals exact fun _ => ⟨cp, rfl, q1, q2, X⟩
          · intro L us wx K a ha hp hd hun hI hK
            have HX := hI.x
            clear hp HX
            replace hd := Lib.hid hd
            simp only [putAll, Act.put, List.setIfInBounds_toArray, List.set_cons_succ, List.set_cons_zero, Nat.reduceAdd] at ha
            subst ha
            simp only [Act.put, List.setIfInBounds_toArray, List.set_cons_succ, List.set_cons_zero] at hK
            go_simp
            refine hK _ _ ?_
            refine ⟨?_, ?_, ?_, ?_, ?_, ?_, ?_, ?_, ?_, ?_, ?_, ?_, ?_, ?_, ?_, ?_⟩
            all_goals (first | exact hI.x | exact hI.f0 | exact hI.f1 | exact hI.f2 | exact hI.f3 | exact hI.f4 | exact hI.f5 | exact hI.f6 | exact hI.f7 | exact hI.f8 | exact hI.f9 | exact hI.f10 | exact hI.f11 | exact hI.f12 | exact hI.f13 | exact hI.f14 | exact fun _ => rfl | skip)
          · intro L us wx K a ha hp hd hun hI hK
            have HX := hI.x
            clear hp HX
            replace hd := Lib.hid hd
            simp only [putAll, Act.put, List.setIfInBounds_toArray, List.set_cons_succ, List.set_cons_zero, Nat.reduceAdd] at ha
            subst ha
            simp only [Act.put, List.setIfInBounds_toArray, List.set_cons_succ, List.set_cons_zero] at hK
            go_simp
            refine hK _ _ ?_
            refine ⟨?_, ?_, ?_, ?_, ?_, ?_, ?_, ?_, ?_, ?_, ?_, ?_, ?_, ?_, ?_, ?_⟩
            all_goals (first | exact hI.x | exact hI.f0 | exact hI.f1 | exact hI.f2 | exact hI.f3 | exact hI.f4 | exact hI.f5 | exact hI.f6 | exact hI.f7 | exact hI.f8 | exact hI.f9 | exact hI.f10 | exact hI.f11 | exact hI.f12 | exact hI.f13 | exact hI.f14 | exact fun _ => rfl | skip)
          · intro L us wx K a ha hp hd hun hI hK
            have HX := hI.x
            have u8 := hI.f8 (hp 8 (by kernel_rfl))
            have bb := (HB1.out.ext HX).cell
            clear hp HX
            replace hd := Lib.hid hd
            simp only [putAll, Act.put, List.setIfInBounds_toArray, List.set_cons_succ, List.set_cons_zero, Nat.reduceAdd, u8] at ha
            subst ha
            simp only [Act.put, List.setIfInBounds_toArray, List.set_cons_succ, List.set_cons_zero] at hK
            go_simp
            refine hK _ _ ?_
            refine ⟨?_, ?_, ?_, ?_, ?_, ?_, ?_, ?_, ?_, ?_, ?_, ?_, ?_, ?_, ?_, ?_⟩
            all_goals (first | exact hI.x | exact hI.f0 | exact hI.f1 | exact hI.f2 | exact hI.f3 | exact hI.f4 | exact hI.f5 | exact hI.f6 | exact hI.f7 | exact hI.f8 | exact hI.f9 | exact hI.f10 | exact hI.f11 | exact hI.f12 | exact hI.f13 | exact hI.f14 | exact fun _ => rfl | skip)
          · intro L us wx K a ha hp hd hun hI hK
            have HX := hI.x
            clear hp HX
            replace hd := Lib.hid hd
            simp only [putAll, Act.put, List.setIfInBounds_toArray, List.set_cons_succ, List.set_cons_zero, Nat.reduceAdd] at ha
            subst ha
            simp only [Act.put, List.setIfInBounds_toArray, List.set_cons_succ, List.set_cons_zero] at hK
            go_simp
            refine hK _ _ ?_
            refine ⟨?_, ?_, ?_, ?_, ?_, ?_, ?_, ?_, ?_, ?_, ?_, ?_, ?_, ?_, ?_, ?_⟩
            all_goals (first | exact hI.x | exact hI.f0 | exact hI.f1 | exact hI.f2 | exact hI.f3 | exact hI.f4 | exact hI.f5 | exact hI.f6 | exact hI.f7 | exact hI.f8 | exact hI.f9 | exact hI.f10 | exact hI.f11 | exact hI.f12 | exact hI.f13 | exact hI.f14 | exact fun _ => rfl | skip)
          · intro L us wx K a ha hp hd hun hI hK
            have HX := hI.x
            have u9 := hI.f9 (hp 9 (by kernel_rfl))
            have u10 := hI.f10 (hp 10 (by kernel_rfl))
            clear hp HX
            replace hd := Lib.hid hd
            simp only [putAll, Act.put, List.setIfInBounds_toArray, List.set_cons_succ, List.set_cons_zero, Nat.reduceAdd, u9, u10] at ha
            subst ha
            simp only [Act.put, List.setIfInBounds_toArray, List.set_cons_succ, List.set_cons_zero] at hK
            go_simp
            refine hK _ _ ?_
            refine ⟨?_, ?_, ?_, ?_, ?_, ?_, ?_, ?_, ?_, ?_, ?_, ?_, ?_, ?_, ?_, ?_⟩
            all_goals (first | exact hI.x | exact hI.f0 | exact hI.f1 | exact hI.f2 | exact hI.f3 | exact hI.f4 | exact hI.f5 | exact hI.f6 | exact hI.f7 | exact hI.f8 | exact hI.f9 | exact hI.f10 | exact hI.f11 | exact hI.f12 | exact hI.f13 | exact hI.f14 | exact fun _ => rfl | skip)
          · intro L us wx K a ha hp hd hun hI hK
            have HX := hI.x
            have u11 := hI.f11 (hp 11 (by kernel_rfl))
            have EX := HEr.out.trans HX
            have d0 := EX.cell (Hc2.out 0 _ rfl)
            have d1 := EX.cell (Hc2.out 1 _ rfl)
            have d2 := EX.cell (Hc2.out 2 _ rfl)
            have d3 := EX.cell (Hc2.out 3 _ rfl)
            have d4 := EX.cell (Hc2.out 4 _ rfl)
            have d5 := EX.cell (Hc2.out 5 _ rfl)
            simp only [Nat.add_zero] at d0
            clear EX
            clear hp HX
            replace hd := Lib.hid hd
            simp only [putAll, Act.put, List.setIfInBounds_toArray, List.set_cons_succ, List.set_cons_zero, Nat.reduceAdd, u11] at ha
            subst ha
            simp only [Act.put, List.setIfInBounds_toArray, List.set_cons_succ, List.set_cons_zero] at hK
            go_simp
            refine hK _ _ ?_
            refine ⟨?_, ?_, ?_, ?_, ?_, ?_, ?_, ?_, ?_, ?_, ?_, ?_, ?_, ?_, ?_, ?_⟩
            all_goals (first | exact hI.x | exact hI.f0 | exact hI.f1 | exact hI.f2 | exact hI.f3 | exact hI.f4 | exact hI.f5 | exact hI.f6 | exact hI.f7 | exact hI.f8 | exact hI.f9 | exact hI.f10 | exact hI.f11 | exact hI.f12 | exact hI.f13 | exact hI.f14 | exact fun _ => rfl | skip)
          · intro L us wx K a ha hp hd hun hI hK
            have HX := hI.x
            have u7 := hI.f7 (hp 7 (by kernel_rfl))
            have u12 := hI.f12 (hp 12 (by kernel_rfl))
            have EX := Lib.hid ((HE1.out.trans HEr.out).trans HX)
            clear hp HX
            replace hd := Lib.hid hd
            simp only [putAll, Act.put, List.setIfInBounds_toArray, List.set_cons_succ, List.set_cons_zero, Nat.reduceAdd, u7, u12] at ha
            subst ha
            simp only [Act.put, List.setIfInBounds_toArray, List.set_cons_succ, List.set_cons_zero] at hK
            go_simp
            go_at_call 66
            refine (P2.out _ EX.out).mono ?_
            rintro e wn ⟨g2, cp, hg, rfl, q1, q2, X, En⟩
            go_simp
            refine hK _ _ ?_
            refine ⟨hI.x.trans En, ?_, ?_, ?_, ?_, ?_, ?_, ?_, ?_, ?_, ?_, ?_, ?_, ?_, ?_, ?_⟩
            all_goals (first | exact hI.f0 | exact hI.f1 | exact hI.f2 | exact hI.f3 | exact hI.f4 | exact hI.f5 | exact fun h => (hI.f6 h).ext En | exact hI.f7 | exact hI.f8 | exact hI.f9 | exact hI.f10 | exact hI.f11 | exact hI.f12 | exact fun h => (hI.f13 h).ext En | exact hI.f14 | exact fun _ => rfl | skip)
            all_goals exact fun _ => ⟨cp, rfl, q1, q2, X⟩
          · intro L us wx K a ha hp hd hun hI hK
            have HX := hI.x
            have u6 := hI.f6 (hp 6 (by kernel_rfl))
            have u13 := hI.f13 (hp 13 (by kernel_rfl))
            obtain ⟨g1, cp1, v6, S1⟩ := rRow u6 Hl1.out
            obtain ⟨g2, cp2, v13, S2⟩ := rRow u13 Hl2.out
            have CC := rCommon_c _ _ _ _ L1 L2 wx S1 S2
            rw [Hl1.out, Hl2.out, Hr.out] at CC
            clear S1 S2 u6 u13
            clear hp HX
            replace hd := Lib.hid hd
            simp only [putAll, Act.put, List.setIfInBounds_toArray, List.set_cons_succ, List.set_cons_zero, Nat.reduceAdd, v6, v13] at ha
            subst ha
            simp only [Act.put, List.setIfInBounds_toArray, List.set_cons_succ, List.set_cons_zero] at hK
            go_simp
            go_at_call 96
            refine (CC).mono ?_
            rintro e wn ⟨rfl, En⟩
            go_simp
            refine hK _ _ ?_
            refine ⟨hI.x.trans En, ?_, ?_, ?_, ?_, ?_, ?_, ?_, ?_, ?_, ?_, ?_, ?_, ?_, ?_, ?_⟩
            all_goals (first | exact hI.f0 | exact hI.f1 | exact hI.f2 | exact hI.f3 | exact hI.f4 | exact hI.f5 | exact fun h => (hI.f6 h).ext En | exact hI.f7 | exact hI.f8 | exact hI.f9 | exact hI.f10 | exact hI.f11 | exact hI.f12 | exact fun h => (hI.f13 h).ext En | exact hI.f14 | exact fun _ => rfl | skip)
          intro L us wx hall hI
          have e14 := hI.f14 (hall 14 (by simp))
          have EX := hI.x
          simp only [putAll, Act.put, List.setIfInBounds_toArray, List.set_cons_succ, List.set_cons_zero, Nat.reduceAdd, e14]
          clear hall hI e14
          have own := own_ext Hown.out EX
          have ErX := HEr.out.trans EX
          cases r
          · go_wp2_with fail
            go_roundw
            case rel => exact ⟨m + 1, _, by omega, by omega, by go_num, rfl, ErX, by rw [Hro.out, Hov.out]; simpa using own⟩
            case measure => simp only [intOf]; omega
          · have hlX : (overL ks bs j ++ rowO ks bs j m).length + 1 ≤ maxLen := by rw [List.length_append]; unfold maxLen; omega
            have hby : ((overL ks bs j ++ rowO ks bs j m).length + 1) * 16 ≤ 140737488355328 := by rw [List.length_append]; omega
            have hTx : T + 1 ≤ wx.heap.size := by have := EX.size; omega
            go_wp2_with (at_builtin; refine wpList_append_one #[.int .i64 j, .int .i64 m] rfl (.tmp 39) (.tmp 43) 75 rfl (T + 1) 127 127 i0 _ 2 16 Try.underlying75 hi0 hz0 hz1 hz2 rfl (by decide) _ _ _ _ rfl own rfl rfl (by simp [Value.oneCell']) hlX hby hTx ?_; intro g7 cap7 w7 own7 hg7)
            go_roundw
            case rel =>
              refine ⟨m + 1, _, by omega, by omega, by go_num, rfl, (ErX.alloc _).grown hg7 (fun r hr => by have := (own.lt r hr).1; have := HZ.out; omega), ?_⟩
              rw [Hro.out, Hov.out, if_pos rfl, ← List.append_assoc]
              obtain ⟨Z, hZ⟩ : ∃ Z, overL ks bs j ++ rowO ks bs j m = Z := ⟨_, rfl⟩
              rw [hZ, List.length_append, List.map_append, List.flatten_append]
              rw [← List.length_append, hZ]
              rw [hZ] at own7
              exact own7
            case measure => simp only [intOf]; omega
        · obtain rfl : m = nb := by omega
          clear hlen3
          go_wp2_with fail
          go_roundw
          case rel => exact ⟨j + 1, _, by omega, by go_num, rfl, Er, by rw [overL_succ, Hnb.out]; exact own⟩
          case measure => simp only [intOf]; omega
    · obtain rfl : j = nb := by omega
      go_wp2_with fail
      go_ret
      obtain ⟨RA, rc, rfl, h1, -⟩ := own_slice0 (rows := (overL ks bs j).map prC) (fun r hr => by obtain ⟨y, -, rfl⟩ := List.mem_map.1 hr; rfl) (by rw [List.length_map]) own
      exact ⟨RA, rc, rfl, h1, E1.trans Er⟩
end Go.Proofs.Ytenigkngmdofiaa
