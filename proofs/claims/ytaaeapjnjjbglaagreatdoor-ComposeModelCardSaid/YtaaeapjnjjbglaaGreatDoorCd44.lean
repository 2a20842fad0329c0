/- The given statement ComposeModelCardSaid: for every input the law returns true, and each argument reads behind the call as it did; the listed table is tied to the program's text. No other conditions. -/
import Derived.Test.YtaaeapjnjjbglaaGreatDoorCd13
import Derived.Test.YtaaeapjnjjbglaaGreatDoorCd23
import Derived.Test.YtaaeapjnjjbglaaGreatDoorCd24
import Derived.Test.YtaaeapjnjjbglaaGreatDoorCd31
import Derived.Test.YtaaeapjnjjbglaaGreatDoorCd42
import Derived.Test.YtaaeapjnjjbglaaGreatDoorCd43
import Derived.SevenTiedAt

namespace Go.Proofs.YtaaeapjnjjbglaaGreatDoor
open Go.RowKit

theorem natZ_get {l : List Nat} {k : Nat} (h : k < l.length) : (Lat.natZ l)[k]? = some ((l.getD k 0 : Nat) : Int) := Lat.natZ_at h
set_option maxRecDepth 100000 in
set_option maxHeartbeats 8000000 in
theorem modelLaw_walk (s : Shape) (A : Option Addr) (cap : Nat) (l : List Plate) (PA : Option Addr) (pcap : Nat) (c : List Laid) (CA : Option Addr) (ccap : Nat) (w : World) (hs : Bytes w A cap s.cells) (hl : Plates w PA pcap l) (hcs : Laids w CA ccap c) (hT : TzTab w) :
    Calls Tryz.prog 3 #[.agg #[.int .i64 s.W, .int .i64 s.D, .int .i64 s.H, .slice A s.cells.length cap], .slice PA l.length pcap, .slice CA c.length ccap] w fun e w' => e = .returned (.bool true) ∧ Ext w w' := by
  have hn1 := hs.len
  have hn2 := hl.len
  have hn3 : c.length ≤ maxLen := Nat.le_trans hcs.le hcs.small
  have CM := Lib.hid (fun W => much_c s.W s.D s.H A PA CA s.cells.length l.length c.length cap pcap ccap hn1 hn2 hn3 W)
  unfold maxLen at hn1 hn2 hn3
  obtain ⟨W1, hW1, E1, B1, hz1⟩ := box_ w #[.int .i64 s.W, .int .i64 s.D, .int .i64 s.H, .slice A s.cells.length cap] 24
  obtain ⟨mb, hmb⟩ : ∃ b, muchB s.cells.length l.length c.length = b := ⟨_, rfl⟩
  rw [hmb] at CM
  have Hmb := Lib.hid hmb
  have Hs := Lib.hid hs
  have Hl := Lib.hid hl
  have Hc := Lib.hid hcs
  have HT := Lib.hid hT
  clear hmb hs hl hcs
  go_enter Tryz.func3, Tryz.ntmps3
  go_wp2_with fail
  refine (alive_c _ (hT.ext E1)).mono ?_
  rintro e W2 ⟨rfl, E2⟩
  have HE2 := Lib.hid (E1.trans E2)
  have HB2 := Lib.hid (B1.ext E2)
  clear E1 E2 B1 hz1 hW1 hT
  have b2 := HB2.out.cell
  go_wp2_with fail
  refine (CM.out _).mono ?_
  rintro e W3 ⟨rfl, E3⟩
  have HE3 := Lib.hid (HE2.out.trans E3)
  have HB3 := Lib.hid (HB2.out.ext E3)
  clear E3 b2
  have b3 := HB3.out.cell
  cases mb
  · have hmuch := Hmb.out
    unfold muchB at hmuch
    simp only [Bool.or_eq_false_iff, decide_eq_false_iff_not] at hmuch
    have hcl : c.length ≤ 30 := by omega
    have hll : l.length ≤ 20 := by omega
    clear hmuch
    obtain ⟨ce, hce⟩ : ∃ v, compErr s l c = v := ⟨_, rfl⟩
    have Hce := Lib.hid hce
    by_cases hc0 : ce = 0
    · subst hc0
      have CMo := model_ok s A cap l PA pcap c CA ccap hce (by omega) W3 (Hs.out.ext HE3.out) (Hl.out.ext HE3.out) (Hc.out.ext HE3.out)
      clear hce
      go_wp2_with fail
      refine CMo.mono ?_
      rintro e W4 ⟨⟨v4, rfl, own4⟩, E4⟩
      obtain ⟨MA, mc, rfl⟩ := ownForm own4
      have HBr := Lib.hid (bricks_at (Hs.out.2) own4)
      have HE4 := Lib.hid (HE3.out.trans E4)
      have HB4 := Lib.hid (HB3.out.ext E4)
      clear own4 E4 CMo b3
      obtain ⟨W5, hW5, E5, B5, hz5⟩ := box_ W4 #[.slice MA c.length mc] 31
      obtain ⟨GM, hGM⟩ : ∃ g, W4.heap.size = g := ⟨_, rfl⟩
      rw [hGM] at B5
      have HB5 := Lib.hid (HB4.out.ext E5)
      have HM5 := Lib.hid B5
      have HBr5 := Lib.hid (HBr.out.ext E5)
      have HE5 := Lib.hid (HE4.out.trans E5)
      obtain ⟨hg, hhg⟩ : ∃ v, hangR s l c = v := ⟨_, rfl⟩
      have CH := hangsTop_c s A cap l PA pcap c CA ccap (by omega) W5 (Hs.out.ext HE5.out) (Hl.out.ext HE5.out) (Hc.out.ext HE5.out) (HT.out.ext HE5.out)
      rw [Hce.out, hhg] at CH
      have Hhg := Lib.hid hhg
      have b5 := HB5.out.cell
      clear E5 B5 hz5 hhg
      go_wp2_with fail
      refine CH.mono ?_
      rintro e W5b ⟨rfl, E5b⟩
      have HE5b := Lib.hid (HE5.out.trans E5b)
      have HB5b := Lib.hid (HB5.out.ext E5b)
      have HM5b := Lib.hid (HM5.out.ext E5b)
      have HBr5b := Lib.hid (HBr5.out.ext E5b)
      clear hW5 hGM CH E5b b5
      have CK := kinds_c l PA pcap (comp_parts Hce.out).2.1 W5b (Hl.out.ext HE5b.out)
      go_wp2_with fail
      refine CK.mono ?_
      rintro e W6 hk6
      clear CK
      cases htb : tooBig l
      · obtain ⟨⟨OA, oc, rows, rfl, own6, hown6⟩, E6⟩ := hk6.1 htb
        obtain ⟨qs, hqs, hkq⟩ := kinds_at own6 hown6
        have hql : qs.length = l.length := by
          have := congrArg List.length hqs
          simpa using this
        have HE6 := Lib.hid (HE5b.out.trans E6)
        have HM6 := Lib.hid (HM5b.out.ext E6)
        have HBr6 := Lib.hid (HBr5b.out.ext E6)
        obtain ⟨kr, hkr⟩ : ∃ v, Lat.kindsErr (qs.map (·.1)) = v := ⟨_, rfl⟩
        have CKi := Lat.checkKinds_is hkr hkq
        rw [hql] at CKi
        have b6 := HM6.out.cell
        by_cases hk0 : kr = 0
        · subst hk0
          have hkr2 : Lat.kindsErr (l.map kndOf) = 0 := by rw [← hqs]; exact hkr
          have hchk : Lat.checkErr (qs.map (·.1)) (c.map (brkOf s l)) = 0 := by rw [hqs]; exact model_check Hce.out hkr2 (by omega)
          have Hchk := Lib.hid hchk
          have Hqs := Lib.hid hqs
          have Hql := Lib.hid hql
          have Hkq := Lib.hid hkq
          clear hkr hkr2 hqs hql E6 hk6 own6 hown6 htb hkq hchk
          go_wp2_with fail
          refine CKi.mono ?_
          rintro e W7 ⟨rfl, E7⟩
          have HE7 := Lib.hid (HE6.out.trans E7)
          have HM7 := Lib.hid (HM6.out.ext E7)
          have HBr7 := Lib.hid (HBr6.out.ext E7)
          have HK7 := Lib.hid (Hkq.out.ext E7)
          clear E7 CKi b6
          have b7 := HM7.out.cell
          have hfew := Lat.links_few HK7.out HBr7.out.2 Hchk.out
          have CG := Lat.groupsG_c qs OA oc (c.map (brkOf s l)) MA mc W7 HK7.out HBr7.out Hchk.out hfew
          rw [Hql.out, List.length_map, Hqs.out] at CG
          clear hfew
          obtain ⟨gl, hgl⟩ : ∃ g, Lat.groupL (Lat.linkL (l.map kndOf) (c.map (brkOf s l))) c.length = g := ⟨_, rfl⟩
          rw [hgl] at CG
          have hgn : gl.length = c.length := by
            have := (Lat.groupL_least (L := Lat.linkL (l.map kndOf) (c.map (brkOf s l))) (n := c.length) (by
              have := linkL_in (ks := l.map kndOf) (bs := c.map (brkOf s l))
              rwa [List.length_map] at this)).1
            rw [hgl] at this
            exact this
          have Hgh := Lib.hid (groups_hang (s := s) (comp_parts Hce.out).2.1 (comp_parts Hce.out).2.2)
          rw [hgl] at Hgh
          have Hgn := Lib.hid hgn
          clear hgn hgl
          go_wp2_with fail
          refine CG.mono ?_
          rintro e W8 ⟨GA, gc, rfl, hZ, E8⟩
          rw [Lat.natZ_len, Hgn.out]
          have HZ := Lib.hid hZ
          have HE8 := Lib.hid (HE7.out.trans E8)
          have HM8 := Lib.hid (HM7.out.ext E8)
          have CC := Lat.checkM_c qs OA oc (c.map (brkOf s l)) MA mc W8 (HK7.out.ext E8) (HBr7.out.ext E8)
          rw [Hql.out, List.length_map, Hchk.out] at CC
          clear E8 CG hZ b7
          have b8 := HM8.out.cell
          go_wp2_with fail
          refine CC.mono ?_
          rintro e W9 ⟨rfl, E9⟩
          have HE9 := Lib.hid (HE8.out.trans E9)
          have HZ9 := Lib.hid (HZ.out.ext E9)
          clear E9 CC b8
          go_wp2_with fail
          go_loopw [16, 91] (fun one i wr => ∃ (k : Nat) (b : Bool), k ≤ c.length ∧ i = .int .i64 k ∧ one = .bool b ∧ (b = true ↔ ∀ j, j < k → gl.getD j 0 = 0) ∧ Ext W9 wr) (fun _ i _ => c.length - (intOf i).toNat)
          case atStart => exact ⟨0, true, by omega, rfl, rfl, ⟨fun _ j hj => by omega, fun _ => rfl⟩, Ext.refl _⟩
          case round =>
            obtain ⟨k, b, hk, rfl, rfl, hb, E⟩ := hrel
            have Hb := Lib.hid hb
            clear hb
            by_cases hlt : k < c.length
            · obtain ⟨gb, off, v, rfl, hv, hgb, hcell⟩ := (HZ9.out.ext E).at_ (show k < (Lat.natZ gl).length by rw [Lat.natZ_len, Hgn.out]; exact hlt)
              rw [natZ_get (by rw [Hgn.out]; exact hlt)] at hv
              obtain rfl := Option.some.inj hv
              obtain ⟨v, hv2⟩ : ∃ v, gl.getD k 0 = v := ⟨_, rfl⟩
              rw [hv2] at hcell
              have Hv := Lib.hid hv2
              clear hv hv2
              have HE := Lib.hid E
              clear E
              have step : Hid (∀ b' : Bool, (b' = true ↔ b = true ∧ v = 0) → (b' = true ↔ ∀ j, j < k + 1 → gl.getD j 0 = 0)) := Lib.hid (fun b' h => by
                rw [h, Hb.out]
                constructor
                · rintro ⟨h1, h2⟩ j hj
                  rcases Nat.lt_or_ge j k with h3 | h3
                  · exact h1 j h3
                  · obtain rfl : j = k := by omega
                    rw [Hv.out, h2]
                · intro h1
                  exact ⟨fun j hj => h1 j (by omega), by rw [← Hv.out]; exact h1 k (by omega)⟩)
              cases b
              · go_wp2_with fail
                go_roundw
                case rel => exact ⟨k + 1, false, by omega, by go_num, rfl, step.out false (by simp), HE.out⟩
                case measure => simp only [intOf]; omega
              · go_wp2_with fail
                go_roundw
                case rel => exact ⟨k + 1, ((v : Int) == 0), by omega, by go_num, rfl, step.out _ (by simp), HE.out⟩
                case measure => simp only [intOf]; omega
            · obtain rfl : k = c.length := by omega
              have hbh : b = hg := by
                rw [← Hhg.out]
                unfold hangR
                rw [if_pos Hce.out]
                exact Bool.eq_iff_iff.2 (Hb.out.trans Hgh.out)
              subst hbh
              have HE := Lib.hid E
              clear E
              go_wp2_with fail
              go_ret
              exact ⟨by simp, HE9.out.trans HE.out⟩
        · have hk1 : (kr != 0) = true := by simpa using hk0
          clear hkr hqs hk0 own6 hown6 htb hk6 E6
          go_wp2_with fail
          refine CKi.mono ?_
          rintro e W7 ⟨rfl, E7⟩
          go_wp2_with fail
          go_ret
          exact ⟨rfl, HE6.out.trans E7⟩
      · obtain ⟨rfl, E6⟩ := hk6.2 htb
        have HE6 := Lib.hid (HE5b.out.trans E6)
        have b6 := (HM5b.out.ext E6).cell
        clear E6 hk6 htb
        go_wp2_with fail
        go_ret
        exact ⟨rfl, HE6.out⟩
    · have CMb := model_bad s A cap l PA pcap c CA ccap ce hce hc0 (by omega) W3 (Hs.out.ext HE3.out) (Hl.out.ext HE3.out) (Hc.out.ext HE3.out)
      have h1 : (ce != 0) = true := by simpa using hc0
      clear hce hc0
      go_wp2_with fail
      refine CMb.mono ?_
      rintro e W4 ⟨rfl, E4⟩
      have HE4 := Lib.hid (HE3.out.trans E4)
      clear E4 CMb b3
      go_wp2_with fail
      go_ret
      exact ⟨rfl, HE4.out.alloc _⟩
  · go_wp2_with fail
    go_ret
    exact ⟨rfl, HE3.out⟩
end Go.Proofs.YtaaeapjnjjbglaaGreatDoor

namespace Go.Proofs.YtaaeapjnjjbglaaGreatDoor
open Go.RowKit Go.ChangeShapes Go.WideShapes Go.ChangeAt Go.Deep Go.Joins

set_option maxRecDepth 100000 in
theorem modelLaw_lifted (os : Os) (started : os.Started) (H : Type) (enc : TypeId × Value → H) :
    ReturnsInHanded {} Tryz.checked os 3 .any (fun w args => (Rows.composeModelSpec.pre enc Tryz.prog Tryz.f3 [] false w args ∧ laidMetH Tryz.prog laidTab w) ∧ sizedMet enc Tryz.prog Tryz.f3 (OpenSpec.ofChange Rows.composeModelSpec) false w args)
      (Rows.composeModelSpec.post enc Tryz.prog Tryz.f3 false true false false) := by
  refine returnsInHanded_of_change_and (C := Tryz.checked) (X := fun w _ => laidMetH Tryz.prog laidTab w) (fun _ _ _ hh h => h.of_heap hh) Tryz.own started (by kernel_rfl) Tryz.func3
    (ChangeSpec.witness_at (enc := enc) (C := Tryz.checked) (os := os) (X := fun w _ => laidMetH Tryz.prog laidTab w) false (laidWorld os) #[.agg #[.int .i64 0, .int .i64 0, .int .i64 0, .slice none 0 0], .slice none 0 0, .slice none 0 0] 8 rfl (by kernel_rfl) (by kernel_rfl) (by kernel_rfl) (by kernel_rfl) (by kernel_rfl) (laidWorld_met os _)) ?_
  intro W base args ds gs before hval0 hW _ _ hL _
  have hval : ∀ (j : Nat) t v, Tryz.f3.params[j]? = some t → args[j]? = some v → Value.okWide Tryz.prog W .any base t v := hval0
  have hW' := hW
  obtain ⟨p, q, hA0, hV, rfl, hfz, hnd⟩ := hW
  have hA : DataW.TrodAll enc Tryz.prog W 0 (fun _ => true) true Tryz.f3.params.toList args.toList ds p := hA0
  rw [Tryz.params3] at hA hval
  have hAll := hA
  obtain ⟨v0, v1, v2, d0, d1, d2, p0, p1, p2, rfl, rfl, rfl, h0, h1, h2⟩ := trodAll_three hA
  obtain ⟨rfl, rfl⟩ := trodVars_none hV
  obtain ⟨c0, c1, c2, c3, y0, y1, y2, y3, m, rfl, rfl, rfl, hy0, hy1, hy2, hy3⟩ := open_agg4 Tryz.underlying24 (by kernel_rfl) cells_shape (hval 0 24 v0 rfl rfl) h0
  obtain ⟨x, e0, e0', -⟩ := DataW.trod_int Tryz.underlying3 hy0
  obtain ⟨y, e1, e1', -⟩ := DataW.trod_int Tryz.underlying3 hy1
  obtain ⟨z, e2, e2', -⟩ := DataW.trod_int Tryz.underlying3 hy2
  simp at e0 e1 e2
  subst e0 e1 e2
  have hc3 : ∃ A n ca, c3 = .slice A n ca := by
    rcases open_slice Tryz.underlying22 hy3 with ⟨h, _⟩ | ⟨a, len, cap', _, _, _, _, h, _⟩
    · exact ⟨none, 0, 0, by simpa using h⟩
    · exact ⟨some a, len, cap', by simpa using h⟩
  obtain ⟨A, n, ca, rfl⟩ := hc3
  obtain ⟨cs, hcl, hcs⟩ := bytes_of_trod hy3
  obtain ⟨B, n1, cb, rfl⟩ := okWide_slice Tryz.underlying25 (hval 1 25 v1 rfl rfl)
  obtain ⟨C, n2, cc, rfl⟩ := okWide_slice Tryz.underlying26 (hval 2 26 v2 rfl rfl)
  obtain ⟨fu1, hf1⟩ := h1
  obtain ⟨fu2, hf2⟩ := h2
  obtain ⟨l, rfl, hpl⟩ := plates_of_trod (by simpa [Value.cells] using hf1)
  obtain ⟨ls, rfl, hla⟩ := laids_of_trod (by simpa [Value.cells] using hf2)
  subst hcl
  clear hA0 hval0
  simp only [List.append_nil] at hW' hAll
  have hlt : ∀ q ∈ (y0.2 ++ (y1.2 ++ (y2.2 ++ y3.2))) ++ p1 ++ p2, q.block < W.heap.size := fun q hq => hW'.lt q hq
  refine (modelLaw_walk ⟨x, y, z, cs⟩ A ca l B cb ls C cc W hcs hpl hla (tz_of_laid hL)).mono fun e W' ⟨he, hE⟩ => ?_
  subst he
  refine ⟨_, rfl, ?_⟩
  refine ⟨_, _, _, [], (y0.2 ++ (y1.2 ++ (y2.2 ++ y3.2))) ++ p1 ++ p2, [], hW', ?_, ?_, rfl, hE.frame _, fun h => by cases h⟩
  · exact trodAll_mk1 (shut_bool Tryz.underlying4 true)
  · exact trodAll_ext (ts := [24, 25, 26]) Tryz.laidOut hE (by
      intro t ht
      simp only [List.mem_cons, List.not_mem_nil, or_false] at ht
      rcases ht with rfl | rfl | rfl <;> exact ⟨by kernel_rfl, of_decide_eq_true (by kernel_rfl)⟩) hAll hlt

theorem composeModel_row : Rows.ComposeModelSaid :=
  OpenClaim.holds_of_wide 3 Tryz.f3 rfl rfl rfl rfl rfl rfl rfl ⟨rfl, rfl, rfl, rfl, rfl⟩ rfl rfl rfl rfl rfl (by kernel_rfl) Tryz.func3 (by kernel_rfl)
    (of_decide_eq_true (by kernel_rfl)) (by unfold Func.isWrapper; rw [if_neg (of_decide_eq_false (by kernel_rfl))]; exact ⟨rfl, rfl⟩)
    (fun os started H enc _ => modelLaw_lifted os started H enc)
theorem composeModel_holds : Rows.ComposeModelCardSaid :=
  Claim7.holds_tied_plain_at .later [] [.data] true Rows.composeModelCard.stood.harness false
    composeModel_row (fun _ h => by cases h) (by kernel_rfl) (fun _ h => by cases h) composeModel_row_tie rfl ⟨rfl, rfl⟩ (by kernel_rfl) rfl
    (fun f fn hf hfn => by
      obtain rfl : f = 3 := Option.some.inj ((show Tryz.prog.funcNamed "studwork/studworklaw07.ComposeModel" = some 3 by kernel_rfl).symm.trans hf) |>.symm
      obtain rfl : fn = Tryz.f3 := (Option.some.inj (Tryz.func3.symm.trans hfn)).symm
      exact ⟨by kernel_rfl, fun j t ht => by
        rw [Tryz.params3] at ht
        have ht := List.mem_of_getElem? (show ([24, 25, 26] : List TypeId)[j]? = some t by simpa using ht)
        simp only [List.mem_cons, List.not_mem_nil, or_false] at ht
        rcases ht with rfl | rfl | rfl
        · exact (show Tryz.prog.wantsStandIn 24 = false by kernel_rfl)
        · exact (show Tryz.prog.wantsStandIn 25 = false by kernel_rfl)
        · exact (show Tryz.prog.wantsStandIn 26 = false by kernel_rfl)⟩)
    (by kernel_rfl)
#print axioms composeModel_holds
end Go.Proofs.YtaaeapjnjjbglaaGreatDoor
