/- The given statement StandRestsSaid: for every input the law returns true, and each argument reads behind the call as it did. No conditions. -/
import Derived.Test.YtdlclfcfleckmaaGreatBRCap
import Derived.Test.YtdlclfcfleckmaaGreatBOpenR
import Derived.Test.YtdlclfcfleckmaaGreatBOpenN
import Derived.Test.YtdlclfcfleckmaaGreatBRestF
namespace Go.Proofs.YtdlclfcfleckmaaGreat
open Go.RowKit

def great3B (ks : List Knd) (n m : Nat) : Bool := greatB ks n || decide (60 < m)
theorem great3_is {ks : List Knd} {n m : Nat} {b : Bool} (h : great3B ks n m = b) : (greatB ks n = true ∧ b = true) ∨ (greatB ks n = false ∧ decide ((60 : Int) < m) = b) := by
  unfold great3B at h
  cases hg : greatB ks n
  · right
    rw [hg, Bool.false_or] at h
    refine ⟨rfl, ?_⟩
    rw [← h]
    by_cases h6 : 60 < m
    · rw [decide_eq_true h6, decide_eq_true (by omega)]
    · rw [decide_eq_false h6, decide_eq_false (by omega)]
  · left
    rw [hg, Bool.true_or] at h
    exact ⟨rfl, h.symm⟩
set_option maxRecDepth 100000 in
set_option maxHeartbeats 4000000 in
theorem great3_c (qs : List (Knd × KAt)) (QA : Option Addr) (qc : Nat) (bs : List Brk) (B : Option Addr) (cb : Nat) (tab : Int) (HA : Option Addr) (hc : Nat) (hands : List Int) (w : World) (hk : Kinds w QA qc qs) (hb : Bricks w B cb bs) (hh : IntsZ w HA hc hands) :
    Calls Tryz.prog 16 #[.slice QA qs.length qc, .agg #[.slice B bs.length cb], .agg #[.int .i64 tab, .slice HA hands.length hc]] w fun e w' => e = .returned (.bool (great3B (qs.map (·.1)) bs.length hands.length)) ∧ Ext w w' := by
  obtain ⟨W1, hW1, E1, B1, hz1⟩ := mk_ w #[.slice B bs.length cb] 25
  obtain ⟨W2, hW2, E2, B2, hz2⟩ := mk_ W1 #[.int .i64 tab, .slice HA hands.length hc] 28
  have E := E1.trans E2
  have b1 := (B1.ext E2).cell
  have HE := Lib.hid E
  have HB2 := Lib.hid B2
  have b2 := B2.cell
  have hll : hands.length ≤ maxLen := Nat.le_trans hh.le hh.small
  have hbl : bs.length ≤ maxLen := Nat.le_trans hb.1.le hb.1.small
  have G := great_c qs QA qc B bs.length cb W2 (hk.ext E) hbl
  obtain ⟨r, hr⟩ : ∃ r, great3B (qs.map (·.1)) bs.length hands.length = r := ⟨_, rfl⟩
  have Hr := Lib.hid hr
  rcases great3_is hr with ⟨h1, rfl⟩ | ⟨h1, h2⟩
  · rw [h1] at G
    clear hz1 hz2 B1 B2 E1 E2 E hr hk hb hh hbl
    go_enter Tryz.func16, Tryz.ntmps16
    go_wp2_with fail
    refine G.mono ?_
    rintro e W3 ⟨rfl, E3⟩
    go_wp2_with fail
    refine bodyPost_ret (v := .bool true) (by simp [results, Tryz.results16, go_sem]) rfl ⟨by rw [Hr.out], HE.out.trans E3⟩
  · rw [h1] at G
    clear hz1 hz2 B1 B2 E1 E2 E hr hk hb hh hbl
    go_enter Tryz.func16, Tryz.ntmps16
    go_wp2_with fail
    clear b1 b2
    refine G.mono ?_
    rintro e W3 ⟨rfl, E3⟩
    have b2 := (HB2.out.ext E3).cell
    cases r
    · have h3 : (hands.length : Int) ≤ 60 := by rw [decide_eq_false_iff_not] at h2; omega
      go_wp2_with fail
      refine bodyPost_ret (v := .bool false) (by simp [results, Tryz.results16, go_sem]) rfl ⟨by rw [Hr.out], HE.out.trans E3⟩
    · have h3 : (60 : Int) < hands.length := of_decide_eq_true h2
      go_wp2_with fail
      refine bodyPost_ret (v := .bool true) (by simp [results, Tryz.results16, go_sem]) rfl ⟨by rw [Hr.out], HE.out.trans E3⟩
set_option maxRecDepth 100000 in
set_option maxHeartbeats 4000000 in
theorem sameBools_c (l : List Bool) (A A' : Option Addr) (ca ca' : Nat) (w : World) (hs : BoolsZ w A ca l) (hs' : BoolsZ w A' ca' l) (hl : l.length ≤ 100000) :
    Calls Tryz.prog 19 #[.slice A l.length ca, .slice A' l.length ca'] w fun e w' => e = .returned (.bool true) ∧ Ext w w' := by
  have HS := Lib.hid hs
  have HS' := Lib.hid hs'
  have hq : ((l.length : Int) != (l.length : Int)) = false := by simp
  clear hs hs'
  go_enter Tryz.func19, Tryz.ntmps19
  go_wp2_with fail
  go_loopw [13] (fun ii wr => ∃ k : Nat, k ≤ l.length ∧ ii = .int .i64 k ∧ Ext w wr) (fun ii _ => l.length - (intOf ii).toNat)
  case atStart => exact ⟨0, by omega, rfl, Ext.refl w⟩
  case round =>
    obtain ⟨k, hk, rfl, E⟩ := hrel
    by_cases hlt : k < l.length
    · obtain ⟨b, hb⟩ : ∃ b, l[k]? = some b := ⟨_, List.getElem?_eq_getElem hlt⟩
      have hr : (l.map fun b => [Value.bool b])[k]? = some [.bool b] := by rw [List.getElem?_map, hb]; rfl
      obtain ⟨g, off, rfl, -, hc⟩ := SliceIs.cells (HS.out.ext E) (by omega)
      obtain ⟨g', off', rfl, -, hc'⟩ := SliceIs.cells (HS'.out.ext E) (by omega)
      have c0 := hc k _ hr 0 _ rfl
      have c1 := hc' k _ hr 0 _ rfl
      rw [Nat.mul_one, Nat.add_zero] at c0 c1
      have k0 : (0 : Int) ≤ k := by omega
      have k1 : (k : Int) < l.length := by omega
      have hne : (b != b) = false := by simp
      clear hr hc hc' hb
      go_upto_region 6 with (fail)
      refine wp_region_grow (by kernel_rfl) (by kernel_rfl) ?_
      repeat (go_big_quiet_step (fail))
      refine wpQuiet_nil ?_
      intro W3 hW3
      have E3 : Ext wr W3 := by
        obtain ⟨x, rfl⟩ := hW3
        exact (Ext.refl _).grow x
      clear hW3
      obtain ⟨hcW3, hfW3, hzW3⟩ := ext_facts E3
      clear c0 c1
      go_wp2_with fail
      go_roundw
      case rel => exact ⟨k + 1, by omega, by go_num, E.trans E3⟩
      case measure => simp only [intOf]; omega
    · obtain rfl : k = l.length := by omega
      have HE := Lib.hid E
      go_wp2_with fail
      refine bodyPost_ret (v := .bool true) (by simp [results, Tryz.results19, go_sem]) rfl ⟨rfl, HE.out⟩
theorem grdE_len (ks : List Knd) (bs : List Brk) (tab : Int) (hands : List Int) : (grdE ks bs tab hands).length ≤ bs.length := by
  unfold grdE
  split
  · rw [grdL_len]
    exact Nat.le_refl _
  · exact Nat.zero_le _
set_option maxRecDepth 100000 in
set_option maxHeartbeats 8000000 in
theorem rests_walk (qs : List (Knd × KAt)) (QA : Option Addr) (qc : Nat) (bs : List Brk) (B : Option Addr) (cb : Nat) (tab : Int) (HA : Option Addr) (hc : Nat) (hands : List Int) (i k : Int) (w : World) (hk : Kinds w QA qc qs) (hb : Bricks w B cb bs) (hh : IntsZ w HA hc hands) :
    Calls Tryz.prog 3 #[.slice QA qs.length qc, .agg #[.slice B bs.length cb], .agg #[.int .i64 tab, .slice HA hands.length hc], .int .i64 i, .int .i64 k] w fun e w' => e = .returned (.bool true) ∧ Ext w w' := by
  obtain ⟨W1, hW1, E1, B1, hz1⟩ := mk_ w #[.slice B bs.length cb] 25
  obtain ⟨W2, hW2, E2, B2, hz2⟩ := mk_ W1 #[.int .i64 tab, .slice HA hands.length hc] 28
  have E := E1.trans E2
  have B12 := B1.ext E2
  have b1 := B12.cell
  have b2 := B2.cell
  have HE := Lib.hid E
  have HB1 := Lib.hid B12
  have HB2 := Lib.hid B2
  have G := great3_c qs QA qc bs B cb tab HA hc hands W2 (hk.ext E) (hb.ext E) (hh.ext E)
  have HGr := Lib.hid (fun (W : World) (E : Ext w W) => grounded_c qs QA qc bs B cb tab HA hc hands W (hk.ext E) (hb.ext E) (hh.ext E))
  have HGq := Lib.hid (fun (W : World) (E : Ext w W) => rGrounded_c qs QA qc bs B cb tab HA hc hands W (hk.ext E) (hb.ext E) (hh.ext E))
  have HCr := Lib.hid (fun (W : World) (E : Ext w W) => checkRest_c qs QA qc bs B cb tab HA hc hands W (hk.ext E) (hb.ext E) (hh.ext E))
  have HCq := Lib.hid (fun (W : World) (E : Ext w W) => rCheckRest_c qs QA qc bs B cb tab HA hc hands W (hk.ext E) (hb.ext E) (hh.ext E))
  have HPr := Lib.hid (fun (W : World) (E : Ext w W) => capacity_c qs QA qc bs B cb i k W (hk.ext E) (hb.ext E))
  have HPq := Lib.hid (fun (W : World) (E : Ext w W) => rCapacity_c qs QA qc bs B cb i k W (hk.ext E) (hb.ext E))
  obtain ⟨r, hr⟩ : ∃ r, great3B (qs.map (·.1)) bs.length hands.length = r := ⟨_, rfl⟩
  rw [hr] at G
  have HL := Lib.hid (fun (h : r = false) => show bs.length ≤ 100000 by
    rw [h] at hr
    unfold great3B at hr
    rw [Bool.or_eq_false_iff] at hr
    have := (greatB_kinds hr.1).2.1
    omega)
  unfold GrdPost at HGr HGq
  obtain ⟨err, herr⟩ : ∃ x, restErr (qs.map (·.1)) bs tab hands = x := ⟨_, rfl⟩
  obtain ⟨gl, hgl⟩ : ∃ x, grdE (qs.map (·.1)) bs tab hands = x := ⟨_, rfl⟩
  obtain ⟨cr, hcr⟩ : ∃ x, capR (qs.map (·.1)) bs i k = x := ⟨_, rfl⟩
  obtain ⟨ce, hce⟩ : ∃ x, capErr (qs.map (·.1)) bs i k = x := ⟨_, rfl⟩
  have HLg := Lib.hid (show gl.length ≤ bs.length by rw [← hgl]; exact grdE_len _ _ _ _)
  rw [herr, hgl] at HGr HGq
  rw [herr] at HCr HCq
  rw [hcr, hce] at HPr HPq
  clear hz1 hz2 B1 B2 B12 E1 E2 E hk hb hh hr herr hgl hcr hce
  go_enter Tryz.func3, Tryz.ntmps3
  go_wp2_with fail
  refine G.mono ?_
  rintro e W3 ⟨rfl, E3⟩
  have HE3 := Lib.hid (HE.out.trans E3)
  have HB13 := Lib.hid (HB1.out.ext E3)
  have HB23 := Lib.hid (HB2.out.ext E3)
  clear E3 hW1 hW2 G
  cases r
  · have hL := HL.out rfl
    clear b1 b2
    have b1 := HB13.out.cell
    have b2 := HB23.out.cell
    go_wp2_with fail
    clear b1 b2
    refine (HGr.out _ HE3.out).mono ?_
    rintro e W4 ⟨GA, gc, rfl, Z1, E4⟩
    have HE4 := Lib.hid (HE3.out.trans E4)
    have HB14 := Lib.hid (HB13.out.ext E4)
    have HB24 := Lib.hid (HB23.out.ext E4)
    have b1 := HB14.out.cell
    have b2 := HB24.out.cell
    clear E4
    go_wp2_with fail
    clear b1 b2
    refine (HGq.out _ HE4.out).mono ?_
    rintro e W5 ⟨GB, gd, rfl, Z2, E5⟩
    have HE5 := Lib.hid (HE4.out.trans E5)
    have HB15 := Lib.hid (HB14.out.ext E5)
    have HB25 := Lib.hid (HB24.out.ext E5)
    have b1 := HB15.out.cell
    have b2 := HB25.out.cell
    have HZ1 := Lib.hid (Z1.ext E5)
    have HZ2 := Lib.hid Z2
    have HSB := Lib.hid (fun (W : World) (E : Ext W5 W) => sameBools_c gl GA GB gc gd W (HZ1.out.ext E) (HZ2.out.ext E) (by have := HLg.out; omega))
    have HE55 := Lib.hid (Ext.refl W5)
    have hq : (err != err) = false := by simp
    clear E5 Z1 Z2
    go_upto_region 5 with (fail)
    refine wp_region_grow (by kernel_rfl) (by kernel_rfl) ?_
    repeat (go_big_quiet_step ((first | (go_at_call 19; exact quiet_ext (HSB.out _ (HE55.out.grow _))) | (go_at_call 20; exact quiet_ext (HCr.out _ (HE5.out.grow _))) | (go_at_call 21; exact quiet_ext (HCq.out _ (HE5.out.grow _))))))
    refine wpQuiet_nil ?_
    intro W6 hW6
    have E6 : Ext W5 W6 := by
      obtain ⟨x, rfl⟩ := hW6
      exact (Ext.refl _).grow x
    clear hW6
    obtain ⟨hcW6, hfW6, hzW6⟩ := ext_facts E6
    clear hcW6 hfW6 hzW6 b1 b2 hq
    have HE6 := Lib.hid (HE5.out.trans E6)
    have b1 := (HB15.out.ext E6).cell
    have HB16 := Lib.hid (HB15.out.ext E6)
    clear E6
    go_wp2_with fail
    clear b1
    refine (HPr.out _ HE6.out).mono ?_
    rintro e W7 ⟨rfl, E7⟩
    have b1 := (HB16.out.ext E7).cell
    have HE7 := Lib.hid (HE6.out.trans E7)
    clear E7
    go_wp2_with fail
    clear b1
    refine (HPq.out _ HE7.out).mono ?_
    rintro e W8 ⟨rfl, E8⟩
    have hq1 : (cr == cr) = true := by simp
    have hq2 : (ce == ce) = true := by simp
    have HE8 := Lib.hid (HE7.out.trans E8)
    clear E8
    go_wp2_with fail
    refine bodyPost_ret (v := .bool true) (by simp [results, Tryz.results3, go_sem]) rfl ⟨rfl, HE8.out⟩
  · go_wp2_with fail
    refine bodyPost_ret (v := .bool true) (by simp [results, Tryz.results3, go_sem]) rfl ⟨rfl, HE3.out⟩
end Go.Proofs.YtdlclfcfleckmaaGreat
namespace Go.Proofs.YtdlclfcfleckmaaGreat
open Go.RowKit Go.ChangeShapes Go.WideShapes Go.ChangeAt Go.Deep Go.Joins

set_option maxRecDepth 100000 in
theorem standRests_lifted (os : Os) (started : os.Started) (H : Type) (enc : TypeId × Value → H) :
    ReturnsInHanded {} Tryz.checked os 3 .any (Rows.standRestsSpec.pre6 enc Tryz.prog Tryz.f3 Rows.standRestsRow.domain false) (Rows.standRestsSpec.post enc Tryz.prog Tryz.f3 false true false false) := by
  refine returnsInHanded_of_change (C := Tryz.checked) Tryz.own started (by kernel_rfl) Tryz.func3
    (ChangeSpec.witness6 (enc := enc) (C := Tryz.checked) false ⟨#[], #[.slice none 0 0, .agg #[.slice none 0 0], .agg #[.int .i64 0, .slice none 0 0], .int .i64 0, .int .i64 0], []⟩ 8 (by kernel_rfl) (by kernel_rfl) (by kernel_rfl) (by kernel_rfl)) ?_
  intro W base args ds gs before hval0 hW hcnd _
  have hval : ∀ (j : Nat) t v, Tryz.f3.params[j]? = some t → args[j]? = some v → Value.okWide Tryz.prog W .any base t v := hval0
  have hW' := hW
  obtain ⟨p, q, hA0, hV, rfl, hfz, hnd⟩ := hW
  have hA : DataW.TrodAll enc Tryz.prog W 0 (fun _ => true) true Tryz.f3.params.toList args.toList ds p := hA0
  rw [Tryz.params3] at hA hval
  have hAll := hA
  obtain ⟨v0, v1, v2, v3, v4, d0, d1, d2, d3, d4, p0, p1, p2, p3, p4, rfl, rfl, rfl, h0, h1, h2, h3, h4⟩ := trodAll_five hA
  obtain ⟨rfl, rfl⟩ := trodVars_none hV
  obtain ⟨C, n1, cc, rfl⟩ := okWide_slice Tryz.underlying22 (hval 0 22 v0 rfl rfl)
  obtain ⟨fu0, hf0⟩ := h0
  obtain ⟨qs, rfl, hk, -⟩ := kinds_of_trod (by simpa [Value.cells] using hf0)
  obtain ⟨D, cd, bs, rfl, hb, -⟩ := model_open (hval 1 25 v1 rfl rfl) h1
  obtain ⟨tab, HA, hc, hands, rfl, hh⟩ := rest_open (hval 2 28 v2 rfl rfl) h2
  obtain ⟨n3, rfl⟩ := int_open (hval 3 3 v3 rfl rfl) h3
  obtain ⟨n4, rfl⟩ := int_open (hval 4 3 v4 rfl rfl) h4
  clear hA0 hval0
  simp only [List.append_nil] at hW' hAll
  have hlt : ∀ q ∈ p0 ++ p1 ++ p2 ++ p3 ++ p4, q.block < W.heap.size := fun q hq => hW'.lt q hq
  refine (rests_walk qs C cc bs D cd tab HA hc hands n3 n4 W hk hb hh).mono fun e W' ⟨he, hE⟩ => ?_
  subst he
  refine ⟨_, rfl, ?_⟩
  refine ⟨_, _, _, [], p0 ++ p1 ++ p2 ++ p3 ++ p4, [], hW', ?_, ?_, rfl, hE.frame _, fun h => by cases h⟩
  · exact trodAll_mk1 (shut_bool Tryz.underlying4 true)
  · exact trodAll_ext (ts := [22, 25, 28, 3, 3]) Tryz.laidOut hE (by
      intro t ht
      simp only [List.mem_cons, List.not_mem_nil, or_false] at ht
      rcases ht with rfl | rfl | rfl | rfl | rfl <;> exact ⟨by kernel_rfl, of_decide_eq_true (by kernel_rfl)⟩) hAll hlt

theorem standRests_holds : Rows.StandRestsSaid :=
  OpenClaim.holds_of_wide 3 Tryz.f3 rfl rfl rfl rfl rfl rfl rfl ⟨rfl, rfl, rfl, rfl, rfl⟩ rfl rfl rfl rfl rfl (by kernel_rfl) Tryz.func3 standRests_facts
    (of_decide_eq_true (by kernel_rfl)) (by unfold Func.isWrapper; rw [if_neg (of_decide_eq_false (by kernel_rfl))]; exact ⟨rfl, rfl⟩)
    (fun os started H enc _ => standRests_lifted os started H enc)
#print axioms standRests_holds
end Go.Proofs.YtdlclfcfleckmaaGreat
