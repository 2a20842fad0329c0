/- Grounded of the reference, bools of the law. -/
import Derived.Test.YtdlclfcfleckmaaGreatBRRest
import Derived.Test.YtdlclfcfleckmaaGreatBStand
namespace Go.Proofs.YtdlclfcfleckmaaGreat
open Go.RowKit

set_option maxRecDepth 100000 in
set_option maxHeartbeats 8000000 in
theorem rGrounded_c (qs : List (Knd × KAt)) (QA : Option Addr) (qc : Nat) (bs : List Brk) (B : Option Addr) (cb : Nat) (tab : Int) (HA : Option Addr) (hc : Nat) (hands : List Int) (w : World) (hk : Kinds w QA qc qs) (hb : Bricks w B cb bs) (hh : IntsZ w HA hc hands) :
    Calls Tryz.prog 18 #[.slice QA qs.length qc, .agg #[.slice B bs.length cb], .agg #[.int .i64 tab, .slice HA hands.length hc]] w (GrdPost (qs.map (·.1)) bs tab hands w) := by
  obtain ⟨W1, hW1, E1, B1, hz1⟩ := mk_ w #[.slice B bs.length cb] 25
  obtain ⟨W2, hW2, E2, B2, hz2⟩ := mk_ W1 #[.int .i64 tab, .slice HA hands.length hc] 28
  have E := E1.trans E2
  have B12 := B1.ext E2
  have b1 := B12.cell
  have b2 := B2.cell
  have HB1 := Lib.hid B12
  have HB2 := Lib.hid B2
  have HE := Lib.hid E
  have RE := rCheckRest_c qs QA qc bs B cb tab HA hc hands W2 (hk.ext E) (hb.ext E) (hh.ext E)
  obtain ⟨i9, hi9, hz9, hz91, hz92⟩ := info_parts infoBoolR
  by_cases h0 : restErr (qs.map (·.1)) bs tab hands = 0
  · have Hg := Lib.hid (show grdE (qs.map (·.1)) bs tab hands = grdL (qs.map (·.1)) bs tab hands bs.length from if_pos h0)
    have hcm := (restErr_zero h0).1
    have hnb := (fit_of hk hb.2 hcm).n
    have OG := Lib.hid (fun (W : World) (E : Ext w W) (j : Nat) (hj : j < bs.length) => onGround_c qs QA qc bs B cb tab HA hc hands W (hk.ext E) (hb.ext E) (hh.ext E) hcm j hj)
    have H0 := Lib.hid h0
    rw [h0] at RE
    clear hz1 hz2 B1 B2 B12 E1 E2 E h0 hk hb hh hcm
    go_enter Tryz.func18, Tryz.ntmps18
    go_wp2_with fail
    refine RE.mono ?_
    rintro e W3 ⟨rfl, E3⟩
    have HE3 := Lib.hid (HE.out.trans E3)
    have HB13 := Lib.hid (HB1.out.ext E3)
    have HB23 := Lib.hid (HB2.out.ext E3)
    clear E3 b1 b2 hW1 hW2 RE
    obtain ⟨U, hU⟩ : ∃ U, W3.heap.size = U := ⟨_, rfl⟩
    have HU := Lib.hid hU
    clear hU
    go_wp2_with fail
    go_loopw [9, 10] (fun v ii wr => ∃ (j : Nat) (u : Value), j ≤ bs.length ∧ ii = .int .i64 j ∧ v = u ∧ Ext W3 wr ∧ wr.ownsRow U 4 1 u j ((grdL (qs.map (·.1)) bs tab hands j).map Value.bool)) (fun _ ii _ => bs.length - (intOf ii).toNat)
    case atStart => exact ⟨0, _, by omega, rfl, rfl, Ext.refl _, World.ownsRow_nil _ _ _ _⟩
    case round =>
      obtain ⟨j, v, hj, rfl, rfl, Er, own⟩ := hrel
      have b1 := (HB13.out.ext Er).cell
      have b2 := (HB23.out.ext Er).cell
      by_cases hlt : j < bs.length
      · have OGj := OG.out _ (HE3.out.trans Er) j hlt
        obtain ⟨gb, hgb⟩ : ∃ b, grdB (qs.map (·.1)) bs tab hands j = b := ⟨_, rfl⟩
        rw [hgb] at OGj
        have Hgb := Lib.hid hgb
        clear hgb
        go_wp2_with fail
        clear b1 b2
        refine OGj.mono ?_
        rintro e w4 ⟨rfl, E4⟩
        have own4 := own_ext own E4
        have hU4 : U ≤ w4.heap.size := by have := HU.out; have := Er.size; have := E4.size; omega
        have hjl : j + 1 ≤ maxLen := by unfold maxLen; omega
        go_wp2_with (at_builtin; refine wpList_append_one #[.bool gb] rfl (.tmp 25) (.tmp 31) 30 rfl U 4 4 i9 _ 1 1 Tryz.underlying30 hi9 hz9 hz91 hz92 rfl (by decide) _ j _ _ rfl own4 rfl rfl (by simp [Value.oneCell']) hjl (by omega) hU4 ?_; intro g7 cap7 w7 own7 hg7)
        go_roundw
        case rel =>
          refine ⟨j + 1, _, by omega, by go_num, rfl, ((Er.trans E4).alloc _).grown hg7 (fun k hk => by have := (own4.lt k hk).1; have := HU.out; omega), ?_⟩
          rw [grdL_succ, List.map_append, Hgb.out]
          exact own7
        case measure => simp only [intOf]; omega
      · obtain rfl : j = bs.length := by omega
        obtain ⟨GA, gc, rfl, hG, -⟩ := bools_own (grdL_len _ _ _ _ _) own
        have HG := Lib.hid hG
        have HR := Lib.hid (HE3.out.trans Er)
        clear hG own Er
        go_wp2_with fail
        refine bodyPost_ret (v := .tuple #[.slice GA bs.length gc, .int .i64 0]) (by simp [results, Tryz.results18, go_sem]) rfl ⟨GA, gc, ?_, ?_, HR.out⟩
        · rw [Hg.out, grdL_len, H0.out]
        · rw [Hg.out]
          exact HG.out
  · have Hg := Lib.hid (show grdE (qs.map (·.1)) bs tab hands = [] from if_neg h0)
    obtain ⟨r, hr⟩ : ∃ r, restErr (qs.map (·.1)) bs tab hands = r := ⟨_, rfl⟩
    have Hr := Lib.hid hr
    rw [hr] at RE h0
    have h1 : (r != 0) = true := by simpa using h0
    clear hz1 hz2 B1 B2 B12 E1 E2 E h0 hk hb hh hr hi9
    go_enter Tryz.func18, Tryz.ntmps18
    go_wp2_with fail
    refine RE.mono ?_
    rintro e W3 ⟨rfl, E3⟩
    go_wp2_with fail
    refine bodyPost_ret (v := .tuple #[.slice none 0 0, .int .i64 r]) (by simp [results, Tryz.results18, go_sem]) rfl ⟨none, 0, ?_, ?_, HE.out.trans E3⟩
    · rw [Hg.out, Hr.out]
      rfl
    · rw [Hg.out]
      exact ⟨rfl, Nat.le_refl _, Nat.zero_le _, by simp, fun h => absurd h (Nat.lt_irrefl 0)⟩
end Go.Proofs.YtdlclfcfleckmaaGreat
