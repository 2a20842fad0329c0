
/- Whether loads carry: the reference's side. -/
import Derived.Test.YtjacbhomhjoolaaGreatBLoadS
import Derived.Test.YtjacbhomhjoolaaGreatBRPush
import Derived.Test.YtjacbhomhjoolaaGreatBCarry
namespace Go.Proofs.YtjacbhomhjoolaaGreat
open Go.RowKit

set_option maxRecDepth 100000 in
set_option maxHeartbeats 16000000 in
theorem rCarried_c (qs : List (Knd × KAt)) (QA : Option Addr) (qc : Nat) (bs : List Brk) (B : Option Addr) (cb : Nat) (tab : Int) (HA : Option Addr) (hc : Nat) (hands : List Int) (LA : Option Addr) (lc : Nat) (l : List Ld) (w : World) (hk : Kinds w QA qc qs) (hb : Bricks w B cb bs) (hh : IntsZ w HA hc hands) (hcm : checkErr (qs.map (·.1)) bs = 0) (hl : Lds w LA lc l) (hl2 : l.length ≤ 2000) :
  Calls Tryz.prog 70 #[.slice QA qs.length qc,.agg #[.slice B bs.length cb],.agg #[.int .i64 tab,.slice HA hands.length hc],.slice LA l.length lc] w fun e w' => e = .returned (.bool (carryB bs.length (grdB (qs.map (·.1)) bs tab hands) (capV (qs.map (·.1)) bs) (wtOf (qs.map (·.1)) bs) l)) ∧ Ext w w' := by
 have hf := fit_of hk hb.2 hcm
 have hnb := hf.n
 have hcs := fun i k => capV_small hf i k
 have hw9 : ∀ i,i < bs.length → 0 ≤ wtOf (qs.map (·.1)) bs i ∧ wtOf (qs.map (·.1)) bs i ≤ 100 := fun i hi => by
  obtain ⟨m,k,p, -, -, -,e,h1,h2⟩ := wt_parts hf hi
  omega
 have HWT := Lib.hid (fun (i : Nat) (hi : i < bs.length) (W : World) (E : Ext w W) => rWeight_c qs QA qc bs B cb W (hk.ext E) (hb.ext E) hf i hi)
 have HOG := Lib.hid (fun (i : Nat) (hi : i < bs.length) (W : World) (E : Ext w W) => onGround_c qs QA qc bs B cb tab HA hc hands W (hk.ext E) (hb.ext E) (hh.ext E) hcm i hi)
 obtain ⟨W1,hW1,E1,B1,hz1⟩ := mk_ w #[.slice B bs.length cb] 25
 obtain ⟨W2,hW2,E2,B2,hz2⟩ := mk_ W1 #[.int .i64 tab,.slice HA hands.length hc] 75
 obtain ⟨R,hR⟩ : ∃ R,w.heap.size = R := ⟨_,rfl⟩
 rw [hR] at B1 hz1
 rw [hz1] at B2
 have E := E1.trans E2
 have PT := rPut_c qs QA qc bs B cb W2 (hk.ext E) (hb.ext E) hcm
 have b1 := (B1.ext E2).cell
 have HL := Lib.hid hl
 obtain ⟨n,hn⟩ : ∃ n,bs.length = n := ⟨_,rfl⟩
 have Hn := Lib.hid hn
 unfold PutPost at PT
 rw [hn] at HWT HOG PT hnb hw9 B1 b1 hW1 ⊢
 have hmk := make_nums n (by omega)
 obtain ⟨wt,hwt⟩ : ∃ x,wtOf (qs.map (·.1)) bs = x := ⟨_,rfl⟩
 obtain ⟨cap,hcap⟩ : ∃ x,capV (qs.map (·.1)) bs = x := ⟨_,rfl⟩
 obtain ⟨gr,hgr⟩ : ∃ x,grdB (qs.map (·.1)) bs tab hands = x := ⟨_,rfl⟩
 rw [hwt] at HWT hw9 ⊢
 rw [hcap] at hcs PT ⊢
 rw [hgr] at HOG ⊢
 have Hw9 := Lib.hid hw9
 have Hcs := Lib.hid hcs
 have HB1 := Lib.hid (B1.ext E2)
 have HB2 := Lib.hid B2
 have HE := Lib.hid E
 have HR := Lib.hid hR
 have HZ1 := Lib.hid hz1
 clear hk hb hh hf hl hn hwt hw9 hcs hcap hgr hcm hR hz1 hz2 B1 B2 E1 E2 E
 go_enter Tryz.func70,Tryz.ntmps70
 go_upto_region 1 with (fail)
 rw [HR.out,HZ1.out]
 clear hW1 hW2
 go_wp2_with fail
 clear b1
 refine PT.mono ?_
 rintro e W3 ⟨U,CA,cc,gs,f,hU,rfl,ownC,PRC,hfv,E3⟩
 have HCs : SliceIs W3 CA n cc 1 (rowsV gs n) := by
  obtain ⟨A',c',e,h1, -⟩ := own_slice0 (rows := rowsV gs n) (sz := 1) (n := n) (fun r hr => by obtain ⟨v, -,rfl⟩ := List.mem_map.1 hr; rfl) (by unfold rowsV plC; simp) (by unfold rowsV; rw [flat_ones]; exact ownC)
  cases e
  exact h1
 have HC := Lib.hid HCs
 have HP := Lib.hid PRC
 have Hfv := Lib.hid hfv
 obtain ⟨W6,hW6,E6,B6,hz6⟩ := mk_ W3 (zeroA n) 3
 obtain ⟨SM,hSM⟩ : ∃ x,W3.heap.size = x := ⟨_,rfl⟩
 rw [hSM] at B6
 have N6 : NRow W6 SM n (fun v => if v < 0 then wt v else 0) := by
  rw [zeroA_vs] at B6
  exact NRow.congr (d := fun _ => 0) B6 (fun k _ => if_neg (Nat.not_lt_zero _))
 have HSM := Lib.hid hSM
 have HW6 := Lib.hid hW6
 have HE5 := Lib.hid (HE.out.trans E3)
 have HE6 := Lib.hid E6
 have HN6 := Lib.hid N6
 have HB13 := Lib.hid (HB1.out.ext E3)
 have HB23 := Lib.hid (HB2.out.ext E3)
 clear hU ownC PRC hfv E3 E6 B6 hz6 hW6 hSM N6 PT HCs HB1 HB2
 go_upto_region 4 with (fail)
 rw [HW6.out,HSM.out]
 go_wp2_with fail
 go_loopw [12] (fun ii wr => ∃ k : Nat,k ≤ n ∧ ii = .int .i64 k ∧ NRow wr SM n (fun v => if v < k then wt v else 0) ∧ Ext W3 wr) (fun ii _ => n - (intOf ii).toNat)
 case atStart => exact ⟨0,by omega,rfl,HN6.out,HE6.out⟩
 case round =>
  obtain ⟨k,hk,rfl,NS,Er⟩ := hrel
  have b1 := (HB13.out.ext Er).cell
  by_cases hkn : k < n
  ·have WT := HWT.out k hkn _ (HE5.out.trans Er)
   obtain ⟨wk,hwk⟩ : ∃ x,wt k = x := ⟨_,rfl⟩
   rw [hwk] at WT
   have Hwk := Lib.hid hwk
   have HNS := Lib.hid NS
   have HEr := Lib.hid Er
   have k0 : (0 : Int) ≤ k := by omega
   have k1 : (k : Int) < n := by omega
   clear hwk NS Er
   go_wp2_with fail
   clear b1
   refine WT.mono ?_
   rintro e W7 ⟨rfl,E7⟩
   have N7 := HNS.out.ext E7
   have cs := N7.cell hkn
   have fs := Blk.frozen N7 k
   have N8 := Lib.hid ((N7.set_ k wk).congr (d' := fun v => if v < k + 1 then wt v else 0) (fun v hv => by
    unfold setN
    by_cases hvk : v = k
    ·subst hvk
     rw [if_pos rfl,if_pos (by omega),Hwk.out]
    ·rw [if_neg hvk]
     show (if v < k + 1 then wt v else 0) = if v < k then wt v else 0
     by_cases h1 : v < k
     ·rw [if_pos h1,if_pos (by omega)]
     ·rw [if_neg h1,if_neg (by omega)]))
   have E8 := Lib.hid ((HEr.out.trans E7).setCell (p := ⟨SM,k,none⟩) (by have := HSM.out; show W3.heap.size ≤ SM; omega) (.int .i64 wk))
   clear N7 E7 WT
   go_wp2_with fail
   go_roundw
   case rel => exact ⟨k + 1,by omega,by go_num,N8.out,E8.out⟩
   case measure => simp only [intOf]; omega
  ·obtain rfl : k = n := by omega
   have HN0 := Lib.hid (NS.congr (d' := sumsK wt l 0) (fun v hv => by rw [if_pos hv]; rfl))
   have HE0 := Lib.hid Er
   clear NS Er
   go_wp2_with fail
   clear b1
   go_loopw [13] (fun ii wr => ∃ q : Nat,q ≤ l.length ∧ ii = .int .i64 q ∧ NRow wr SM k (sumsK wt l q) ∧ Ext W3 wr ∧ Hid (∀ i,i < q → ldOk k gr cap l i = true)) (fun ii _ => l.length - (intOf ii).toNat)
   case atStart => exact ⟨0,by omega,rfl,HN0.out,HE0.out,Lib.hid (fun i hi => absurd hi (Nat.not_lt_zero _))⟩
   case round =>
    clear HN0 HE0
    obtain ⟨q,hq,rfl,NS,Er,Hok⟩ := hrel
    by_cases hqt : q < l.length
    ·obtain ⟨lg,loff,hLA, -,c0,c1,c2⟩ := (HL.out.ext (HE5.out.trans Er)).at_ hqt
     have HLc := Lib.hid (fun (j : Nat) (hj : j < l.length) (W : World) (E : Ext W3 W) => (HL.out.ext (HE5.out.trans E)).at_ hj)
     subst hLA
     have hlc : l.length ≤ lc := HL.out.le
     obtain ⟨⟨a,b,c⟩,hx⟩ : ∃ x,ldAt l q = x := ⟨_,rfl⟩
     rw [hx] at c0 c1 c2
     simp only at c0 c1 c2
     have Hx := Lib.hid hx
     obtain ⟨W8,hW8,E8,B8, -⟩ := mk_ wr #[.int .i64 a,.int .i64 b,.int .i64 c] 140
     obtain ⟨Y,hY⟩ : ∃ x,wr.heap.size = x := ⟨_,rfl⟩
     rw [hY] at B8
     have HY := Lib.hid hY
     have HB8 := Lib.hid B8
     have HN8 := Lib.hid (NS.ext E8)
     have HE8 := Lib.hid (Er.trans E8)
     have hbd := sums_bd Hw9.out q (fun i hi => by
      have := Hok.out i hi
      unfold ldOk at this
      rw [Bool.and_eq_true,Bool.and_eq_true] at this
      exact this.1.1) (l := l)
     have Hbd := Lib.hid hbd
     have q0 : (0 : Int) ≤ q := by omega
     have q1 : (q : Int) < l.length := by omega
     have q2 : (q : Int) < lc := by omega
     have WA := Lib.hid (fun (W : World) => within3_c a 0 ((k : Int) - 1) W)
     have WB := Lib.hid (fun (W : World) => within3_c b (-1) ((k : Int) - 1) W)
     have WC := Lib.hid (fun (W : World) => within3_c c 1 1073741824 W)
     obtain ⟨p1,hp1⟩ : ∃ b,inB 0 ((k : Int) - 1) a = b := ⟨_,rfl⟩
     obtain ⟨p2,hp2⟩ : ∃ r,inB (-1) ((k : Int) - 1) b = r := ⟨_,rfl⟩
     obtain ⟨p4,hp4⟩ : ∃ b,inB 1 1073741824 c = b := ⟨_,rfl⟩
     obtain ⟨p3,hp3⟩ : ∃ r,(b == a) = r := ⟨_,rfl⟩
     rw [hp1] at WA
     rw [hp2] at WB
     rw [hp4] at WC
     have Hp1 := Lib.hid hp1
     have Hp2 := Lib.hid hp2
     have Hp3 := Lib.hid hp3
     have Hp4 := Lib.hid hp4
     have hldB : ldB k (ldAt l q) = (p1 && p2 && !p3 && p4) := by rw [Hx.out]; unfold ldB; rw [hp1,hp2,hp3,hp4]
     have HldB := Lib.hid hldB
     clear hx hY B8 E8 NS Er hbd hp1 hp2 hp4 hldB
     go_upto_region 12 with (fail)
     rw [HY.out]
     clear hW8 c0 c1 c2
     have yb := HB8.out.cell
     go_wp2_with fail
     clear yb
     refine (WA.out _).mono ?_
     rintro e w1 ⟨rfl,F1⟩
     have F := Lib.hid (HE8.out.trans F1)
     have Fy := Lib.hid (HB8.out.ext F1)
     have Fn := Lib.hid (HN8.out.ext F1)
     have yb := Fy.out.cell
     clear F1
     cases p1
     ·have Hb := Lib.hid (carry_bad (wt := wt) hqt (ldOk_b (n := k) (gr := gr) (cap := cap) (by rw [HldB.out]; simp)))
      have HE9 := Lib.hid (HE5.out.trans F.out)
      go_wp2_with fail
      go_ret
      exact ⟨by rw [Hb.out]; rfl,HE9.out⟩
     go_wp2_with fail
     refine (WB.out _).mono ?_
     rintro e w2 ⟨rfl,F2⟩
     have F' := Lib.hid (F.out.trans F2)
     have Fy' := Lib.hid (Fy.out.ext F2)
     have Fn' := Lib.hid (Fn.out.ext F2)
     clear F Fy Fn yb F2
     have F := F'
     have Fy := Fy'
     have Fn := Fn'
     have yb := Fy.out.cell
     clear F' Fy' Fn'
     cases p2
     ·have Hb := Lib.hid (carry_bad (wt := wt) hqt (ldOk_b (n := k) (gr := gr) (cap := cap) (by rw [HldB.out]; simp)))
      have HE9 := Lib.hid (HE5.out.trans F.out)
      go_wp2_with fail
      go_ret
      exact ⟨by rw [Hb.out]; rfl,HE9.out⟩
     cases p3
     rotate_left
     ·have Hb := Lib.hid (carry_bad (wt := wt) hqt (ldOk_b (n := k) (gr := gr) (cap := cap) (by rw [HldB.out]; simp)))
      have HE9 := Lib.hid (HE5.out.trans F.out)
      go_wp2_with fail
      go_ret
      exact ⟨by rw [Hb.out]; rfl,HE9.out⟩
     go_wp2_with fail
     refine (WC.out _).mono ?_
     rintro e w3 ⟨rfl,F3⟩
     have F' := Lib.hid (F.out.trans F3)
     have Fy' := Lib.hid (Fy.out.ext F3)
     have Fn' := Lib.hid (Fn.out.ext F3)
     clear F Fy Fn yb F3
     have F := F'
     have Fy := Fy'
     have Fn := Fn'
     have yb := Fy.out.cell
     clear F' Fy' Fn'
     cases p4
     ·have Hb := Lib.hid (carry_bad (wt := wt) hqt (ldOk_b (n := k) (gr := gr) (cap := cap) (by rw [HldB.out]; simp)))
      have HE9 := Lib.hid (HE5.out.trans F.out)
      go_wp2_with fail
      go_ret
      exact ⟨by rw [Hb.out]; rfl,HE9.out⟩
     have hB : ldB k (ldAt l q) = true := HldB.out
     have hB2 := hB
     rw [Hx.out,ldB_iff] at hB2
     simp only at hB2
     obtain ⟨⟨a1,a2⟩,⟨a3,a4⟩,a5,a6,a7⟩ := hB2
     have HB := Lib.hid hB
     obtain ⟨na,rfl⟩ : ∃ m : Nat,a = m := ⟨a.toNat,by omega⟩
     have hna : na < k := by omega
     obtain ⟨s1,hs1⟩ : ∃ x,sumsK wt l q na = x := ⟨_,rfl⟩
     have hb1 := Hbd.out na hna
     rw [hs1] at hb1
     obtain ⟨sl1,sl2⟩ := hb1
     have Hs1 := Lib.hid hs1
     have n0 : (0 : Int) ≤ na := by omega
     have n1 : (na : Int) < k := by omega
     clear hB hs1 hp3
     by_cases hq0 : q = 0
     ·have q3 : ¬ (0 : Int) < (q : Int) := by omega
      have q4 : decide (0 < q) = false := by simp; omega
      have Hor := Lib.hid (Or.inl hq0 : q = 0 ∨ ordB (ldAt l (q - 1)) (ldAt l q) = true)
      clear hq0
      go_upto_region 14 with (fail)
      refine wp_region_grow (by kernel_rfl) (by kernel_rfl) ?_
      repeat (go_big_quiet_step (fail))
      refine wpQuiet_nil ?_
      intro W9 hW9
      have E9 : Ext w3 W9 := by
       obtain ⟨x,rfl⟩ := hW9
       exact (Ext.refl _).grow x
      clear hW9
      obtain ⟨hcW9,hfW9,hzW9⟩ := ext_facts E9
      clear hcW9 hfW9 hzW9
      have F' := Lib.hid (F.out.trans E9)
      have Fy' := Lib.hid (Fy.out.ext E9)
      have Fn' := Lib.hid (Fn.out.ext E9)
      clear F Fy Fn yb E9
      have F := F'
      have Fy := Fy'
      have Fn := Fn'
      have yb := Fy.out.cell
      clear F' Fy' Fn'
      as_aux_lemma =>
      by_cases hb : b = -1
      ·subst hb
       have e1 : ((-1 : Int) == -1) = true := rfl
       have e2 : ((-1 : Int) != -1) = false := rfl
       have OGn := Lib.hid (fun (W : World) (E : Ext w W) => HOG.out na hna W E)
       obtain ⟨gb,hgb⟩ : ∃ b,gr na = b := ⟨_,rfl⟩
       rw [hgb] at OGn
       have hmy : mayB gr cap (ldAt l q) = gb := by
        rw [Hx.out]
        unfold mayB
        rw [if_pos rfl,← hgb]
        rfl
       have Hmy := Lib.hid hmy
       have b1 := (HB13.out.ext F.out).cell
       have b2 := (HB23.out.ext F.out).cell
       have EX := HE5.out.trans F.out
       clear hgb hmy
       go_upto_region 16 with (fail)
       cases gb
       ·refine wp_region_grow (by kernel_rfl) (by kernel_rfl) ?_
        repeat (go_big_quiet_step ((go_at_call 94; exact quiet_ext (OGn.out _ (EX.grow _)))))
        refine wpQuiet_nil ?_
        intro W14 hW14
        have E14 : Ext W9 W14 := by
         obtain ⟨x,rfl⟩ := hW14
         exact (Ext.refl _).grow x
        clear hW14
        obtain ⟨hcW14,hfW14,hzW14⟩ := ext_facts E14
        clear hcW14 hfW14 hzW14 b1 b2 EX yb
        have Hb := Lib.hid (carry_bad (wt := wt) hqt (ldOk_m (n := k) (gr := gr) (cap := cap) Hmy.out))
        have HE14 := Lib.hid (F.out.trans E14)
        clear E14
        have HE9 := Lib.hid (HE5.out.trans HE14.out)
        go_wp2_with fail
        go_ret
        exact ⟨by rw [Hb.out]; rfl,HE9.out⟩
       ·refine wp_region_grow (by kernel_rfl) (by kernel_rfl) ?_
        repeat (go_big_quiet_step ((go_at_call 94; exact quiet_ext (OGn.out _ (EX.grow _)))))
        refine wpQuiet_nil ?_
        intro W14 hW14
        have E14 : Ext W9 W14 := by
         obtain ⟨x,rfl⟩ := hW14
         exact (Ext.refl _).grow x
        clear hW14
        obtain ⟨hcW14,hfW14,hzW14⟩ := ext_facts E14
        clear hcW14 hfW14 hzW14 b1 b2 EX
        have F' := Lib.hid (F.out.trans E14)
        have Fy' := Lib.hid (Fy.out.ext E14)
        have Fn' := Lib.hid (Fn.out.ext E14)
        clear F Fy Fn yb E14
        have F := F'
        have Fy := Fy'
        have Fn := Fn'
        have yb := Fy.out.cell
        clear F' Fy' Fn'
        -- W14: world; F Fy Fn at it; the may-check passed; Hmy
        have cs := Fn.out.cell hna
        rw [Hs1.out] at cs
        go_upto_region 18 with (fail)
        refine wp_region_tail 9 (by kernel_rfl) (by kernel_rfl) ?_
        simp only [List.take_succ_cons,List.take_zero,List.drop_succ_cons,List.drop_zero]
        repeat (go_big_quiet_step (fail))
        refine wpQuiet_nil ?_
        intro W10 hW10
        have E10 : Ext W14 W10 := by
         obtain ⟨x,rfl⟩ := hW10
         exact (Ext.refl _).grow x
        clear hW10
        obtain ⟨hcW10,hfW10,hzW10⟩ := ext_facts E10
        clear hcW10 hfW10 hzW10 yb cs
        have N10 := Fn.out.ext E10
        have cs := N10.cell hna
        rw [Hs1.out] at cs
        have fs := Blk.frozen N10 na
        have HN11 := Lib.hid (N10.set_ na (s1 - c))
        have HE11 := Lib.hid ((F.out.trans E10).setCell (p := ⟨SM,na,none⟩) (by have := HSM.out; show W3.heap.size ≤ SM; omega) (.int .i64 (s1 - c)))
        have HB11 := Lib.hid (Blk.far (Fy.out.ext E10) (p := ⟨SM,na,none⟩) (fun e => by have h7 := Blk.types (e ▸ Fy.out.ext E10) N10; exact absurd h7 (by decide)) (.int .i64 (s1 - c)))
        obtain ⟨W11,hW11⟩ : ∃ W,W10.setCell ⟨SM,na,none⟩ (.int .i64 (s1 - c)) = W := ⟨_,rfl⟩
        rw [hW11] at HN11 HE11 HB11
        have yb := HB11.out.cell
        have Hok2 := Lib.hid (show ∀ i,i < q + 1 → ldOk k gr cap l i = true from fun i hi => by
         rcases Nat.lt_or_ge i q with h' | h'
         ·exact Hok.out i h'
         ·obtain rfl : i = q := by omega
          exact ldOk_good HB.out Hor.out Hmy.out)
        clear N10 E10
        have hst : sumsK wt l (q + 1) = setN (sumsK wt l q) na (s1 - c) := by
         rw [← Hs1.out]
         show ldStep (sumsK wt l q) (ldAt l q) = _
         rw [Hx.out]
         unfold ldStep
         rw [if_pos rfl]
         rfl
        have HNn := Lib.hid HN11.out
        rw [← hst] at HNn
        clear hst
        go_wp2_with fail
        go_roundw
        case rel => exact ⟨q + 1,by omega,by go_num,HNn.out,HE11.out,Hok2⟩
        case measure => simp only [intOf]; omega
      ·have e1 : (b == -1) = false := beq_eq_false_iff_ne.2 hb
       have e2 : (b != -1) = true := bne_iff_ne.2 hb
       obtain ⟨nb,rfl⟩ : ∃ m : Nat,b = m := ⟨b.toNat,by omega⟩
       have hnb : nb < k := by omega
       have hne : nb ≠ na := fun e => a5 (by rw [e])
       have m0 : (0 : Int) ≤ nb := by omega
       have m1 : (nb : Int) < k := by omega
       obtain ⟨cg,coff,hCA⟩ := rows_addr HC.out (by omega)
       subst hCA
       have hcle : k ≤ cc := HC.out.le
       have n3 : (na : Int) < cc := by omega
       have cR := rows_cell (HC.out.ext F.out) hna rfl
       have cM := (HP.out.ext F.out).cell hna hnb
       rw [Hfv.out na nb] at cM
       obtain ⟨cv,hcv⟩ : ∃ x,cap na nb = x := ⟨_,rfl⟩
       rw [hcv] at cM
       obtain ⟨gp,hgp⟩ : ∃ x,gs na = x := ⟨_,rfl⟩
       rw [hgp] at cR cM
       have hmay : mayB gr cap (ldAt l q) = decide (c ≤ cv) := by
        rw [Hx.out]
        unfold mayB
        rw [if_neg (show ¬ (nb : Int) = -1 by omega),← hcv]
        rfl
       have Hmay := Lib.hid hmay
       clear hcv hmay hgp
       by_cases hcc : c > cv
       ·go_upto_region 16 with (fail)
        refine wp_region_grow (by kernel_rfl) (by kernel_rfl) ?_
        repeat (go_big_quiet_step (fail))
        refine wpQuiet_nil ?_
        intro W14 hW14
        have E14 : Ext W9 W14 := by
         obtain ⟨x,rfl⟩ := hW14
         exact (Ext.refl _).grow x
        clear hW14
        obtain ⟨hcW14,hfW14,hzW14⟩ := ext_facts E14
        clear hcW14 hfW14 hzW14 cR cM yb
        have Hb := Lib.hid (carry_bad (wt := wt) hqt (ldOk_m (n := k) (gr := gr) (cap := cap) (by rw [Hmay.out]; exact decide_eq_false (by omega))))
        have HE14 := Lib.hid (F.out.trans E14)
        clear E14
        have HE9 := Lib.hid (HE5.out.trans HE14.out)
        go_wp2_with fail
        go_ret
        exact ⟨by rw [Hb.out]; rfl,HE9.out⟩
       ·have hcc2 : ¬ c > cv := hcc
        have Hmy := Lib.hid (show mayB gr cap (ldAt l q) = true by rw [Hmay.out]; exact decide_eq_true (by omega))
        have hs2 := Hbd.out nb hnb
        obtain ⟨s2,hs2e⟩ : ∃ x,sumsK wt l q nb = x := ⟨_,rfl⟩
        rw [hs2e] at hs2
        obtain ⟨sl3,sl4⟩ := hs2
        have Hs2 := Lib.hid (show setN (sumsK wt l q) na (s1 - c) nb = s2 by unfold setN; rw [if_neg hne,hs2e])
        clear hs2e
        go_upto_region 16 with (fail)
        refine wp_region_grow (by kernel_rfl) (by kernel_rfl) ?_
        repeat (go_big_quiet_step (fail))
        refine wpQuiet_nil ?_
        intro W14 hW14
        have E14 : Ext W9 W14 := by
         obtain ⟨x,rfl⟩ := hW14
         exact (Ext.refl _).grow x
        clear hW14
        obtain ⟨hcW14,hfW14,hzW14⟩ := ext_facts E14
        clear hcW14 hfW14 hzW14 cR cM
        have F' := Lib.hid (F.out.trans E14)
        have Fy' := Lib.hid (Fy.out.ext E14)
        have Fn' := Lib.hid (Fn.out.ext E14)
        clear F Fy Fn yb E14
        have F := F'
        have Fy := Fy'
        have Fn := Fn'
        have yb := Fy.out.cell
        clear F' Fy' Fn'
        -- W14: world; F Fy Fn at it; the may-check passed; Hmy
        have cs := Fn.out.cell hna
        rw [Hs1.out] at cs
        go_upto_region 18 with (fail)
        refine wp_region_tail 9 (by kernel_rfl) (by kernel_rfl) ?_
        simp only [List.take_succ_cons,List.take_zero,List.drop_succ_cons,List.drop_zero]
        repeat (go_big_quiet_step (fail))
        refine wpQuiet_nil ?_
        intro W10 hW10
        have E10 : Ext W14 W10 := by
         obtain ⟨x,rfl⟩ := hW10
         exact (Ext.refl _).grow x
        clear hW10
        obtain ⟨hcW10,hfW10,hzW10⟩ := ext_facts E10
        clear hcW10 hfW10 hzW10 yb cs
        have N10 := Fn.out.ext E10
        have cs := N10.cell hna
        rw [Hs1.out] at cs
        have fs := Blk.frozen N10 na
        have HN11 := Lib.hid (N10.set_ na (s1 - c))
        have HE11 := Lib.hid ((F.out.trans E10).setCell (p := ⟨SM,na,none⟩) (by have := HSM.out; show W3.heap.size ≤ SM; omega) (.int .i64 (s1 - c)))
        have HB11 := Lib.hid (Blk.far (Fy.out.ext E10) (p := ⟨SM,na,none⟩) (fun e => by have h7 := Blk.types (e ▸ Fy.out.ext E10) N10; exact absurd h7 (by decide)) (.int .i64 (s1 - c)))
        obtain ⟨W11,hW11⟩ : ∃ W,W10.setCell ⟨SM,na,none⟩ (.int .i64 (s1 - c)) = W := ⟨_,rfl⟩
        rw [hW11] at HN11 HE11 HB11
        have yb := HB11.out.cell
        have Hok2 := Lib.hid (show ∀ i,i < q + 1 → ldOk k gr cap l i = true from fun i hi => by
         rcases Nat.lt_or_ge i q with h' | h'
         ·exact Hok.out i h'
         ·obtain rfl : i = q := by omega
          exact ldOk_good HB.out Hor.out Hmy.out)
        clear N10 E10
        have cs2 := HN11.out.cell hnb
        rw [Hs2.out] at cs2
        go_upto_region 20 with (fail)
        clear cs fs hW11
        refine wp_region_tail 9 (by kernel_rfl) (by kernel_rfl) ?_
        simp only [List.take_succ_cons,List.take_zero,List.drop_succ_cons,List.drop_zero]
        repeat (go_big_quiet_step (fail))
        refine wpQuiet_nil ?_
        intro W13 hW13
        have E13 : Ext W11 W13 := by
         obtain ⟨x,rfl⟩ := hW13
         exact (Ext.refl _).grow x
        clear hW13
        obtain ⟨hcW13,hfW13,hzW13⟩ := ext_facts E13
        clear hcW13 hfW13 hzW13 yb cs2
        have N13 := HN11.out.ext E13
        have cs := N13.cell hnb
        rw [Hs2.out] at cs
        have fs := Blk.frozen N13 nb
        have hst : sumsK wt l (q + 1) = setN (setN (sumsK wt l q) na (s1 - c)) nb (s2 + c) := by
         rw [← Hs2.out,← Hs1.out]
         show ldStep (sumsK wt l q) (ldAt l q) = _
         rw [Hx.out]
         unfold ldStep
         rw [if_neg (show ¬ (nb : Int) = -1 by omega)]
         rfl
        have HN14 := Lib.hid (N13.set_ nb (s2 + c))
        rw [← hst] at HN14
        have HE14 := Lib.hid ((HE11.out.trans E13).setCell (p := ⟨SM,nb,none⟩) (by have := HSM.out; show W3.heap.size ≤ SM; omega) (.int .i64 (s2 + c)))
        clear N13 E13 hst
        go_wp2_with fail
        go_roundw
        case rel => exact ⟨q + 1,by omega,by go_num,HN14.out,HE14.out,Hok2⟩
        case measure => simp only [intOf]; omega
     ·have q3 : (0 : Int) < (q : Int) := by omega
      have q4 : decide (0 < q) = true := by simp; omega
      have q5 : decide ((0 : Int) < (q : Int)) = true := by simp; omega
      have ht : ((q : Int) - 1).toNat = q - 1 := by omega
      have hk1 : (1 : Int) ≤ q := by omega
      have q6 : (q : Int) - 1 < l.length := by omega
      have q7 : (0 : Int) ≤ (q : Int) - 1 := by omega
      have q8 : (q : Int) - 1 < lc := by omega
      obtain ⟨lg',loff',hA', -,d0,d1,d2⟩ := HLc.out (q - 1) (by omega) w3 F.out
      cases hA'
      obtain ⟨⟨pa,pb,pc⟩,hpx⟩ : ∃ x,ldAt l (q - 1) = x := ⟨_,rfl⟩
      rw [hpx] at d0 d1 d2
      simp only at d0 d1 d2
      have Hpx := Lib.hid hpx
      clear hpx
      by_cases h1 : (na : Int) < pa
      ·have Hb := Lib.hid (carry_bad (wt := wt) hqt (ldOk_o (n := k) (gr := gr) (cap := cap) hq0 (by rw [Hpx.out,Hx.out]; unfold ordB; simp; omega)))
       go_upto_region 14 with (fail)
       refine wp_region_grow (by kernel_rfl) (by kernel_rfl) ?_
       repeat (go_big_quiet_step (fail))
       refine wpQuiet_nil ?_
       intro W9 hW9
       have E9 : Ext w3 W9 := by
        obtain ⟨x,rfl⟩ := hW9
        exact (Ext.refl _).grow x
       clear hW9
       obtain ⟨hcW9,hfW9,hzW9⟩ := ext_facts E9
       clear hcW9 hfW9 hzW9 yb d0 d1 d2
       have HE9b := Lib.hid (F.out.trans E9)
       clear E9
       have HE9 := Lib.hid (HE5.out.trans HE9b.out)
       go_wp2_with fail
       go_ret
       exact ⟨by rw [Hb.out]; rfl,HE9.out⟩
      ·have h1' : ¬ (na : Int) < pa := h1
       have h1d : decide ((na : Int) < pa) = false := decide_eq_false h1
       by_cases h2 : (na : Int) = pa
       ·have h3 : ((na : Int) == pa) = true := beq_iff_eq.2 h2
        by_cases h4 : b ≤ pb
        ·have Hb := Lib.hid (carry_bad (wt := wt) hqt (ldOk_o (n := k) (gr := gr) (cap := cap) hq0 (by rw [Hpx.out,Hx.out]; unfold ordB; simp; omega)))
         go_upto_region 14 with (fail)
         refine wp_region_grow (by kernel_rfl) (by kernel_rfl) ?_
         repeat (go_big_quiet_step (fail))
         refine wpQuiet_nil ?_
         intro W9 hW9
         have E9 : Ext w3 W9 := by
          obtain ⟨x,rfl⟩ := hW9
          exact (Ext.refl _).grow x
         clear hW9
         obtain ⟨hcW9,hfW9,hzW9⟩ := ext_facts E9
         clear hcW9 hfW9 hzW9 yb d0 d1 d2
         have HE9b := Lib.hid (F.out.trans E9)
         clear E9
         have HE9 := Lib.hid (HE5.out.trans HE9b.out)
         go_wp2_with fail
         go_ret
         exact ⟨by rw [Hb.out]; rfl,HE9.out⟩
        ·have h4' : ¬ b ≤ pb := h4
         have h4d : decide (b ≤ pb) = false := decide_eq_false h4
         have Hor := Lib.hid (Or.inr (by rw [Hpx.out,Hx.out]; unfold ordB; simp; omega) : q = 0 ∨ ordB (ldAt l (q - 1)) (ldAt l q) = true)
         go_upto_region 14 with (fail)
         refine wp_region_grow (by kernel_rfl) (by kernel_rfl) ?_
         repeat (go_big_quiet_step (fail))
         refine wpQuiet_nil ?_
         intro W9 hW9
         have E9 : Ext w3 W9 := by
          obtain ⟨x,rfl⟩ := hW9
          exact (Ext.refl _).grow x
         clear hW9
         obtain ⟨hcW9,hfW9,hzW9⟩ := ext_facts E9
         clear hcW9 hfW9 hzW9 d0 d1 d2
         have F' := Lib.hid (F.out.trans E9)
         have Fy' := Lib.hid (Fy.out.ext E9)
         have Fn' := Lib.hid (Fn.out.ext E9)
         clear F Fy Fn yb E9
         have F := F'
         have Fy := Fy'
         have Fn := Fn'
         have yb := Fy.out.cell
         clear F' Fy' Fn'
         clear h1 h1' h1d h2 h3 h4 h4' h4d
         as_aux_lemma =>
         by_cases hb : b = -1
         ·subst hb
          have e1 : ((-1 : Int) == -1) = true := rfl
          have e2 : ((-1 : Int) != -1) = false := rfl
          have OGn := Lib.hid (fun (W : World) (E : Ext w W) => HOG.out na hna W E)
          obtain ⟨gb,hgb⟩ : ∃ b,gr na = b := ⟨_,rfl⟩
          rw [hgb] at OGn
          have hmy : mayB gr cap (ldAt l q) = gb := by
           rw [Hx.out]
           unfold mayB
           rw [if_pos rfl,← hgb]
           rfl
          have Hmy := Lib.hid hmy
          have b1 := (HB13.out.ext F.out).cell
          have b2 := (HB23.out.ext F.out).cell
          have EX := HE5.out.trans F.out
          clear hgb hmy
          go_upto_region 16 with (fail)
          cases gb
          ·refine wp_region_grow (by kernel_rfl) (by kernel_rfl) ?_
           repeat (go_big_quiet_step ((go_at_call 94; exact quiet_ext (OGn.out _ (EX.grow _)))))
           refine wpQuiet_nil ?_
           intro W14 hW14
           have E14 : Ext W9 W14 := by
            obtain ⟨x,rfl⟩ := hW14
            exact (Ext.refl _).grow x
           clear hW14
           obtain ⟨hcW14,hfW14,hzW14⟩ := ext_facts E14
           clear hcW14 hfW14 hzW14 b1 b2 EX yb
           have Hb := Lib.hid (carry_bad (wt := wt) hqt (ldOk_m (n := k) (gr := gr) (cap := cap) Hmy.out))
           have HE14 := Lib.hid (F.out.trans E14)
           clear E14
           have HE9 := Lib.hid (HE5.out.trans HE14.out)
           go_wp2_with fail
           go_ret
           exact ⟨by rw [Hb.out]; rfl,HE9.out⟩
          ·refine wp_region_grow (by kernel_rfl) (by kernel_rfl) ?_
           repeat (go_big_quiet_step ((go_at_call 94; exact quiet_ext (OGn.out _ (EX.grow _)))))
           refine wpQuiet_nil ?_
           intro W14 hW14
           have E14 : Ext W9 W14 := by
            obtain ⟨x,rfl⟩ := hW14
            exact (Ext.refl _).grow x
           clear hW14
           obtain ⟨hcW14,hfW14,hzW14⟩ := ext_facts E14
           clear hcW14 hfW14 hzW14 b1 b2 EX
           have F' := Lib.hid (F.out.trans E14)
           have Fy' := Lib.hid (Fy.out.ext E14)
           have Fn' := Lib.hid (Fn.out.ext E14)
           clear F Fy Fn yb E14
           have F := F'
           have Fy := Fy'
           have Fn := Fn'
           have yb := Fy.out.cell
           clear F' Fy' Fn'
           -- W14: world; F Fy Fn at it; the may-check passed; Hmy
           have cs := Fn.out.cell hna
           rw [Hs1.out] at cs
           go_upto_region 18 with (fail)
           refine wp_region_tail 9 (by kernel_rfl) (by kernel_rfl) ?_
           simp only [List.take_succ_cons,List.take_zero,List.drop_succ_cons,List.drop_zero]
           repeat (go_big_quiet_step (fail))
           refine wpQuiet_nil ?_
           intro W10 hW10
           have E10 : Ext W14 W10 := by
            obtain ⟨x,rfl⟩ := hW10
            exact (Ext.refl _).grow x
           clear hW10
           obtain ⟨hcW10,hfW10,hzW10⟩ := ext_facts E10
           clear hcW10 hfW10 hzW10 yb cs
           have N10 := Fn.out.ext E10
           have cs := N10.cell hna
           rw [Hs1.out] at cs
           have fs := Blk.frozen N10 na
           have HN11 := Lib.hid (N10.set_ na (s1 - c))
           have HE11 := Lib.hid ((F.out.trans E10).setCell (p := ⟨SM,na,none⟩) (by have := HSM.out; show W3.heap.size ≤ SM; omega) (.int .i64 (s1 - c)))
           have HB11 := Lib.hid (Blk.far (Fy.out.ext E10) (p := ⟨SM,na,none⟩) (fun e => by have h7 := Blk.types (e ▸ Fy.out.ext E10) N10; exact absurd h7 (by decide)) (.int .i64 (s1 - c)))
           obtain ⟨W11,hW11⟩ : ∃ W,W10.setCell ⟨SM,na,none⟩ (.int .i64 (s1 - c)) = W := ⟨_,rfl⟩
           rw [hW11] at HN11 HE11 HB11
           have yb := HB11.out.cell
           have Hok2 := Lib.hid (show ∀ i,i < q + 1 → ldOk k gr cap l i = true from fun i hi => by
            rcases Nat.lt_or_ge i q with h' | h'
            ·exact Hok.out i h'
            ·obtain rfl : i = q := by omega
             exact ldOk_good HB.out Hor.out Hmy.out)
           clear N10 E10
           have hst : sumsK wt l (q + 1) = setN (sumsK wt l q) na (s1 - c) := by
            rw [← Hs1.out]
            show ldStep (sumsK wt l q) (ldAt l q) = _
            rw [Hx.out]
            unfold ldStep
            rw [if_pos rfl]
            rfl
           have HNn := Lib.hid HN11.out
           rw [← hst] at HNn
           clear hst
           go_wp2_with fail
           go_roundw
           case rel => exact ⟨q + 1,by omega,by go_num,HNn.out,HE11.out,Hok2⟩
           case measure => simp only [intOf]; omega
         ·have e1 : (b == -1) = false := beq_eq_false_iff_ne.2 hb
          have e2 : (b != -1) = true := bne_iff_ne.2 hb
          obtain ⟨nb,rfl⟩ : ∃ m : Nat,b = m := ⟨b.toNat,by omega⟩
          have hnb : nb < k := by omega
          have hne : nb ≠ na := fun e => a5 (by rw [e])
          have m0 : (0 : Int) ≤ nb := by omega
          have m1 : (nb : Int) < k := by omega
          obtain ⟨cg,coff,hCA⟩ := rows_addr HC.out (by omega)
          subst hCA
          have hcle : k ≤ cc := HC.out.le
          have n3 : (na : Int) < cc := by omega
          have cR := rows_cell (HC.out.ext F.out) hna rfl
          have cM := (HP.out.ext F.out).cell hna hnb
          rw [Hfv.out na nb] at cM
          obtain ⟨cv,hcv⟩ : ∃ x,cap na nb = x := ⟨_,rfl⟩
          rw [hcv] at cM
          obtain ⟨gp,hgp⟩ : ∃ x,gs na = x := ⟨_,rfl⟩
          rw [hgp] at cR cM
          have hmay : mayB gr cap (ldAt l q) = decide (c ≤ cv) := by
           rw [Hx.out]
           unfold mayB
           rw [if_neg (show ¬ (nb : Int) = -1 by omega),← hcv]
           rfl
          have Hmay := Lib.hid hmay
          clear hcv hmay hgp
          by_cases hcc : c > cv
          ·go_upto_region 16 with (fail)
           refine wp_region_grow (by kernel_rfl) (by kernel_rfl) ?_
           repeat (go_big_quiet_step (fail))
           refine wpQuiet_nil ?_
           intro W14 hW14
           have E14 : Ext W9 W14 := by
            obtain ⟨x,rfl⟩ := hW14
            exact (Ext.refl _).grow x
           clear hW14
           obtain ⟨hcW14,hfW14,hzW14⟩ := ext_facts E14
           clear hcW14 hfW14 hzW14 cR cM yb
           have Hb := Lib.hid (carry_bad (wt := wt) hqt (ldOk_m (n := k) (gr := gr) (cap := cap) (by rw [Hmay.out]; exact decide_eq_false (by omega))))
           have HE14 := Lib.hid (F.out.trans E14)
           clear E14
           have HE9 := Lib.hid (HE5.out.trans HE14.out)
           go_wp2_with fail
           go_ret
           exact ⟨by rw [Hb.out]; rfl,HE9.out⟩
          ·have hcc2 : ¬ c > cv := hcc
           have Hmy := Lib.hid (show mayB gr cap (ldAt l q) = true by rw [Hmay.out]; exact decide_eq_true (by omega))
           have hs2 := Hbd.out nb hnb
           obtain ⟨s2,hs2e⟩ : ∃ x,sumsK wt l q nb = x := ⟨_,rfl⟩
           rw [hs2e] at hs2
           obtain ⟨sl3,sl4⟩ := hs2
           have Hs2 := Lib.hid (show setN (sumsK wt l q) na (s1 - c) nb = s2 by unfold setN; rw [if_neg hne,hs2e])
           clear hs2e
           go_upto_region 16 with (fail)
           refine wp_region_grow (by kernel_rfl) (by kernel_rfl) ?_
           repeat (go_big_quiet_step (fail))
           refine wpQuiet_nil ?_
           intro W14 hW14
           have E14 : Ext W9 W14 := by
            obtain ⟨x,rfl⟩ := hW14
            exact (Ext.refl _).grow x
           clear hW14
           obtain ⟨hcW14,hfW14,hzW14⟩ := ext_facts E14
           clear hcW14 hfW14 hzW14 cR cM
           have F' := Lib.hid (F.out.trans E14)
           have Fy' := Lib.hid (Fy.out.ext E14)
           have Fn' := Lib.hid (Fn.out.ext E14)
           clear F Fy Fn yb E14
           have F := F'
           have Fy := Fy'
           have Fn := Fn'
           have yb := Fy.out.cell
           clear F' Fy' Fn'
           -- W14: world; F Fy Fn at it; the may-check passed; Hmy
           have cs := Fn.out.cell hna
           rw [Hs1.out] at cs
           go_upto_region 18 with (fail)
           refine wp_region_tail 9 (by kernel_rfl) (by kernel_rfl) ?_
           simp only [List.take_succ_cons,List.take_zero,List.drop_succ_cons,List.drop_zero]
           repeat (go_big_quiet_step (fail))
           refine wpQuiet_nil ?_
           intro W10 hW10
           have E10 : Ext W14 W10 := by
            obtain ⟨x,rfl⟩ := hW10
            exact (Ext.refl _).grow x
           clear hW10
           obtain ⟨hcW10,hfW10,hzW10⟩ := ext_facts E10
           clear hcW10 hfW10 hzW10 yb cs
           have N10 := Fn.out.ext E10
           have cs := N10.cell hna
           rw [Hs1.out] at cs
           have fs := Blk.frozen N10 na
           have HN11 := Lib.hid (N10.set_ na (s1 - c))
           have HE11 := Lib.hid ((F.out.trans E10).setCell (p := ⟨SM,na,none⟩) (by have := HSM.out; show W3.heap.size ≤ SM; omega) (.int .i64 (s1 - c)))
           have HB11 := Lib.hid (Blk.far (Fy.out.ext E10) (p := ⟨SM,na,none⟩) (fun e => by have h7 := Blk.types (e ▸ Fy.out.ext E10) N10; exact absurd h7 (by decide)) (.int .i64 (s1 - c)))
           obtain ⟨W11,hW11⟩ : ∃ W,W10.setCell ⟨SM,na,none⟩ (.int .i64 (s1 - c)) = W := ⟨_,rfl⟩
           rw [hW11] at HN11 HE11 HB11
           have yb := HB11.out.cell
           have Hok2 := Lib.hid (show ∀ i,i < q + 1 → ldOk k gr cap l i = true from fun i hi => by
            rcases Nat.lt_or_ge i q with h' | h'
            ·exact Hok.out i h'
            ·obtain rfl : i = q := by omega
             exact ldOk_good HB.out Hor.out Hmy.out)
           clear N10 E10
           have cs2 := HN11.out.cell hnb
           rw [Hs2.out] at cs2
           go_upto_region 20 with (fail)
           clear cs fs hW11
           refine wp_region_tail 9 (by kernel_rfl) (by kernel_rfl) ?_
           simp only [List.take_succ_cons,List.take_zero,List.drop_succ_cons,List.drop_zero]
           repeat (go_big_quiet_step (fail))
           refine wpQuiet_nil ?_
           intro W13 hW13
           have E13 : Ext W11 W13 := by
            obtain ⟨x,rfl⟩ := hW13
            exact (Ext.refl _).grow x
           clear hW13
           obtain ⟨hcW13,hfW13,hzW13⟩ := ext_facts E13
           clear hcW13 hfW13 hzW13 yb cs2
           have N13 := HN11.out.ext E13
           have cs := N13.cell hnb
           rw [Hs2.out] at cs
           have fs := Blk.frozen N13 nb
           have hst : sumsK wt l (q + 1) = setN (setN (sumsK wt l q) na (s1 - c)) nb (s2 + c) := by
            rw [← Hs2.out,← Hs1.out]
            show ldStep (sumsK wt l q) (ldAt l q) = _
            rw [Hx.out]
            unfold ldStep
            rw [if_neg (show ¬ (nb : Int) = -1 by omega)]
            rfl
           have HN14 := Lib.hid (N13.set_ nb (s2 + c))
           rw [← hst] at HN14
           have HE14 := Lib.hid ((HE11.out.trans E13).setCell (p := ⟨SM,nb,none⟩) (by have := HSM.out; show W3.heap.size ≤ SM; omega) (.int .i64 (s2 + c)))
           clear N13 E13 hst
           go_wp2_with fail
           go_roundw
           case rel => exact ⟨q + 1,by omega,by go_num,HN14.out,HE14.out,Hok2⟩
           case measure => simp only [intOf]; omega
       ·have h3 : ((na : Int) == pa) = false := beq_eq_false_iff_ne.2 h2
        have Hor := Lib.hid (Or.inr (by rw [Hpx.out,Hx.out]; unfold ordB; simp; omega) : q = 0 ∨ ordB (ldAt l (q - 1)) (ldAt l q) = true)
        go_upto_region 14 with (fail)
        refine wp_region_grow (by kernel_rfl) (by kernel_rfl) ?_
        repeat (go_big_quiet_step (fail))
        refine wpQuiet_nil ?_
        intro W9 hW9
        have E9 : Ext w3 W9 := by
         obtain ⟨x,rfl⟩ := hW9
         exact (Ext.refl _).grow x
        clear hW9
        obtain ⟨hcW9,hfW9,hzW9⟩ := ext_facts E9
        clear hcW9 hfW9 hzW9 d0 d1 d2
        have F' := Lib.hid (F.out.trans E9)
        have Fy' := Lib.hid (Fy.out.ext E9)
        have Fn' := Lib.hid (Fn.out.ext E9)
        clear F Fy Fn yb E9
        have F := F'
        have Fy := Fy'
        have Fn := Fn'
        have yb := Fy.out.cell
        clear F' Fy' Fn'
        clear h1 h1' h1d h2 h3
        as_aux_lemma =>
        by_cases hb : b = -1
        ·subst hb
         have e1 : ((-1 : Int) == -1) = true := rfl
         have e2 : ((-1 : Int) != -1) = false := rfl
         have OGn := Lib.hid (fun (W : World) (E : Ext w W) => HOG.out na hna W E)
         obtain ⟨gb,hgb⟩ : ∃ b,gr na = b := ⟨_,rfl⟩
         rw [hgb] at OGn
         have hmy : mayB gr cap (ldAt l q) = gb := by
          rw [Hx.out]
          unfold mayB
          rw [if_pos rfl,← hgb]
          rfl
         have Hmy := Lib.hid hmy
         have b1 := (HB13.out.ext F.out).cell
         have b2 := (HB23.out.ext F.out).cell
         have EX := HE5.out.trans F.out
         clear hgb hmy
         go_upto_region 16 with (fail)
         cases gb
         ·refine wp_region_grow (by kernel_rfl) (by kernel_rfl) ?_
          repeat (go_big_quiet_step ((go_at_call 94; exact quiet_ext (OGn.out _ (EX.grow _)))))
          refine wpQuiet_nil ?_
          intro W14 hW14
          have E14 : Ext W9 W14 := by
           obtain ⟨x,rfl⟩ := hW14
           exact (Ext.refl _).grow x
          clear hW14
          obtain ⟨hcW14,hfW14,hzW14⟩ := ext_facts E14
          clear hcW14 hfW14 hzW14 b1 b2 EX yb
          have Hb := Lib.hid (carry_bad (wt := wt) hqt (ldOk_m (n := k) (gr := gr) (cap := cap) Hmy.out))
          have HE14 := Lib.hid (F.out.trans E14)
          clear E14
          have HE9 := Lib.hid (HE5.out.trans HE14.out)
          go_wp2_with fail
          go_ret
          exact ⟨by rw [Hb.out]; rfl,HE9.out⟩
         ·refine wp_region_grow (by kernel_rfl) (by kernel_rfl) ?_
          repeat (go_big_quiet_step ((go_at_call 94; exact quiet_ext (OGn.out _ (EX.grow _)))))
          refine wpQuiet_nil ?_
          intro W14 hW14
          have E14 : Ext W9 W14 := by
           obtain ⟨x,rfl⟩ := hW14
           exact (Ext.refl _).grow x
          clear hW14
          obtain ⟨hcW14,hfW14,hzW14⟩ := ext_facts E14
          clear hcW14 hfW14 hzW14 b1 b2 EX
          have F' := Lib.hid (F.out.trans E14)
          have Fy' := Lib.hid (Fy.out.ext E14)
          have Fn' := Lib.hid (Fn.out.ext E14)
          clear F Fy Fn yb E14
          have F := F'
          have Fy := Fy'
          have Fn := Fn'
          have yb := Fy.out.cell
          clear F' Fy' Fn'
          -- W14: world; F Fy Fn at it; the may-check passed; Hmy
          have cs := Fn.out.cell hna
          rw [Hs1.out] at cs
          go_upto_region 18 with (fail)
          refine wp_region_tail 9 (by kernel_rfl) (by kernel_rfl) ?_
          simp only [List.take_succ_cons,List.take_zero,List.drop_succ_cons,List.drop_zero]
          repeat (go_big_quiet_step (fail))
          refine wpQuiet_nil ?_
          intro W10 hW10
          have E10 : Ext W14 W10 := by
           obtain ⟨x,rfl⟩ := hW10
           exact (Ext.refl _).grow x
          clear hW10
          obtain ⟨hcW10,hfW10,hzW10⟩ := ext_facts E10
          clear hcW10 hfW10 hzW10 yb cs
          have N10 := Fn.out.ext E10
          have cs := N10.cell hna
          rw [Hs1.out] at cs
          have fs := Blk.frozen N10 na
          have HN11 := Lib.hid (N10.set_ na (s1 - c))
          have HE11 := Lib.hid ((F.out.trans E10).setCell (p := ⟨SM,na,none⟩) (by have := HSM.out; show W3.heap.size ≤ SM; omega) (.int .i64 (s1 - c)))
          have HB11 := Lib.hid (Blk.far (Fy.out.ext E10) (p := ⟨SM,na,none⟩) (fun e => by have h7 := Blk.types (e ▸ Fy.out.ext E10) N10; exact absurd h7 (by decide)) (.int .i64 (s1 - c)))
          obtain ⟨W11,hW11⟩ : ∃ W,W10.setCell ⟨SM,na,none⟩ (.int .i64 (s1 - c)) = W := ⟨_,rfl⟩
          rw [hW11] at HN11 HE11 HB11
          have yb := HB11.out.cell
          have Hok2 := Lib.hid (show ∀ i,i < q + 1 → ldOk k gr cap l i = true from fun i hi => by
           rcases Nat.lt_or_ge i q with h' | h'
           ·exact Hok.out i h'
           ·obtain rfl : i = q := by omega
            exact ldOk_good HB.out Hor.out Hmy.out)
          clear N10 E10
          have hst : sumsK wt l (q + 1) = setN (sumsK wt l q) na (s1 - c) := by
           rw [← Hs1.out]
           show ldStep (sumsK wt l q) (ldAt l q) = _
           rw [Hx.out]
           unfold ldStep
           rw [if_pos rfl]
           rfl
          have HNn := Lib.hid HN11.out
          rw [← hst] at HNn
          clear hst
          go_wp2_with fail
          go_roundw
          case rel => exact ⟨q + 1,by omega,by go_num,HNn.out,HE11.out,Hok2⟩
          case measure => simp only [intOf]; omega
        ·have e1 : (b == -1) = false := beq_eq_false_iff_ne.2 hb
         have e2 : (b != -1) = true := bne_iff_ne.2 hb
         obtain ⟨nb,rfl⟩ : ∃ m : Nat,b = m := ⟨b.toNat,by omega⟩
         have hnb : nb < k := by omega
         have hne : nb ≠ na := fun e => a5 (by rw [e])
         have m0 : (0 : Int) ≤ nb := by omega
         have m1 : (nb : Int) < k := by omega
         obtain ⟨cg,coff,hCA⟩ := rows_addr HC.out (by omega)
         subst hCA
         have hcle : k ≤ cc := HC.out.le
         have n3 : (na : Int) < cc := by omega
         have cR := rows_cell (HC.out.ext F.out) hna rfl
         have cM := (HP.out.ext F.out).cell hna hnb
         rw [Hfv.out na nb] at cM
         obtain ⟨cv,hcv⟩ : ∃ x,cap na nb = x := ⟨_,rfl⟩
         rw [hcv] at cM
         obtain ⟨gp,hgp⟩ : ∃ x,gs na = x := ⟨_,rfl⟩
         rw [hgp] at cR cM
         have hmay : mayB gr cap (ldAt l q) = decide (c ≤ cv) := by
          rw [Hx.out]
          unfold mayB
          rw [if_neg (show ¬ (nb : Int) = -1 by omega),← hcv]
          rfl
         have Hmay := Lib.hid hmay
         clear hcv hmay hgp
         by_cases hcc : c > cv
         ·go_upto_region 16 with (fail)
          refine wp_region_grow (by kernel_rfl) (by kernel_rfl) ?_
          repeat (go_big_quiet_step (fail))
          refine wpQuiet_nil ?_
          intro W14 hW14
          have E14 : Ext W9 W14 := by
           obtain ⟨x,rfl⟩ := hW14
           exact (Ext.refl _).grow x
          clear hW14
          obtain ⟨hcW14,hfW14,hzW14⟩ := ext_facts E14
          clear hcW14 hfW14 hzW14 cR cM yb
          have Hb := Lib.hid (carry_bad (wt := wt) hqt (ldOk_m (n := k) (gr := gr) (cap := cap) (by rw [Hmay.out]; exact decide_eq_false (by omega))))
          have HE14 := Lib.hid (F.out.trans E14)
          clear E14
          have HE9 := Lib.hid (HE5.out.trans HE14.out)
          go_wp2_with fail
          go_ret
          exact ⟨by rw [Hb.out]; rfl,HE9.out⟩
         ·have hcc2 : ¬ c > cv := hcc
          have Hmy := Lib.hid (show mayB gr cap (ldAt l q) = true by rw [Hmay.out]; exact decide_eq_true (by omega))
          have hs2 := Hbd.out nb hnb
          obtain ⟨s2,hs2e⟩ : ∃ x,sumsK wt l q nb = x := ⟨_,rfl⟩
          rw [hs2e] at hs2
          obtain ⟨sl3,sl4⟩ := hs2
          have Hs2 := Lib.hid (show setN (sumsK wt l q) na (s1 - c) nb = s2 by unfold setN; rw [if_neg hne,hs2e])
          clear hs2e
          go_upto_region 16 with (fail)
          refine wp_region_grow (by kernel_rfl) (by kernel_rfl) ?_
          repeat (go_big_quiet_step (fail))
          refine wpQuiet_nil ?_
          intro W14 hW14
          have E14 : Ext W9 W14 := by
           obtain ⟨x,rfl⟩ := hW14
           exact (Ext.refl _).grow x
          clear hW14
          obtain ⟨hcW14,hfW14,hzW14⟩ := ext_facts E14
          clear hcW14 hfW14 hzW14 cR cM
          have F' := Lib.hid (F.out.trans E14)
          have Fy' := Lib.hid (Fy.out.ext E14)
          have Fn' := Lib.hid (Fn.out.ext E14)
          clear F Fy Fn yb E14
          have F := F'
          have Fy := Fy'
          have Fn := Fn'
          have yb := Fy.out.cell
          clear F' Fy' Fn'
          -- W14: world; F Fy Fn at it; the may-check passed; Hmy
          have cs := Fn.out.cell hna
          rw [Hs1.out] at cs
          go_upto_region 18 with (fail)
          refine wp_region_tail 9 (by kernel_rfl) (by kernel_rfl) ?_
          simp only [List.take_succ_cons,List.take_zero,List.drop_succ_cons,List.drop_zero]
          repeat (go_big_quiet_step (fail))
          refine wpQuiet_nil ?_
          intro W10 hW10
          have E10 : Ext W14 W10 := by
           obtain ⟨x,rfl⟩ := hW10
           exact (Ext.refl _).grow x
          clear hW10
          obtain ⟨hcW10,hfW10,hzW10⟩ := ext_facts E10
          clear hcW10 hfW10 hzW10 yb cs
          have N10 := Fn.out.ext E10
          have cs := N10.cell hna
          rw [Hs1.out] at cs
          have fs := Blk.frozen N10 na
          have HN11 := Lib.hid (N10.set_ na (s1 - c))
          have HE11 := Lib.hid ((F.out.trans E10).setCell (p := ⟨SM,na,none⟩) (by have := HSM.out; show W3.heap.size ≤ SM; omega) (.int .i64 (s1 - c)))
          have HB11 := Lib.hid (Blk.far (Fy.out.ext E10) (p := ⟨SM,na,none⟩) (fun e => by have h7 := Blk.types (e ▸ Fy.out.ext E10) N10; exact absurd h7 (by decide)) (.int .i64 (s1 - c)))
          obtain ⟨W11,hW11⟩ : ∃ W,W10.setCell ⟨SM,na,none⟩ (.int .i64 (s1 - c)) = W := ⟨_,rfl⟩
          rw [hW11] at HN11 HE11 HB11
          have yb := HB11.out.cell
          have Hok2 := Lib.hid (show ∀ i,i < q + 1 → ldOk k gr cap l i = true from fun i hi => by
           rcases Nat.lt_or_ge i q with h' | h'
           ·exact Hok.out i h'
           ·obtain rfl : i = q := by omega
            exact ldOk_good HB.out Hor.out Hmy.out)
          clear N10 E10
          have cs2 := HN11.out.cell hnb
          rw [Hs2.out] at cs2
          go_upto_region 20 with (fail)
          clear cs fs hW11
          refine wp_region_tail 9 (by kernel_rfl) (by kernel_rfl) ?_
          simp only [List.take_succ_cons,List.take_zero,List.drop_succ_cons,List.drop_zero]
          repeat (go_big_quiet_step (fail))
          refine wpQuiet_nil ?_
          intro W13 hW13
          have E13 : Ext W11 W13 := by
           obtain ⟨x,rfl⟩ := hW13
           exact (Ext.refl _).grow x
          clear hW13
          obtain ⟨hcW13,hfW13,hzW13⟩ := ext_facts E13
          clear hcW13 hfW13 hzW13 yb cs2
          have N13 := HN11.out.ext E13
          have cs := N13.cell hnb
          rw [Hs2.out] at cs
          have fs := Blk.frozen N13 nb
          have hst : sumsK wt l (q + 1) = setN (setN (sumsK wt l q) na (s1 - c)) nb (s2 + c) := by
           rw [← Hs2.out,← Hs1.out]
           show ldStep (sumsK wt l q) (ldAt l q) = _
           rw [Hx.out]
           unfold ldStep
           rw [if_neg (show ¬ (nb : Int) = -1 by omega)]
           rfl
          have HN14 := Lib.hid (N13.set_ nb (s2 + c))
          rw [← hst] at HN14
          have HE14 := Lib.hid ((HE11.out.trans E13).setCell (p := ⟨SM,nb,none⟩) (by have := HSM.out; show W3.heap.size ≤ SM; omega) (.int .i64 (s2 + c)))
          clear N13 E13 hst
          go_wp2_with fail
          go_roundw
          case rel => exact ⟨q + 1,by omega,by go_num,HN14.out,HE14.out,Hok2⟩
          case measure => simp only [intOf]; omega
    ·obtain rfl : q = l.length := by omega
     have hres : carryB k gr cap wt l = allR k fun v => sumsK wt l l.length v == 0 := by
      unfold carryB
      rw [allR_good Hok.out,Bool.true_and]
     have Hres := Lib.hid hres
     have HNS := Lib.hid NS
     have HEr := Lib.hid Er
     obtain ⟨W7,rfl⟩ : ∃ W7 : World,W7 = wr := ⟨_,rfl⟩
     clear hres NS Er
     go_wp2_with fail
     go_loopw [15] (fun ii wr => ∃ t : Nat,t ≤ k ∧ ii = .int .i64 t ∧ Ext W7 wr ∧ Hid (∀ v,v < t → (sumsK wt l l.length v == 0) = true)) (fun ii _ => k - (intOf ii).toNat)
     case atStart => exact ⟨0,by omega,rfl,Ext.refl _,Lib.hid (fun i hi => absurd hi (Nat.not_lt_zero _))⟩
     case round =>
      obtain ⟨t,ht,rfl,Et,Hz⟩ := hrel
      by_cases htk : t < k
      ·have cs := (HNS.out.ext Et).cell htk
       obtain ⟨sv,hsv⟩ : ∃ x,sumsK wt l l.length t = x := ⟨_,rfl⟩
       rw [hsv] at cs
       have Hsv := Lib.hid hsv
       have t0 : (0 : Int) ≤ t := by omega
       have t1 : (t : Int) < k := by omega
       clear hsv
       by_cases hz : sv = 0
       ·subst hz
        have Hz2 := Lib.hid (show ∀ v,v < t + 1 → (sumsK wt l l.length v == 0) = true from fun v hv => by
         rcases Nat.lt_or_ge v t with h' | h'
         ·exact Hz.out v h'
         ·obtain rfl : v = t := by omega
          rw [Hsv.out]
          rfl)
        go_wp2_with fail
        go_roundw
        case rel => exact ⟨t + 1,by omega,by go_num,Et,Hz2⟩
        case measure => simp only [intOf]; omega
       ·have hnz : (sv != 0) = true := bne_iff_ne.2 hz
        have Hb := Lib.hid (show carryB k gr cap wt l = false by rw [Hres.out]; exact allR_bad htk (by rw [Hsv.out]; exact beq_eq_false_iff_ne.2 hz))
        have HE9 := Lib.hid (HE5.out.trans (HEr.out.trans Et))
        clear Et
        go_wp2_with fail
        go_ret
        exact ⟨by rw [Hb.out]; rfl,HE9.out⟩
      ·obtain rfl : t = k := by omega
       have Hb := Lib.hid (show carryB t gr cap wt l = true by rw [Hres.out]; exact allR_good Hz.out)
       have HE9 := Lib.hid (HE5.out.trans (HEr.out.trans Et))
       clear Et
       go_wp2_with fail
       go_ret
       exact ⟨by rw [Hb.out]; rfl,HE9.out⟩
end Go.Proofs.YtjacbhomhjoolaaGreat
