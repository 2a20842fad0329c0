
/- Excess of the reference. -/
import Derived.Test.YtjacbhomhjoolaaGreatBRWay
import Derived.Test.YtjacbhomhjoolaaGreatBPutW
import Derived.Test.YtjacbhomhjoolaaGreatBWeight
import Derived.Test.YtjacbhomhjoolaaGreatBExcS
import Derived.Test.YtjacbhomhjoolaaGreatBRRest
namespace Go.Proofs.YtjacbhomhjoolaaGreat
open Go.RowKit

def excV (ks : List Knd) (bs : List Brk) (tab : Int) (hands l : List Int) : Int := (excOut ks bs tab hands l l.length).getD 0
def excB (ks : List Knd) (bs : List Brk) (tab : Int) (hands l : List Int) : Bool := (excOut ks bs tab hands l l.length).isSome
set_option maxRecDepth 100000 in
set_option maxHeartbeats 16000000 in
theorem rExceeds_c (qs : List (Knd × KAt)) (QA : Option Addr) (qc : Nat) (bs : List Brk) (B : Option Addr) (cb : Nat) (tab : Int) (HA : Option Addr) (hc : Nat) (hands : List Int) (LA : Option Addr) (lc : Nat) (l : List Int) (w : World) (hk : Kinds w QA qc qs) (hb : Bricks w B cb bs) (hh : IntsZ w HA hc hands) (hl : IntsZ w LA lc l) (hcm : checkErr (qs.map (·.1)) bs = 0) (hch : chosenB l bs.length = true) :
  Calls Tryz.prog 68 #[.slice QA qs.length qc,.agg #[.slice B bs.length cb],.agg #[.int .i64 tab,.slice HA hands.length hc],.slice LA l.length lc] w fun e w' => e = .returned (.tuple #[.int .i64 (excV (qs.map (·.1)) bs tab hands l),.bool (excB (qs.map (·.1)) bs tab hands l)]) ∧ Ext w w' := by
 have hf := fit_of hk hb.2 hcm
 have hnb := hf.n
 have HF := Lib.hid hf
 obtain ⟨W1,hW1,E1,B1,hz1⟩ := mk_ w #[.slice B bs.length cb] 25
 obtain ⟨W2,hW2,E2,B2,hz2⟩ := mk_ W1 #[.int .i64 tab,.slice HA hands.length hc] 75
 have E := E1.trans E2
 obtain ⟨R,hR⟩ : ∃ R,w.heap.size = R := ⟨_,rfl⟩
 rw [hR] at B1 hz1
 rw [hz1] at B2
 have b1 := (B1.ext E2).cell
 have PT := rPut_c qs QA qc bs B cb W2 (hk.ext E) (hb.ext E) hcm
 have OG := Lib.hid (fun (W : World) (E : Ext w W) (j : Nat) (hj : j < bs.length) => onGround_c qs QA qc bs B cb tab HA hc hands W (hk.ext E) (hb.ext E) (hh.ext E) hcm j hj)
 have WT := Lib.hid (fun (W : World) (E : Ext w W) (i : Nat) (hi : i < bs.length) => rWeight_c qs QA qc bs B cb W (hk.ext E) (hb.ext E) hf i hi)
 have CN := Lib.hid (fun (W : World) (E' : Ext w W) (i : Nat) => rIn_c LA lc l (i : Int) W (hl.ext E'))
 have HLs := Lib.hid hl
 have hlen := chosen_len hch
 have HAt := Lib.hid (chosen_at hch)
 have hw9 : ∀ i,i < bs.length → 1 ≤ wtOf (qs.map (·.1)) bs i ∧ wtOf (qs.map (·.1)) bs i ≤ 100 := fun i hi => by
  obtain ⟨m,k,p, -, -, -,e,h1,h2⟩ := wt_parts hf hi
  omega
 have Hw9 := Lib.hid hw9
 have HR := Lib.hid hR
 have HZ1 := Lib.hid hz1
 have HB1 := Lib.hid (B1.ext E2)
 have HB2 := Lib.hid B2
 have HE := Lib.hid E
 unfold PutPost at PT
 clear hz2 hR hz1 B1 B2 E1 E2 E hk hb hh hl hf hcm hch hw9
 go_enter Tryz.func68,Tryz.ntmps68
 go_upto_region 1 with (fail)
 rw [HR.out,HZ1.out]
 clear hW1 hW2
 go_wp2_with fail
 clear b1
 refine PT.mono ?_
 rintro e W3 ⟨U,CA,cc,gs,f,hU,rfl,ownC,PRC,hfv,E3⟩
 have HE3 := Lib.hid (HE.out.trans E3)
 have HB13 := Lib.hid (HB1.out.ext E3)
 have HB23 := Lib.hid (HB2.out.ext E3)
 have HCs : SliceIs W3 CA bs.length cc 1 (rowsV gs bs.length) := by
  obtain ⟨A',c',e,h1, -⟩ := own_slice0 (rows := rowsV gs bs.length) (sz := 1) (n := bs.length) (fun r hr => by obtain ⟨v, -,rfl⟩ := List.mem_map.1 hr; rfl) (by unfold rowsV plC; simp) (by unfold rowsV; rw [flat_ones]; exact ownC)
  cases e
  exact h1
 have HC := Lib.hid HCs
 have HP := Lib.hid PRC
 have Hfv := Lib.hid hfv
 clear hU ownC PRC hfv E3 PT HCs HB1 HB2
 go_wp2_with fail
 go_loopw [11,12] (fun v ii wr => ∃ (q : Nat) (a : Int),q ≤ l.length ∧ ii = .int .i64 q ∧ v = .int .i64 a ∧ -(4000000 * (q : Int)) ≤ a ∧ a ≤ 100 * (q : Int) ∧ Ext W3 wr ∧ Hid (excOut (qs.map (·.1)) bs tab hands l q = some a)) (fun _ ii _ => l.length - (intOf ii).toNat)
 case atStart => exact ⟨0,0,by omega,rfl,rfl,by omega,by omega,Ext.refl _,Lib.hid rfl⟩
 case round =>
  obtain ⟨q,a,hq,rfl,rfl,ha1,ha2,Er,Ha⟩ := hrel
  have b1 := (HB13.out.ext Er).cell
  have b2 := (HB23.out.ext Er).cell
  by_cases hqt : q < l.length
  ·obtain ⟨p,hp,hqp,hpn⟩ := HAt.out q hqt
   obtain ⟨lg,loff,p0,rfl,hp0, -,cL⟩ := (HLs.out.ext (HE3.out.trans Er)).at_ hqt
   rw [hp] at hp0
   cases hp0
   have hle : l.length ≤ lc := HLs.out.le
   have hld : (l.getD q 0).toNat = p := by rw [List.getD_eq_getElem?_getD,hp]; rfl
   have q0 : (0 : Int) ≤ q := by omega
   have q1 : (q : Int) < l.length := by omega
   have q2 : (q : Int) < lc := by omega
   have EX := HE3.out.trans Er
   obtain ⟨gb,hgb⟩ : ∃ b,grdB (qs.map (·.1)) bs tab hands p = b := ⟨_,rfl⟩
   have OGp := Lib.hid (fun (W : World) (E : Ext w W) => OG.out W E p hpn)
   rw [hgb] at OGp
   have HcL := Lib.hid cL
   go_upto_region 6 with (fail)
   refine wp_region_grow (by kernel_rfl) (by kernel_rfl) ?_
   repeat (go_big_quiet_step ((go_at_call 94; exact quiet_ext (OGp.out _ (EX.grow _)))))
   refine wpQuiet_nil ?_
   intro W4 hW4
   have E4 : Ext wr W4 := by
    obtain ⟨x,rfl⟩ := hW4
    exact (Ext.refl _).grow x
   clear hW4
   obtain ⟨hcW4,hfW4,hzW4⟩ := ext_facts E4
   clear hcW4 hfW4 hzW4 b1 b2 cL
   have Er4 := Er.trans E4
   clear EX
   cases gb
   rotate_left
   ·have hno := excOut_none (m := l.length) (excOut_grd Ha.out (by rw [hld,hgb])) (by omega)
    have he : excB (qs.map (·.1)) bs tab hands l = false := by unfold excB; rw [hno]; rfl
    have hv : excV (qs.map (·.1)) bs tab hands l = 0 := by unfold excV; rw [hno]; rfl
    have Hh := Lib.hid he
    have Hv := Lib.hid hv
    have HRr := Lib.hid (HE3.out.trans Er4)
    clear he hv hno
    go_wp2_with fail
    refine bodyPost_ret (v := .tuple #[.int .i64 0,.bool false]) (by simp [results,Tryz.results68,go_sem]) rfl ⟨by rw [Hh.out,Hv.out],HRr.out⟩
   ·obtain ⟨wt,hwt⟩ : ∃ x,wtOf (qs.map (·.1)) bs p = x := ⟨_,rfl⟩
    have hw := Hw9.out p hpn
    have hnx := excOut_next Ha.out (by rw [hld,hgb])
    rw [hld,hwt] at hnx
    have WTp := Lib.hid (fun (W : World) (E : Ext w W) => WT.out W E p hpn)
    rw [hwt] at WTp hw
    obtain ⟨hw1,hw2⟩ := hw
    have Hnx := Lib.hid hnx
    have EX4 := HE3.out.trans Er4
    have b1 := (HB13.out.ext Er4).cell
    have cL := E4.cell HcL.out
    clear hnx hwt hgb hld Er E4
    go_upto_region 8 with (fail)
    refine wp_region_grow (by kernel_rfl) (by kernel_rfl) ?_
    repeat (go_big_quiet_step ((go_at_call 95; exact quiet_ext (WTp.out _ (EX4.grow _)))))
    refine wpQuiet_nil ?_
    intro W5 hW5
    have E5 : Ext W4 W5 := by
     obtain ⟨x,rfl⟩ := hW5
     exact (Ext.refl _).grow x
    clear hW5
    obtain ⟨hcW5,hfW5,hzW5⟩ := ext_facts E5
    clear hcW5 hfW5 hzW5 b1 cL EX4
    have Er6 := Er4.trans E5
    clear E5 Er4
    go_wp2_with fail
    go_loopw [11,13] (fun v ii wr => ∃ (k : Nat) (b : Int),k ≤ bs.length ∧ ii = .int .i64 k ∧ v = .int .i64 b ∧ a + wt - 96000 * (k : Int) ≤ b ∧ b ≤ a + wt ∧ Ext W3 wr ∧ Hid (excIn (qs.map (·.1)) bs l p k (a + wt) = some b)) (fun _ ii _ => bs.length - (intOf ii).toNat)
    case atStart => exact ⟨0,a + wt,by omega,rfl,by go_num,by omega,by omega,Er6,Lib.hid rfl⟩
    case round =>
     clear Er6
     obtain ⟨k,b,hk,rfl,rfl,hb1,hb2,Er,Hb⟩ := hrel
     have b1 := (HB13.out.ext Er).cell
     by_cases hkt : k < bs.length
     ·have k0 : (0 : Int) ≤ k := by omega
      have k1 : (k : Int) < bs.length := by omega
      have CNk := CN.out _ (HE3.out.trans Er) k
      obtain ⟨r,hr⟩ : ∃ r,hasZ l (k : Int) = r := ⟨_,rfl⟩
      rw [hr] at CNk
      have Hr := Lib.hid hr
      clear hr
      go_wp2_with fail
      clear b1
      refine CNk.mono ?_
      rintro e W7 ⟨rfl,E7⟩
      have E77 := Er.trans E7
      clear E7 Er CNk
      cases r
      ·obtain ⟨cg,coff,hCA⟩ := rows_addr HC.out (by omega)
       subst hCA
       have hcle : bs.length ≤ cc := HC.out.le
       have cR := rows_cell (HC.out.ext E77) hpn rfl
       have cM := (HP.out.ext E77).cell hpn hkt
       have cL := (HLs.out.ext (HE3.out.trans E77)).at_ hqt
       obtain ⟨lg',loff',p',hA',hp', -,cL⟩ := cL
       cases hA'
       rw [hp] at hp'
       cases hp'
       rw [Hfv.out p k] at cM
       have hcb := capV_small HF.out p k
       obtain ⟨cv,hcv⟩ : ∃ x,capV (qs.map (·.1)) bs p k = x := ⟨_,rfl⟩
       rw [hcv] at cM hcb
       have Hcv := Lib.hid hcv
       obtain ⟨gp,hgp⟩ : ∃ x,gs p = x := ⟨_,rfl⟩
       rw [hgp] at cR cM
       have p0 : (0 : Int) ≤ p := by omega
       have p1 : (p : Int) < bs.length := by omega
       have p2 : (p : Int) < cc := by omega
       have HRr := Lib.hid (HE3.out.trans E77)
       clear hcv hgp
       by_cases hc9 : cv = 1073741824
       ·have hno := excOut_none (m := l.length) (Hnx.out.trans (excIn_none (m := bs.length) (excIn_all Hb.out Hr.out (by rw [Hcv.out,hc9])) (by omega))) (by omega)
        have he : excB (qs.map (·.1)) bs tab hands l = false := by unfold excB; rw [hno]; rfl
        have hv : excV (qs.map (·.1)) bs tab hands l = 0 := by unfold excV; rw [hno]; rfl
        have Hh := Lib.hid he
        have Hv := Lib.hid hv
        have hq9 : (cv == 1073741824) = true := beq_iff_eq.2 hc9
        clear he hv hno
        go_wp2_with fail
        refine bodyPost_ret (v := .tuple #[.int .i64 0,.bool false]) (by simp [results,Tryz.results68,go_sem]) rfl ⟨by rw [Hh.out,Hv.out],HRr.out⟩
       ·have Hb2 := Lib.hid (excIn_sub Hb.out Hr.out (by rw [Hcv.out]; exact hc9))
        rw [Hcv.out] at Hb2
        have hq9 : (cv == 1073741824) = false := beq_eq_false_iff_ne.2 hc9
        have hcb2 : 0 ≤ cv ∧ cv ≤ 96000 := by omega
        obtain ⟨hcb3,hcb4⟩ := hcb2
        clear hcb
        go_wp2_with fail
        go_roundw
        case rel => exact ⟨k + 1,b - cv,by omega,by go_num,by go_num,by omega,by omega,E77,Hb2⟩
        case measure => simp only [intOf]; omega
      ·have Hb2 := Lib.hid (excIn_in Hb.out Hr.out)
       go_wp2_with fail
       go_roundw
       case rel => exact ⟨k + 1,b,by omega,by go_num,rfl,by omega,by omega,E77,Hb2⟩
       case measure => simp only [intOf]; omega
     ·obtain rfl : k = bs.length := by omega
      have Ho := Lib.hid (Hnx.out.trans Hb.out)
      go_wp2_with fail
      go_roundw
      case rel => exact ⟨q + 1,b,by omega,by go_num,rfl,by omega,by omega,Er,Ho⟩
      case measure => simp only [intOf]; omega
  ·obtain rfl : q = l.length := by omega
   have he : excB (qs.map (·.1)) bs tab hands l = true := by unfold excB; rw [Ha.out]; rfl
   have hv : excV (qs.map (·.1)) bs tab hands l = a := by unfold excV; rw [Ha.out]; rfl
   have Hh := Lib.hid he
   have Hv := Lib.hid hv
   have HRr := Lib.hid (HE3.out.trans Er)
   clear he hv
   go_wp2_with fail
   refine bodyPost_ret (v := .tuple #[.int .i64 a,.bool true]) (by simp [results,Tryz.results68,go_sem]) rfl ⟨by rw [Hh.out,Hv.out],HRr.out⟩
set_option maxRecDepth 100000 in
set_option maxHeartbeats 8000000 in
theorem rExcess_c (qs : List (Knd × KAt)) (QA : Option Addr) (qc : Nat) (bs : List Brk) (B : Option Addr) (cb : Nat) (tab : Int) (HA : Option Addr) (hc : Nat) (hands : List Int) (LA : Option Addr) (lc : Nat) (l : List Int) (w : World) (hk : Kinds w QA qc qs) (hb : Bricks w B cb bs) (hh : IntsZ w HA hc hands) (hl : IntsZ w LA lc l) :
  Calls Tryz.prog 34 #[.slice QA qs.length qc,.agg #[.slice B bs.length cb],.agg #[.int .i64 tab,.slice HA hands.length hc],.slice LA l.length lc] w fun e w' => e = .returned (.tuple #[.int .i64 (excR (qs.map (·.1)) bs tab hands l),.int .i64 (excErr (qs.map (·.1)) bs tab hands l)]) ∧ Ext w w' := by
 obtain ⟨W1,hW1,E1,B1,hz1⟩ := mk_ w #[.slice B bs.length cb] 25
 obtain ⟨W2,hW2,E2,B2,hz2⟩ := mk_ W1 #[.int .i64 tab,.slice HA hands.length hc] 75
 have E := E1.trans E2
 have b1 := (B1.ext E2).cell
 have b2 := B2.cell
 have HE := Lib.hid E
 have HB1 := Lib.hid (B1.ext E2)
 have HB2 := Lib.hid B2
 have RE := rCheckRest_c qs QA qc bs B cb tab HA hc hands W2 (hk.ext E) (hb.ext E) (hh.ext E)
 obtain ⟨r,hr⟩ : ∃ r,restErr (qs.map (·.1)) bs tab hands = r := ⟨_,rfl⟩
 rw [hr] at RE
 by_cases h0 : r = 0
 rotate_left
 ·have he : excErr (qs.map (·.1)) bs tab hands l = r := by unfold excErr; rw [if_neg (by rw [hr]; exact h0),hr]
  have hv : excR (qs.map (·.1)) bs tab hands l = 0 := by unfold excR; rw [if_neg (by rw [he]; exact h0)]
  have h1 : (r != 0) = true := by simpa using h0
  rw [he,hv]
  clear hz1 hz2 B1 B2 E1 E2 E hk hb hh hl hr he hv h0
  go_enter Tryz.func34,Tryz.ntmps34
  go_wp2_with fail
  refine RE.mono ?_
  rintro e W3 ⟨rfl,E3⟩
  go_wp2_with fail
  refine bodyPost_ret (v := .tuple #[.int .i64 0,.int .i64 r]) (by simp [results,Tryz.results34,go_sem]) rfl ⟨rfl,HE.out.trans E3⟩
 subst h0
 have hcm := (restErr_zero hr).1
 have hnb := (fit_of hk hb.2 hcm).n
 have CH := Lib.hid (fun (W : World) (E' : Ext w W) => rChosen_c LA lc l (bs.length : Int) W (hl.ext E') (by omega) (by omega))
 have EX := Lib.hid (fun (h : chosenB l bs.length = true) (W : World) (E : Ext w W) => rExceeds_c qs QA qc bs B cb tab HA hc hands LA lc l W (hk.ext E) (hb.ext E) (hh.ext E) (hl.ext E) hcm h)
 obtain ⟨ch,hch⟩ : ∃ b,chosenB l bs.length = b := ⟨_,rfl⟩
 have Hch := Lib.hid hch
 rw [hch] at CH
 have he0 : excErr (qs.map (·.1)) bs tab hands l = if ch = true then (if (excOut (qs.map (·.1)) bs tab hands l l.length).isSome = true then 0 else 31) else 2 := by
  unfold excErr
  rw [if_pos hr,hch]
 have He0 := Lib.hid he0
 clear hz1 hz2 B1 B2 E1 E2 E hk hb hh hl hr hcm hch he0
 go_enter Tryz.func34,Tryz.ntmps34
 go_wp2_with fail
 clear hW1 hW2 b1 b2
 refine RE.mono ?_
 rintro e W3 ⟨rfl,E3⟩
 have HE3 := Lib.hid (HE.out.trans E3)
 have b1 := (HB1.out.ext E3).cell
 have HB13 := Lib.hid (HB1.out.ext E3)
 have HB23 := Lib.hid (HB2.out.ext E3)
 clear E3 RE
 go_wp2_with fail
 clear b1
 refine (CH.out _ HE3.out).mono ?_
 rintro e W4 ⟨rfl,E4⟩
 have HE4 := Lib.hid (HE3.out.trans E4)
 have b1 := (HB13.out.ext E4).cell
 have b2 := (HB23.out.ext E4).cell
 clear E4
 cases ch
 ·have he : excErr (qs.map (·.1)) bs tab hands l = 2 := by rw [He0.out]; rfl
  have hv : excR (qs.map (·.1)) bs tab hands l = 0 := by unfold excR; rw [if_neg (by rw [he]; decide)]
  have Hh := Lib.hid he
  have Hv := Lib.hid hv
  clear he hv
  go_wp2_with fail
  refine bodyPost_ret (v := .tuple #[.int .i64 0,.int .i64 2]) (by simp [results,Tryz.results34,go_sem]) rfl ⟨by rw [Hh.out,Hv.out],HE4.out⟩
 have EE := EX.out Hch.out W4 HE4.out
 obtain ⟨eb,heb⟩ : ∃ b,excB (qs.map (·.1)) bs tab hands l = b := ⟨_,rfl⟩
 obtain ⟨ev,hev⟩ : ∃ v,excV (qs.map (·.1)) bs tab hands l = v := ⟨_,rfl⟩
 rw [heb,hev] at EE
 have Heb := Lib.hid heb
 have Hev := Lib.hid hev
 clear heb hev
 go_wp2_with fail
 clear b1 b2
 refine EE.mono ?_
 rintro e W5 ⟨rfl,E5⟩
 have HE5 := Lib.hid (HE4.out.trans E5)
 clear E5 EE
 cases eb
 ·have he : excErr (qs.map (·.1)) bs tab hands l = 31 := by
   rw [He0.out,if_pos trivial,if_neg]
   have := Heb.out
   unfold excB at this
   rw [this]
   decide
  have hv : excR (qs.map (·.1)) bs tab hands l = 0 := by unfold excR; rw [if_neg (by rw [he]; decide)]
  have Hh := Lib.hid he
  have Hv := Lib.hid hv
  clear he hv
  go_wp2_with fail
  refine bodyPost_ret (v := .tuple #[.int .i64 0,.int .i64 31]) (by simp [results,Tryz.results34,go_sem]) rfl ⟨by rw [Hh.out,Hv.out],HE5.out⟩
 ·have he : excErr (qs.map (·.1)) bs tab hands l = 0 := by
   rw [He0.out,if_pos trivial,if_pos]
   exact Heb.out
  have hv : excR (qs.map (·.1)) bs tab hands l = ev := by
   unfold excR
   rw [if_pos he]
   exact Hev.out
  have Hh := Lib.hid he
  have Hv := Lib.hid hv
  clear he hv
  go_wp2_with fail
  refine bodyPost_ret (v := .tuple #[.int .i64 ev,.int .i64 0]) (by simp [results,Tryz.results34,go_sem]) rfl ⟨by rw [Hh.out,Hv.out],HE5.out⟩
end Go.Proofs.YtjacbhomhjoolaaGreat
