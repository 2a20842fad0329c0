
/- The given statement StandFallsSaid: for every input the law returns true, and each argument reads behind the call as it did. No conditions. -/
import Derived.Test.YtjacbhomhjoolaaGreatBOpenR
import Derived.Test.YtjacbhomhjoolaaGreatBLoadS
import Derived.Test.YtjacbhomhjoolaaGreatBApi
import Derived.Test.YtjacbhomhjoolaaGreatBChosen
import Derived.Test.YtjacbhomhjoolaaGreatBWeight
import Derived.Test.YtjacbhomhjoolaaGreatBStand
import Derived.Test.YtjacbhomhjoolaaGreatBCarry
import Derived.Test.YtjacbhomhjoolaaGreatBRCarry
import Derived.Test.YtjacbhomhjoolaaGreatBFall
import Derived.Test.YtjacbhomhjoolaaGreatBRExc
import Derived.Test.YtjacbhomhjoolaaGreatBLib
import Derived.Test.YtjacbhomhjoolaaGreatBOpenN
namespace Go.Proofs.YtjacbhomhjoolaaGreat
open Go.RowKit Go.ChangeShapes Go.WideShapes Go.ChangeAt Go.Deep Go.Joins

theorem cells_load : Tryz.prog.cellsOf 140 = 3 := by kernel_rfl
section
variable {H : Type} {enc : TypeId × Value → H} {w : World} {base : Nat} {spare : Nat → Bool} {held : Bool}
set_option maxRecDepth 100000 in
theorem ld_of_trod {fuel : Nat} {c0 c1 c2 : Value} {x : DataW H × List MemPlace} (h : DataW.trod enc Tryz.prog w base spare held fuel 140 [c0,c1,c2] = some x) : ∃ p : Ld, [c0,c1,c2] = p.cs := by
 obtain ⟨zs,m'',_,_,_,hzl,hg⟩ := DataW.trod_struct Tryz.underlying140 h
 have g0 := hg 0 _ rfl
 have g1 := hg 1 _ rfl
 have g2 := hg 2 _ rfl
 match zs,hzl with
 | [z0,z1,z2],_ =>
  obtain ⟨x,h1,_,_⟩ := DataW.trod_int Tryz.underlying3 g0
  obtain ⟨y,h2,_,_⟩ := DataW.trod_int Tryz.underlying3 g1
  obtain ⟨z,h3,_,_⟩ := DataW.trod_int Tryz.underlying3 g2
  change List.take (Tryz.prog.cellsOf 3) [c0,c1,c2] = _ at h1
  change List.take (Tryz.prog.cellsOf 3) [c1,c2] = _ at h2
  change List.take (Tryz.prog.cellsOf 3) [c2] = _ at h3
  rw [cells_int] at h1 h2 h3
  simp at h1 h2 h3
  subst h1 h2 h3
  exact ⟨⟨x,y,z⟩,rfl⟩
set_option maxRecDepth 100000 in
theorem loads_of_trod {fuel n cap : Nat} {A : Option Addr} {x : DataW H × List MemPlace}
  (h : DataW.trod enc Tryz.prog w base spare held fuel 76 [.slice A n cap] = some x) : ∃ l : List Ld,l.length = n ∧ Lds w A cap l := by
 obtain ⟨rows,hS,hr⟩ := rows_of_trod Tryz.underlying76 cells_load (by omega) h
 obtain ⟨l,hl,hp⟩ := list_of (fun i (p : Ld) => rows[i]? = some p.cs) n (fun i hi => by
  have hi' : i < rows.length := by rw [hS.len]; exact hi
  have hget : rows[i]? = some rows[i] := List.getElem?_eq_getElem hi'
  obtain ⟨m,y,hy⟩ := hr _ (List.mem_of_getElem? hget)
  have hlen := hS.wide _ (List.mem_of_getElem? hget)
  generalize rows[i] = r at hget hy hlen
  match r,hlen with
  | [c0,c1,c2],_ =>
   obtain ⟨p,hp⟩ := ld_of_trod hy
   exact ⟨p,by rw [hget,hp]⟩)
 refine ⟨l,hl,?_⟩
 have := rows_map Ld.cs (hl.trans hS.len.symm) hp
 unfold Lds
 rw [← this,hl]
 exact hS
set_option maxRecDepth 100000 in
theorem loads_open {r : Reach} {b0 : Nat} {v : Value} {d : DataW H} {p : List MemPlace} (hv : Value.okWide Tryz.prog w r b0 76 v) (h : DataW.Trod enc Tryz.prog w base spare held 76 v d p) :
  ∃ A cap l,v = .slice A l.length cap ∧ Lds w A cap l ∧ (A = none → cap = 0) := by
 obtain ⟨C,n1,cc,rfl⟩ := okWide_slice Tryz.underlying76 hv
 obtain ⟨fuel,hf⟩ := h
 have hf' : DataW.trod enc Tryz.prog w base spare held fuel 76 [.slice C n1 cc] = some (d,p) := by simpa [Value.cells] using hf
 obtain ⟨A,n,ca,e,hA⟩ := slice_form' Tryz.underlying76 hf'
 cases e
 obtain ⟨l,rfl,hb⟩ := loads_of_trod hf'
 exact ⟨_,_,l,rfl,hb,hA⟩
set_option maxRecDepth 100000 in
theorem ints_open {r : Reach} {b0 : Nat} {v : Value} {d : DataW H} {p : List MemPlace} (hv : Value.okWide Tryz.prog w r b0 39 v) (h : DataW.Trod enc Tryz.prog w base spare held 39 v d p) :
  ∃ A cap l,v = .slice A l.length cap ∧ IntsZ w A cap l := by
 obtain ⟨C,n1,cc,rfl⟩ := okWide_slice Tryz.underlying39 hv
 obtain ⟨fuel,hf⟩ := h
 have hf' : DataW.trod enc Tryz.prog w base spare held fuel 39 [.slice C n1 cc] = some (d,p) := by simpa [Value.cells] using hf
 obtain ⟨l,rfl,hb⟩ := ints_of_trod hf'
 exact ⟨_,_,l,rfl,hb⟩
end

theorem band {a b : Bool} (ha : a = true) (hb : b = true) : (a && b) = true := by rw [ha,hb]; rfl
set_option maxHeartbeats 4000000 in
theorem standFalls_facts : joinedFacts Tryz.pinned.checked.prog 5 Tryz.f5 Rows.standFallsSpec Rows.standFallsRow = true := by
 unfold joinedFacts
 repeat' with_reducible refine band ?_ ?_
 all_goals (as_aux_lemma => kernel_rfl)
end Go.Proofs.YtjacbhomhjoolaaGreat
namespace Go.Proofs.YtjacbhomhjoolaaGreat
open Go.RowKit

def great3B (ks : List Knd) (n m : Nat) : Bool := greatB ks n || decide (60 < m)
theorem great3_is {ks : List Knd} {n m : Nat} {b : Bool} (h : great3B ks n m = b) : (greatB ks n = true ∧ b = true) ∨ (greatB ks n = false ∧ decide ((60 : Int) < m) = b) := by
 unfold great3B at h
 cases hg : greatB ks n
 ·right
  rw [hg,Bool.false_or] at h
  refine ⟨rfl,?_⟩
  rw [← h]
  by_cases h6 : 60 < m
  ·rw [decide_eq_true h6,decide_eq_true (by omega)]
  ·rw [decide_eq_false h6,decide_eq_false (by omega)]
 ·left
  rw [hg,Bool.true_or] at h
  exact ⟨rfl,h.symm⟩
set_option maxRecDepth 100000 in
set_option maxHeartbeats 4000000 in
theorem great3_c (qs : List (Knd × KAt)) (QA : Option Addr) (qc : Nat) (bs : List Brk) (B : Option Addr) (cb : Nat) (tab : Int) (HA : Option Addr) (hc : Nat) (hands : List Int) (w : World) (hk : Kinds w QA qc qs) (hb : Bricks w B cb bs) (hh : IntsZ w HA hc hands) :
  Calls Tryz.prog 30 #[.slice QA qs.length qc,.agg #[.slice B bs.length cb],.agg #[.int .i64 tab,.slice HA hands.length hc]] w fun e w' => e = .returned (.bool (great3B (qs.map (·.1)) bs.length hands.length)) ∧ Ext w w' := by
 obtain ⟨W1,hW1,E1,B1,hz1⟩ := mk_ w #[.slice B bs.length cb] 25
 obtain ⟨W2,hW2,E2,B2,hz2⟩ := mk_ W1 #[.int .i64 tab,.slice HA hands.length hc] 75
 have E := E1.trans E2
 have b1 := (B1.ext E2).cell
 have HE := Lib.hid E
 have HB2 := Lib.hid B2
 have b2 := B2.cell
 have hll : hands.length ≤ maxLen := Nat.le_trans hh.le hh.small
 have hbl : bs.length ≤ maxLen := Nat.le_trans hb.1.le hb.1.small
 have G := great_c qs QA qc B bs.length cb W2 (hk.ext E) hbl
 obtain ⟨r,hr⟩ : ∃ r,great3B (qs.map (·.1)) bs.length hands.length = r := ⟨_,rfl⟩
 have Hr := Lib.hid hr
 rcases great3_is hr with ⟨h1,rfl⟩ | ⟨h1,h2⟩
 ·rw [h1] at G
  clear hz1 hz2 B1 B2 E1 E2 E hr hk hb hh hbl
  go_enter Tryz.func30,Tryz.ntmps30
  go_wp2_with fail
  refine G.mono ?_
  rintro e W3 ⟨rfl,E3⟩
  go_wp2_with fail
  refine bodyPost_ret (v := .bool true) (by simp [results,Tryz.results30,go_sem]) rfl ⟨by rw [Hr.out],HE.out.trans E3⟩
 ·rw [h1] at G
  clear hz1 hz2 B1 B2 E1 E2 E hr hk hb hh hbl
  go_enter Tryz.func30,Tryz.ntmps30
  go_wp2_with fail
  clear b1 b2
  refine G.mono ?_
  rintro e W3 ⟨rfl,E3⟩
  have b2 := (HB2.out.ext E3).cell
  cases r
  ·have h3 : (hands.length : Int) ≤ 60 := by rw [decide_eq_false_iff_not] at h2; omega
   go_wp2_with fail
   refine bodyPost_ret (v := .bool false) (by simp [results,Tryz.results30,go_sem]) rfl ⟨by rw [Hr.out],HE.out.trans E3⟩
  ·have h3 : (60 : Int) < hands.length := of_decide_eq_true h2
   go_wp2_with fail
   refine bodyPost_ret (v := .bool true) (by simp [results,Tryz.results30,go_sem]) rfl ⟨by rw [Hr.out],HE.out.trans E3⟩

set_option maxRecDepth 100000 in
set_option maxHeartbeats 16000000 in
theorem excess_c (qs : List (Knd × KAt)) (QA : Option Addr) (qc : Nat) (bs : List Brk) (B : Option Addr) (cb : Nat) (tab : Int) (HA : Option Addr) (hc : Nat) (hands : List Int) (LA : Option Addr) (lc : Nat) (l : List Int) (w : World) (hk : Kinds w QA qc qs) (hb : Bricks w B cb bs) (hh : IntsZ w HA hc hands) (hl : IntsZ w LA lc l) :
  Calls Tryz.prog 33 #[.slice QA qs.length qc,.agg #[.slice B bs.length cb],.agg #[.int .i64 tab,.slice HA hands.length hc],.slice LA l.length lc] w fun e w' => e = .returned (.tuple #[.int .i64 (excR (qs.map (·.1)) bs tab hands l),.int .i64 (excErr (qs.map (·.1)) bs tab hands l)]) ∧ Ext w w' := by
 obtain ⟨W1,hW1,E1,B1,hz1⟩ := mk_ w #[.slice B bs.length cb] 25
 obtain ⟨W2,hW2,E2,B2,hz2⟩ := mk_ W1 #[.int .i64 tab,.slice HA hands.length hc] 75
 have E := E1.trans E2
 have b1 := (B1.ext E2).cell
 have b2 := B2.cell
 have HE := Lib.hid E
 have RE := rested_c qs QA qc bs B cb tab HA hc hands W2 (hk.ext E) (hb.ext E) (hh.ext E)
 by_cases h0 : restErr (qs.map (·.1)) bs tab hands = 0
 rotate_left
 ·obtain ⟨r,hr⟩ : ∃ r,restErr (qs.map (·.1)) bs tab hands = r := ⟨_,rfl⟩
  have he : excErr (qs.map (·.1)) bs tab hands l = r := by unfold excErr; rw [if_neg h0,hr]
  have hv : excR (qs.map (·.1)) bs tab hands l = 0 := by unfold excR; rw [if_neg (by rw [he,← hr]; exact h0)]
  have Hr := Lib.hid hr
  have h1 : (r != 0) = true := by rw [← hr]; simpa using h0
  rw [he,hv]
  clear hz1 hz2 B1 B2 E1 E2 E hk hb hh hl hr he hv
  go_enter Tryz.func33,Tryz.ntmps33
  go_wp2_with fail
  refine RE.mono ?_
  rintro e W3 (⟨h2, -⟩ | ⟨-,rfl,E3⟩)
  ·exact absurd h2 h0
  ·rw [Hr.out]
   go_wp2_with fail
   refine bodyPost_ret (v := .tuple #[.int .i64 0,.int .i64 r]) (by simp [results,Tryz.results33,go_sem]) rfl ⟨rfl,HE.out.trans E3⟩
 have hcm := (restErr_zero h0).1
 have hf := fit_of hk hb.2 hcm
 have hnb := hf.n
 have HF := Lib.hid hf
 have H0 := Lib.hid h0
 have HK := Lib.hid hk
 have HBr := Lib.hid hb
 have HLs := Lib.hid hl
 have CH := Lib.hid (fun (W : World) (E' : Ext w W) => chosen_c LA lc l (bs.length : Int) W (hl.ext E'))
 have CN := Lib.hid (fun (W : World) (E' : Ext w W) (i : Nat) => contZ_c LA lc l (i : Int) W (hl.ext E'))
 obtain ⟨ch,hch⟩ : ∃ b,chosenB l bs.length = b := ⟨_,rfl⟩
 have Hch := Lib.hid hch
 rw [hch] at CH
 have he0 : excErr (qs.map (·.1)) bs tab hands l = if ch = true then (if (excOut (qs.map (·.1)) bs tab hands l l.length).isSome = true then 0 else 31) else 2 := by
  unfold excErr
  rw [if_pos h0,hch]
 have He0 := Lib.hid he0
 clear hz1 hz2 B1 B2 E1 E2 E h0 hk hb hh hl hcm hf hch he0
 go_enter Tryz.func33,Tryz.ntmps33
 go_wp2_with fail
 refine RE.mono ?_
 rintro e W3 (⟨-,X,CA,cc,M,JA,jc,gs,cp,mm,GA,gc,rfl,hX,BT,BZ,E3⟩ | ⟨h2, -⟩)
 rotate_left
 ·exact absurd H0.out h2
 have HE3 := Lib.hid (HE.out.trans E3)
 have HBT := Lib.hid BT
 have HBZ := Lib.hid BZ
 clear E3 b1 b2 BT BZ hX RE hW1 hW2
 go_wp2_with fail
 refine (CH.out _ HE3.out).mono ?_
 rintro e W4 ⟨rfl,E4⟩
 have HE4 := Lib.hid (HE3.out.trans E4)
 have HBT4 := Lib.hid (HBT.out.ext E4)
 have HBZ4 := Lib.hid (HBZ.out.ext E4)
 clear E4
 cases ch
 ·have he : excErr (qs.map (·.1)) bs tab hands l = 2 := by rw [He0.out]; rfl
  have hv : excR (qs.map (·.1)) bs tab hands l = 0 := by unfold excR; rw [if_neg (by rw [he]; decide)]
  have Hh := Lib.hid he
  have Hv := Lib.hid hv
  clear he hv
  go_wp2_with fail
  refine bodyPost_ret (v := .tuple #[.int .i64 0,.int .i64 2]) (by simp [results,Tryz.results33,go_sem]) rfl ⟨by rw [Hh.out,Hv.out],HE4.out⟩
 have CC := capacities_c X qs QA qc bs B cb CA cc M JA jc gs cp mm W4 HBT4.out HF.out
 go_wp2_with fail
 refine CC.mono ?_
 rintro e W5 ⟨G,f,rfl,hG,hM,hfv,E5⟩
 have HE5 := Lib.hid (HE4.out.trans E5)
 have HBT5 := Lib.hid (HBT4.out.ext E5)
 have HBZ5 := Lib.hid (HBZ4.out.ext E5)
 have HM := Lib.hid hM
 have Hfv := Lib.hid hfv
 have hlen := chosen_len Hch.out
 have HAt := Lib.hid (chosen_at Hch.out)
 clear E5 hM hfv hG CC
 go_wp2_with fail
 go_loopw [14,38] (fun v ii wr => ∃ (q : Nat) (a : Int),q ≤ l.length ∧ ii = .int .i64 q ∧ v = .int .i64 a ∧ -(4000000 * (q : Int)) ≤ a ∧ a ≤ 100 * (q : Int) ∧ Ext W5 wr ∧ Hid (excOut (qs.map (·.1)) bs tab hands l q = some a)) (fun _ ii _ => l.length - (intOf ii).toNat)
 case atStart => exact ⟨0,0,by omega,rfl,rfl,by omega,by omega,Ext.refl _,Lib.hid rfl⟩
 case round =>
  obtain ⟨q,a,hq,rfl,rfl,ha1,ha2,Er,Ha⟩ := hrel
  by_cases hqt : q < l.length
  ·obtain ⟨p,hp,hqp,hpn⟩ := HAt.out q hqt
   obtain ⟨lg,loff,p0,rfl,hp0, -,cL⟩ := (HLs.out.ext (HE5.out.trans Er)).at_ hqt
   rw [hp] at hp0
   cases hp0
   obtain ⟨gg,goff,gb,rfl,hgb, -,cG⟩ := (HBZ5.out.ext Er).at_ (k := p) (by rw [grdL_len]; exact hpn)
   have hgb' : grdB (qs.map (·.1)) bs tab hands p = gb := by
    unfold grdL at hgb
    rw [List.getElem?_map,List.getElem?_range hpn] at hgb
    exact Option.some.inj hgb
   have hld : (l.getD q 0).toNat = p := by rw [List.getD_eq_getElem?_getD,hp]; rfl
   have q0 : (0 : Int) ≤ q := by omega
   have q1 : (q : Int) < l.length := by omega
   have p0 : (0 : Int) ≤ p := by omega
   have p1 : (p : Int) < bs.length := by omega
   cases gb
   rotate_left
   ·have hno := excOut_none (m := l.length) (excOut_grd Ha.out (by rw [hld,hgb'])) (by omega)
    have he : excErr (qs.map (·.1)) bs tab hands l = 31 := by rw [He0.out,hno]; simp
    have hv : excR (qs.map (·.1)) bs tab hands l = 0 := by unfold excR; rw [if_neg (by rw [he]; decide)]
    have Hh := Lib.hid he
    have Hv := Lib.hid hv
    have HR := Lib.hid (HE5.out.trans Er)
    clear he hv hno
    go_wp2_with fail
    refine bodyPost_ret (v := .tuple #[.int .i64 0,.int .i64 31]) (by simp [results,Tryz.results33,go_sem]) rfl ⟨by rw [Hh.out,Hv.out],HR.out⟩
   ·have WT := weight_c X qs QA qc bs B cb CA cc M JA jc gs cp mm _ (HBT5.out.ext Er) (HK.out.ext (HE5.out.trans Er)) (HBr.out.ext (HE5.out.trans Er)) HF.out p hpn
    obtain ⟨m,kk,pp, -, -, -,hw,hw1,hw2⟩ := wt_parts HF.out hpn
    rw [← hw] at hw1 hw2
    obtain ⟨wt,hwt⟩ : ∃ x,wtOf (qs.map (·.1)) bs p = x := ⟨_,rfl⟩
    have hnx := excOut_next Ha.out (by rw [hld,hgb'])
    rw [hld,hwt] at hnx
    rw [hwt] at WT hw1 hw2
    have Hnx := Lib.hid hnx
    clear hnx hw hwt hgb hgb' hld
    go_wp2_with fail
    clear cL cG
    refine WT.mono ?_
    rintro e W6 ⟨rfl,E6⟩
    have Er6 := Er.trans E6
    clear E6 Er WT
    go_wp2_with fail
    go_loopw [14,53] (fun v ii wr => ∃ (k : Nat) (b : Int),k ≤ bs.length ∧ ii = .int .i64 k ∧ v = .int .i64 b ∧ a + wt - 96000 * (k : Int) ≤ b ∧ b ≤ a + wt ∧ Ext W5 wr ∧ Hid (excIn (qs.map (·.1)) bs l p k (a + wt) = some b)) (fun _ ii _ => bs.length - (intOf ii).toNat)
    case atStart => exact ⟨0,a + wt,by omega,rfl,by go_num,by omega,by omega,Er6,Lib.hid rfl⟩
    case round =>
     clear Er6
     obtain ⟨k,b,hk,rfl,rfl,hb1,hb2,Er,Hb⟩ := hrel
     by_cases hkt : k < bs.length
     ·have k0 : (0 : Int) ≤ k := by omega
      have k1 : (k : Int) < bs.length := by omega
      have CNk := CN.out _ (HE5.out.trans Er) k
      obtain ⟨r,hr⟩ : ∃ r,hasZ l (k : Int) = r := ⟨_,rfl⟩
      rw [hr] at CNk
      have Hr := Lib.hid hr
      clear hr
      go_wp2_with fail
      refine CNk.mono ?_
      rintro e W7 ⟨rfl,E7⟩
      have E77 := Er.trans E7
      clear E7 Er CNk
      cases r
      ·have cM := MatB.cell (HM.out.ext E77) (a := p) (b := k) (by omega) (by omega)
       rw [Hfv.out p hpn k hkt] at cM
       have hcb := capV_small HF.out p k
       obtain ⟨cv,hcv⟩ : ∃ x,capV (qs.map (·.1)) bs p k = x := ⟨_,rfl⟩
       rw [hcv] at cM hcb
       have Hcv := Lib.hid hcv
       have p2 : (p : Int) < 40 := by omega
       have k2 : (k : Int) < 40 := by omega
       clear hcv
       by_cases hc9 : cv = 1073741824
       ·have hno := excOut_none (m := l.length) (Hnx.out.trans (excIn_none (m := bs.length) (excIn_all Hb.out Hr.out (by rw [Hcv.out,hc9])) (by omega))) (by omega)
        have he : excErr (qs.map (·.1)) bs tab hands l = 31 := by rw [He0.out,hno]; simp
        have hv : excR (qs.map (·.1)) bs tab hands l = 0 := by unfold excR; rw [if_neg (by rw [he]; decide)]
        have Hh := Lib.hid he
        have Hv := Lib.hid hv
        have HR := Lib.hid (HE5.out.trans E77)
        have hq9 : (cv == 1073741824) = true := beq_iff_eq.2 hc9
        clear he hv hno
        go_wp2_with fail
        refine bodyPost_ret (v := .tuple #[.int .i64 0,.int .i64 31]) (by simp [results,Tryz.results33,go_sem]) rfl ⟨by rw [Hh.out,Hv.out],HR.out⟩
       ·have Hb2 := Lib.hid (excIn_sub Hb.out Hr.out (by rw [Hcv.out]; exact hc9))
        rw [Hcv.out] at Hb2
        have hq9 : (cv == 1073741824) = false := beq_eq_false_iff_ne.2 hc9
        have hcb2 : 0 ≤ cv ∧ cv ≤ 96000 := by omega
        obtain ⟨hcb3,hcb4⟩ := hcb2
        clear hcb
        go_wp2_with fail
        go_roundw
        case rel => exact ⟨k + 1,b - cv,by omega,by go_num,by go_num,by omega,by omega,E77,Hb2⟩
        case measure => simp only [intOf]; omega
      ·have Hb2 := Lib.hid (excIn_in Hb.out Hr.out)
       go_wp2_with fail
       go_roundw
       case rel => exact ⟨k + 1,b,by omega,by go_num,rfl,by omega,by omega,E77,Hb2⟩
       case measure => simp only [intOf]; omega
     ·obtain rfl : k = bs.length := by omega
      have Ho := Lib.hid (Hnx.out.trans Hb.out)
      go_wp2_with fail
      go_roundw
      case rel => exact ⟨q + 1,b,by omega,by go_num,rfl,by omega,by omega,Er,Ho⟩
      case measure => simp only [intOf]; omega
  ·obtain rfl : q = l.length := by omega
   have he : excErr (qs.map (·.1)) bs tab hands l = 0 := by rw [He0.out,Ha.out]; simp
   have hv : excR (qs.map (·.1)) bs tab hands l = a := by unfold excR; rw [if_pos he,Ha.out]; rfl
   have Hh := Lib.hid he
   have Hv := Lib.hid hv
   have HR := Lib.hid (HE5.out.trans Er)
   clear he hv
   go_wp2_with fail
   refine bodyPost_ret (v := .tuple #[.int .i64 a,.int .i64 0]) (by simp [results,Tryz.results33,go_sem]) rfl ⟨by rw [Hh.out,Hv.out],HR.out⟩

theorem carry_congr {n : Nat} {g1 g2 : Nat → Bool} {cap : Nat → Nat → Int} {wt : Nat → Int} {l : List Ld} (h : ∀ v,v < n → g1 v = g2 v) : carryB n g1 cap wt l = carryB n g2 cap wt l := by
 have e : ldOk n g1 cap l = ldOk n g2 cap l := by
  funext i
  unfold ldOk
  cases hb : ldB n (ldAt l i)
  ·rfl
  ·have h1 := ldB_iff.1 hb
   unfold mayB
   rw [h _ (show (ldAt l i).src.toNat < n by omega)]
 unfold carryB
 rw [e]
def ldErr (ks : List Knd) (bs : List Brk) (tab : Int) (hands : List Int) (l : List Ld) : Int :=
 if restErr ks bs tab hands = 0 then (if carryB bs.length (grdB ks bs tab hands) (capV ks bs) (wtOf ks bs) l = true then 0 else 31) else restErr ks bs tab hands
set_option maxRecDepth 100000 in
set_option maxHeartbeats 8000000 in
theorem checkLoads_c (qs : List (Knd × KAt)) (QA : Option Addr) (qc : Nat) (bs : List Brk) (B : Option Addr) (cb : Nat) (tab : Int) (HA : Option Addr) (hc : Nat) (hands : List Int) (LA : Option Addr) (lc : Nat) (l : List Ld) (w : World) (hk : Kinds w QA qc qs) (hb : Bricks w B cb bs) (hh : IntsZ w HA hc hands) (hl : Lds w LA lc l) (hl2 : l.length ≤ 2000) :
  Calls Tryz.prog 35 #[.slice QA qs.length qc,.agg #[.slice B bs.length cb],.agg #[.int .i64 tab,.slice HA hands.length hc],.slice LA l.length lc] w fun e w' => e = .returned (.int .i64 (ldErr (qs.map (·.1)) bs tab hands l)) ∧ Ext w w' := by
 obtain ⟨W1,hW1,E1,B1,hz1⟩ := mk_ w #[.slice B bs.length cb] 25
 obtain ⟨W2,hW2,E2,B2,hz2⟩ := mk_ W1 #[.int .i64 tab,.slice HA hands.length hc] 75
 have E := E1.trans E2
 have b1 := (B1.ext E2).cell
 have b2 := B2.cell
 have HE := Lib.hid E
 have RE := rested_c qs QA qc bs B cb tab HA hc hands W2 (hk.ext E) (hb.ext E) (hh.ext E)
 by_cases h0 : restErr (qs.map (·.1)) bs tab hands = 0
 rotate_left
 ·obtain ⟨r,hr⟩ : ∃ r,restErr (qs.map (·.1)) bs tab hands = r := ⟨_,rfl⟩
  have he : ldErr (qs.map (·.1)) bs tab hands l = r := by unfold ldErr; rw [if_neg h0,hr]
  have Hr := Lib.hid hr
  have h1 : (r != 0) = true := by rw [← hr]; simpa using h0
  rw [he]
  clear hz1 hz2 B1 B2 E1 E2 E hk hb hh hl hr he
  go_enter Tryz.func35,Tryz.ntmps35
  go_wp2_with fail
  refine RE.mono ?_
  rintro e W3 (⟨h2, -⟩ | ⟨-,rfl,E3⟩)
  ·exact absurd h2 h0
  ·rw [Hr.out]
   go_wp2_with fail
   refine bodyPost_ret (v := .int .i64 r) (by simp [results,Tryz.results35,go_sem]) rfl ⟨rfl,HE.out.trans E3⟩
 have hcm := (restErr_zero h0).1
 have hf := fit_of hk hb.2 hcm
 have PC := Lib.hid (fun (X : Nat) (CA : Option Addr) (cc M : Nat) (JA : Option Addr) (jc : Nat) (gs cp : Nat → Nat) (mm : List (Pt × Int)) (GA : Option Addr) (gc : Nat) (W : World) (E' : Ext w W) (h : BuiltAt W X qs QA qc bs B cb CA cc M JA jc gs cp mm) (hg : BoolsZ W GA gc (grdL (qs.map (·.1)) bs tab hands bs.length)) =>
  carries_c X qs QA qc bs B cb CA cc M JA jc gs cp mm GA gc _ LA lc l W h (hk.ext E') (hb.ext E') hf hg (grdL_len _ _ _ _ _) (hl.ext E') hl2)
 have hcg : carryB bs.length (grF (grdL (qs.map (·.1)) bs tab hands bs.length)) (capV (qs.map (·.1)) bs) (wtOf (qs.map (·.1)) bs) l = carryB bs.length (grdB (qs.map (·.1)) bs tab hands) (capV (qs.map (·.1)) bs) (wtOf (qs.map (·.1)) bs) l := carry_congr fun v hv => by
  unfold grF grdL
  rw [List.getD_eq_getElem?_getD,List.getElem?_map,List.getElem?_range hv]
  rfl
 rw [hcg] at PC
 obtain ⟨cr,hcr⟩ : ∃ b,carryB bs.length (grdB (qs.map (·.1)) bs tab hands) (capV (qs.map (·.1)) bs) (wtOf (qs.map (·.1)) bs) l = b := ⟨_,rfl⟩
 rw [hcr] at PC
 have he : ldErr (qs.map (·.1)) bs tab hands l = if cr = true then 0 else 31 := by unfold ldErr; rw [if_pos h0,hcr]
 have Hh := Lib.hid he
 have H0 := Lib.hid h0
 clear hz1 hz2 B1 B2 E1 E2 E h0 hk hb hh hl hcm hf hcg hcr he
 go_enter Tryz.func35,Tryz.ntmps35
 go_wp2_with fail
 refine RE.mono ?_
 rintro e W3 (⟨-,X,CA,cc,M,JA,jc,gs,cp,mm,GA,gc,rfl,hX,BT,BZ,E3⟩ | ⟨h2, -⟩)
 rotate_left
 ·exact absurd H0.out h2
 have P3 := PC.out X CA cc M JA jc gs cp mm GA gc W3 (HE.out.trans E3) BT BZ
 have HE3 := Lib.hid (HE.out.trans E3)
 clear b1 b2 BT BZ E3 RE hW1 hW2
 go_wp2_with fail
 refine P3.mono ?_
 rintro e W4 ⟨rfl,E4⟩
 have HE4 := Lib.hid (HE3.out.trans E4)
 clear E4 P3
 cases cr
 ·go_wp2_with fail
  refine bodyPost_ret (v := .int .i64 31) (by simp [results,Tryz.results35,go_sem]) rfl ⟨by rw [Hh.out]; rfl,HE4.out⟩
 ·go_wp2_with fail
  refine bodyPost_ret (v := .int .i64 0) (by simp [results,Tryz.results35,go_sem]) rfl ⟨by rw [Hh.out]; rfl,HE4.out⟩
set_option maxRecDepth 100000 in
set_option maxHeartbeats 8000000 in
theorem rCheckLoads_c (qs : List (Knd × KAt)) (QA : Option Addr) (qc : Nat) (bs : List Brk) (B : Option Addr) (cb : Nat) (tab : Int) (HA : Option Addr) (hc : Nat) (hands : List Int) (LA : Option Addr) (lc : Nat) (l : List Ld) (w : World) (hk : Kinds w QA qc qs) (hb : Bricks w B cb bs) (hh : IntsZ w HA hc hands) (hl : Lds w LA lc l) (hl2 : l.length ≤ 2000) :
  Calls Tryz.prog 36 #[.slice QA qs.length qc,.agg #[.slice B bs.length cb],.agg #[.int .i64 tab,.slice HA hands.length hc],.slice LA l.length lc] w fun e w' => e = .returned (.int .i64 (ldErr (qs.map (·.1)) bs tab hands l)) ∧ Ext w w' := by
 obtain ⟨W1,hW1,E1,B1,hz1⟩ := mk_ w #[.slice B bs.length cb] 25
 obtain ⟨W2,hW2,E2,B2,hz2⟩ := mk_ W1 #[.int .i64 tab,.slice HA hands.length hc] 75
 have E := E1.trans E2
 have b1 := (B1.ext E2).cell
 have b2 := B2.cell
 have HE := Lib.hid E
 have HB1 := Lib.hid (B1.ext E2)
 have HB2 := Lib.hid B2
 have RE := rCheckRest_c qs QA qc bs B cb tab HA hc hands W2 (hk.ext E) (hb.ext E) (hh.ext E)
 obtain ⟨r,hr⟩ : ∃ r,restErr (qs.map (·.1)) bs tab hands = r := ⟨_,rfl⟩
 rw [hr] at RE
 by_cases h0 : r = 0
 rotate_left
 ·have he : ldErr (qs.map (·.1)) bs tab hands l = r := by unfold ldErr; rw [if_neg (by rw [hr]; exact h0),hr]
  have h1 : (r != 0) = true := by simpa using h0
  rw [he]
  clear hz1 hz2 B1 B2 E1 E2 E hk hb hh hl hr he h0
  go_enter Tryz.func36,Tryz.ntmps36
  go_wp2_with fail
  refine RE.mono ?_
  rintro e W3 ⟨rfl,E3⟩
  go_wp2_with fail
  refine bodyPost_ret (v := .int .i64 r) (by simp [results,Tryz.results36,go_sem]) rfl ⟨rfl,HE.out.trans E3⟩
 subst h0
 have hcm := (restErr_zero hr).1
 have PC := Lib.hid (fun (W : World) (E' : Ext w W) => rCarried_c qs QA qc bs B cb tab HA hc hands LA lc l W (hk.ext E') (hb.ext E') (hh.ext E') hcm (hl.ext E') hl2)
 obtain ⟨cr,hcr⟩ : ∃ b,carryB bs.length (grdB (qs.map (·.1)) bs tab hands) (capV (qs.map (·.1)) bs) (wtOf (qs.map (·.1)) bs) l = b := ⟨_,rfl⟩
 rw [hcr] at PC
 have he : ldErr (qs.map (·.1)) bs tab hands l = if cr = true then 0 else 31 := by unfold ldErr; rw [if_pos hr,hcr]
 have Hh := Lib.hid he
 clear hz1 hz2 B1 B2 E1 E2 E hr hk hb hh hl hcm hcr he
 go_enter Tryz.func36,Tryz.ntmps36
 go_wp2_with fail
 clear hW1 hW2 b1 b2
 refine RE.mono ?_
 rintro e W3 ⟨rfl,E3⟩
 have P3 := PC.out W3 (HE.out.trans E3)
 have HE3 := Lib.hid (HE.out.trans E3)
 have b1 := (HB1.out.ext E3).cell
 have b2 := (HB2.out.ext E3).cell
 clear E3 RE
 go_wp2_with fail
 clear b1 b2
 refine P3.mono ?_
 rintro e W4 ⟨rfl,E4⟩
 have HE4 := Lib.hid (HE3.out.trans E4)
 clear E4 P3
 cases cr
 ·go_wp2_with fail
  refine bodyPost_ret (v := .int .i64 31) (by simp [results,Tryz.results36,go_sem]) rfl ⟨by rw [Hh.out]; rfl,HE4.out⟩
 ·go_wp2_with fail
  refine bodyPost_ret (v := .int .i64 0) (by simp [results,Tryz.results36,go_sem]) rfl ⟨by rw [Hh.out]; rfl,HE4.out⟩
theorem ld_neq_same (a b c : Int) (w : World) : (binOp .neq 140 (.agg #[.int .i64 a,.int .i64 b,.int .i64 c]) (.agg #[.int .i64 a,.int .i64 b,.int .i64 c])).run Tryz.prog w = .ok (.bool false) w := by
 simp [go_sem]
set_option maxHeartbeats 1600000 in
theorem sameLoads_c (A B : Option Addr) (ca cb : Nat) (l : List Ld) (w : World) (ha : Lds w A ca l) (hb : Lds w B cb l) :
  Calls Tryz.prog 37 #[.slice A l.length ca,.slice B l.length cb] w fun e w' => e = .returned (.bool true) ∧ Ext w w' := by
 have hl1 : l.length ≤ 9223372036854775807 := by have := ha.len; unfold maxLen at this; omega
 have HA := Lib.hid ha
 have HB := Lib.hid hb
 clear ha hb
 go_enter Tryz.func37,Tryz.ntmps37
 go_wp2_with fail
 go_loopw [5] (fun i wr => ∃ k : Nat,k ≤ l.length ∧ i = .int .i64 k ∧ Ext w wr) (fun i _ => l.length - (intOf i).toNat)
 case atStart => exact ⟨0,by omega,rfl,Ext.refl w⟩
 case round =>
  obtain ⟨k,hk,rfl,E⟩ := hrel
  by_cases hlt : k < l.length
  ·obtain ⟨g,off,rfl, -,c0,c1,c2⟩ := (HA.out.ext E).at_ hlt
   obtain ⟨g',off',rfl, -,e0,e1,e2⟩ := (HB.out.ext E).at_ hlt
   obtain ⟨⟨x,y,z⟩,hx⟩ : ∃ x,ldAt l k = x := ⟨_,rfl⟩
   rw [hx] at c0 c1 c2 e0 e1 e2
   simp only at c0 c1 c2 e0 e1 e2
   have hneq := ld_neq_same x y z
   have h1 : l.length ≤ ca := HA.out.le
   have h2 : l.length ≤ cb := HB.out.le
   have i1 : (0 : Int) ≤ k := by omega
   have i2 : (k : Int) < l.length := by omega
   have i3 : (k : Int) < ca := by omega
   have i4 : (k : Int) < cb := by omega
   clear hx
   go_upto_region 6 with (fail)
   refine wp_region_grow (by kernel_rfl) (by kernel_rfl) ?_
   repeat (go_big_quiet_step (fail))
   refine wpQuiet_nil ?_
   intro W3 hW3
   have E3 : Ext wr W3 := by
    obtain ⟨x,rfl⟩ := hW3
    exact (Ext.refl _).grow x
   clear hW3
   obtain ⟨hcW3,hfW3,hzW3⟩ := ext_facts E3
   clear hcW3 hfW3 hzW3 c0 c1 c2 e0 e1 e2
   go_wp2_with fail
   go_roundw
   case rel => exact ⟨k + 1,by omega,by go_num,E.trans E3⟩
   case measure => simp only [intOf]; omega
  ·obtain rfl : k = l.length := by omega
   go_wp2_with fail
   go_ret
   exact ⟨rfl,E⟩

theorem infoLd : (Tryz.prog.info? 140).map (fun i => (i.zero,i.size,i.bytes)) = some (some (.agg #[.int .i64 0,.int .i64 0,.int .i64 0]),3,24) := by kernel_rfl
theorem empty_loads (w : World) : (Instr.buildSlice 76 0 #[]).run Tryz.prog w = .ok (.slice (some ⟨w.heap.size,0,none⟩) 0 0) (w.alloc (.cells #[] 140)) := by
 obtain ⟨i,hi,hz, -, -⟩ := info_parts infoLd
 simp [Instr.buildSlice,run_underlying Tryz.underlying76,sizeOf,typeInfo,hi,newRow,Instr.fill]
 rw [show Array.range 0 = #[] from by simp [Array.range]]
 simp
theorem own_emptyF (w : World) {U : Nat} (hU : U ≤ w.heap.size) (e : TypeId) (sz : Nat) : (w.alloc (.cells #[] e)).ownsRow U e sz (.slice (some ⟨w.heap.size,0,none⟩) 0 0) 0 [] := by
 exact World.ownsRow_made w #[] 0 hU (Nat.zero_le _) (by simp)
theorem lds_one (l : List Ld) : ∀ u ∈ (l.map Ld.cs).flatten,u.oneCell' = true := fun u hu => by
 obtain ⟨r,hr,hu⟩ := List.mem_flatten.1 hu
 obtain ⟨p, -,rfl⟩ := List.mem_map.1 hr
 simp only [Ld.cs,List.mem_cons,List.not_mem_nil,or_false] at hu
 rcases hu with rfl | rfl | rfl <;> rfl
theorem wpList_append_anyF {P : Program} {w : World} {ops : Array Oper} {o : Oper} {rest : List Oper} {a : Act} {Q : Exit → Act → World → Prop} (hgd : o.guard = none) (s x : Operand) (t : TypeId) (ho : o.op = .call { callee := .builtin .append,args := #[s,x],argTypes := #[t,t] })
  (base : Nat) (e : TypeId) (i : TypeInfo) (z : Value) (size bytes : Nat) (ht : P.underlying t = some (.slice e)) (hi : P.info? e = some i) (hz : i.zero = some z)
  (hsize : i.size = size) (hby : i.bytes = bytes) (hzs : z.cells.size = size) (hsz : 0 < size)
  (v : Value) (n : Nat) (xs : List Value) (hs : a.eval s = v) (hown : w.ownsRow base e size v n xs)
  (A : Option Addr) (m c : Nat) (rows : List (List Value)) (hx : a.eval x = .slice A m c) (hsrc : SliceIs w A m c size rows) (hnil : A = none → c = 0) (h1 : ∀ u ∈ rows.flatten,u.oneCell' = true)
  (h63 : n + m ≤ maxLen) (hbytes : (n + m) * bytes ≤ 140737488355328) (hbase : base ≤ w.heap.size)
  (h : ∀ v' w',w'.ownsRow base e size v' (n + m) (xs ++ rows.flatten) → w.grownBy w' v.ownBlock → wpList P ops Q rest (a.put o.dst v') w') : wpList P ops Q (o :: rest) a w :=
 wpList_plain hgd fun _ hK => by
  have := step_append_any (P := P) (ops := ops) (o := o) (a := a) (Q := Q) (F := True) hgd s x t ho base e i z size bytes ht hi hz hsize hby hzs hsz v n xs hs hown A m c rows hx hsrc hnil h1 h63 hbytes hbase (fun v' w' h2 h3 => hK _ _ (h v' w' h2 h3))
  rwa [if_pos (by simp [Region.wanted,hgd])] at this
theorem own_slice_form {w : World} {b : Nat} {e : TypeId} {sz n : Nat} {v : Value} {xs : List Value} (h : w.ownsRow b e sz v n xs) : ∃ A c,v = .slice A n c := by
 rcases h.2 with ⟨hv,h0⟩ | ⟨g,cap,cur,hv, -⟩
 ·exact ⟨_,_,by rw [hv,h0]⟩
 ·exact ⟨_,_,hv⟩
theorem lds_own {w : World} {b : Nat} {A : Option Addr} {cap : Nat} {l : List Ld} (h : w.ownsRow b 140 3 (.slice A l.length cap) l.length (l.map Ld.cs).flatten) : Lds w A cap l := by
 obtain ⟨A',cap',he,hs, -⟩ := own_slice0 (fun r hr => by obtain ⟨y, -,rfl⟩ := List.mem_map.1 hr; rfl) (by rw [List.length_map]) h
 cases he
 exact hs
set_option maxRecDepth 100000 in
set_option maxHeartbeats 8000000 in
theorem falls_walk (qs : List (Knd × KAt)) (QA : Option Addr) (qc : Nat) (bs : List Brk) (B : Option Addr) (cb : Nat) (tab : Int) (HA : Option Addr) (hc : Nat) (hands : List Int) (SA : Option Addr) (sc : Nat) (set : List Int) (LA : Option Addr) (lc : Nat) (loads : List Ld) (w : World) (hk : Kinds w QA qc qs) (hb : Bricks w B cb bs) (hh : IntsZ w HA hc hands) (hs : IntsZ w SA sc set) (hl : Lds w LA lc loads) (hnil : LA = none → lc = 0) :
  Calls Tryz.prog 5 #[.slice QA qs.length qc,.agg #[.slice B bs.length cb],.agg #[.int .i64 tab,.slice HA hands.length hc],.slice SA set.length sc,.slice LA loads.length lc] w fun e w' => e = .returned (.bool true) ∧ Ext w w' := by
 obtain ⟨W1,hW1,E1,B1,hz1⟩ := mk_ w #[.slice B bs.length cb] 25
 obtain ⟨W2,hW2,E2,B2,hz2⟩ := mk_ W1 #[.int .i64 tab,.slice HA hands.length hc] 75
 have E := E1.trans E2
 have b1 := (B1.ext E2).cell
 have b2 := B2.cell
 have HE := Lib.hid E
 have HB1 := Lib.hid (B1.ext E2)
 have HB2 := Lib.hid B2
 have G := great3_c qs QA qc bs B cb tab HA hc hands W2 (hk.ext E) (hb.ext E) (hh.ext E)
 have HFp := Lib.hid (fun (W : World) (E : Ext w W) => falling_c qs QA qc bs B cb tab HA hc hands W (hk.ext E) (hb.ext E) (hh.ext E))
 have HFq := Lib.hid (fun (W : World) (E : Ext w W) => rFalling_c qs QA qc bs B cb tab HA hc hands W (hk.ext E) (hb.ext E) (hh.ext E))
 have HEp := Lib.hid (fun (W : World) (E : Ext w W) => excess_c qs QA qc bs B cb tab HA hc hands SA sc set W (hk.ext E) (hb.ext E) (hh.ext E) (hs.ext E))
 have HEq := Lib.hid (fun (W : World) (E : Ext w W) => rExcess_c qs QA qc bs B cb tab HA hc hands SA sc set W (hk.ext E) (hb.ext E) (hh.ext E) (hs.ext E))
 have HLp := Lib.hid (fun (OA : Option Addr) (oc : Nat) (W : World) (E : Ext w W) (h : Lds W OA oc loads) (h2 : loads.length ≤ 2000) => checkLoads_c qs QA qc bs B cb tab HA hc hands OA oc loads W (hk.ext E) (hb.ext E) (hh.ext E) h h2)
 have HLq := Lib.hid (fun (W : World) (E : Ext w W) (h2 : loads.length ≤ 2000) => rCheckLoads_c qs QA qc bs B cb tab HA hc hands LA lc loads W (hk.ext E) (hb.ext E) (hh.ext E) (hl.ext E) h2)
 have HSL := Lib.hid (fun (OA : Option Addr) (oc : Nat) (W : World) (E : Ext w W) (h : Lds W OA oc loads) => sameLoads_c OA LA oc lc loads W h (hl.ext E))
 have HLl := Lib.hid hl
 obtain ⟨r,hr⟩ : ∃ r,great3B (qs.map (·.1)) bs.length hands.length = r := ⟨_,rfl⟩
 rw [hr] at G
 unfold FallPost at HFp HFq
 obtain ⟨err,herr⟩ : ∃ x,restErr (qs.map (·.1)) bs tab hands = x := ⟨_,rfl⟩
 obtain ⟨ev,hev⟩ : ∃ x,excR (qs.map (·.1)) bs tab hands set = x := ⟨_,rfl⟩
 obtain ⟨ee,hee⟩ : ∃ x,excErr (qs.map (·.1)) bs tab hands set = x := ⟨_,rfl⟩
 obtain ⟨le,hle⟩ : ∃ x,ldErr (qs.map (·.1)) bs tab hands loads = x := ⟨_,rfl⟩
 rw [herr] at HFp HFq
 rw [hev,hee] at HEp HEq
 rw [hle] at HLp HLq
 obtain ⟨i9,hi9,hz9,hz91,hz92⟩ := info_parts infoLd
 clear hz1 hz2 B1 B2 E1 E2 E hk hb hh hs hl hr herr hev hee hle
 go_enter Tryz.func5,Tryz.ntmps5
 go_wp2_with fail
 refine G.mono ?_
 rintro e W3 ⟨rfl,E3⟩
 have HE3 := Lib.hid (HE.out.trans E3)
 have HB13 := Lib.hid (HB1.out.ext E3)
 have HB23 := Lib.hid (HB2.out.ext E3)
 clear E3 hW1 hW2 G b1 b2
 cases r
 rotate_left
 ·go_wp2_with fail
  refine bodyPost_ret (v := .bool true) (by simp [results,Tryz.results5,go_sem]) rfl ⟨rfl,HE3.out⟩
 by_cases hs60 : (set.length : Int) > 60
 ·go_wp2_with fail
  refine bodyPost_ret (v := .bool true) (by simp [results,Tryz.results5,go_sem]) rfl ⟨rfl,HE3.out⟩
 by_cases hl2 : (loads.length : Int) > 2000
 ·have hs61 : ¬ (set.length : Int) > 60 := hs60
  go_wp2_with fail
  refine bodyPost_ret (v := .bool true) (by simp [results,Tryz.results5,go_sem]) rfl ⟨rfl,HE3.out⟩
 have hs61 : ¬ (set.length : Int) > 60 := hs60
 have hl3 : ¬ (loads.length : Int) > 2000 := hl2
 have hlen : loads.length ≤ 2000 := by omega
 have b1 := HB13.out.cell
 have b2 := HB23.out.cell
 go_wp2_with fail
 clear b1 b2
 refine (HFp.out _ HE3.out).mono ?_
 rintro e W4 ⟨FA,fa,l1,rfl,Z1,F1,E4⟩
 have HE4 := Lib.hid (HE3.out.trans E4)
 have HB14 := Lib.hid (HB13.out.ext E4)
 have HB24 := Lib.hid (HB23.out.ext E4)
 have b1 := HB14.out.cell
 have b2 := HB24.out.cell
 clear E4
 go_wp2_with fail
 clear b1 b2
 refine (HFq.out _ HE4.out).mono ?_
 rintro e W5 ⟨FB,fb,l2,rfl,Z2,F2,E5⟩
 obtain rfl := F1.unique F2
 have SI := rSameInts_c FA FB fa fb l1 l1 W5 (Z1.ext E5) Z2
 rw [eqI_iff.2 rfl] at SI
 have HE5 := Lib.hid (HE4.out.trans E5)
 have HB15 := Lib.hid (HB14.out.ext E5)
 have HB25 := Lib.hid (HB24.out.ext E5)
 have hq : (err != err) = false := by simp
 clear E5 Z1 Z2 F1 F2
 go_wp2_with fail
 refine SI.mono ?_
 rintro e W6 ⟨rfl,E6⟩
 have HE6 := Lib.hid (HE5.out.trans E6)
 have HB16 := Lib.hid (HB15.out.ext E6)
 have HB26 := Lib.hid (HB25.out.ext E6)
 have b1 := HB16.out.cell
 have b2 := HB26.out.cell
 clear E6 SI
 go_wp2_with fail
 clear b1 b2
 refine (HEp.out _ HE6.out).mono ?_
 rintro e W7 ⟨rfl,E7⟩
 have HE7 := Lib.hid (HE6.out.trans E7)
 have HB17 := Lib.hid (HB16.out.ext E7)
 have HB27 := Lib.hid (HB26.out.ext E7)
 have b1 := HB17.out.cell
 have b2 := HB27.out.cell
 clear E7
 go_wp2_with fail
 clear b1 b2
 refine (HEq.out _ HE7.out).mono ?_
 rintro e W8 ⟨rfl,E8⟩
 have HE8 := Lib.hid (HE7.out.trans E8)
 have HB18 := Lib.hid (HB17.out.ext E8)
 have HB28 := Lib.hid (HB27.out.ext E8)
 have hq2 : (ev != ev) = false := by simp
 have hq3 : (ee != ee) = false := by simp
 clear E8
 obtain ⟨U,hU⟩ : ∃ U,W8.heap.size = U := ⟨_,rfl⟩
 have own0 := own_emptyF W8 (U := U) (Nat.le_of_eq hU.symm) 140 3
 obtain ⟨W9,hW9,E9, -, -⟩ := mk_ W8 #[] 140
 rw [hW9] at own0
 have hU9 : U ≤ W9.heap.size := by rw [← hU]; exact E9.size
 have HU := Lib.hid hU
 have hsrc := HLl.out.ext (HE8.out.trans E9)
 have HE9 := Lib.hid (HE8.out.trans E9)
 have HB19 := Lib.hid (HB18.out.ext E9)
 have HB29 := Lib.hid (HB28.out.ext E9)
 have HX9 := Lib.hid E9
 clear E9 hU
 go_wp2_with (at_builtin; refine wpList_append_anyF rfl (.tmp 79) (.tmp 80) 76 rfl U 140 i9 _ 3 24 Tryz.underlying76 hi9 hz9 hz91 hz92 rfl (by decide) _ 0 [] rfl own0 LA loads.length lc (loads.map Ld.cs) rfl hsrc hnil (lds_one loads) (by unfold maxLen; omega) (by omega) hU9 fun v' W10 own' hg' => ?_; rw [Nat.zero_add,List.nil_append] at own'; obtain ⟨OA,oc,rfl⟩ := own_slice_form own'; have E10 := HX9.out.grown hg' (fun k hk => by have := (own0.lt k hk).1; have := HU.out; omega); have HOwn := Lib.hid (lds_own own'); clear own' hg' own0 hW9 hsrc hU9)
 have HE10 := Lib.hid (HE8.out.trans E10)
 have HB10 := Lib.hid (HB18.out.ext E10)
 have HB20 := Lib.hid (HB28.out.ext E10)
 have b1 := HB10.out.cell
 have b2 := HB20.out.cell
 have HE0 := Lib.hid (Ext.refl W10)
 have hq4 : (le == le) = true := by simp
 clear E10
 go_upto_region 12 with (fail)
 refine wp_region_grow (by kernel_rfl) (by kernel_rfl) ?_
 repeat (go_big_quiet_step ((first | (go_at_call 35; exact quiet_ext (HLp.out _ _ _ (HE10.out.grow _) (HOwn.out.ext (HE0.out.grow _)) hlen)) | (go_at_call 36; exact quiet_ext (HLq.out _ (HE10.out.grow _) hlen)) | (go_at_call 37; exact quiet_ext (HSL.out _ _ _ (HE10.out.grow _) (HOwn.out.ext (HE0.out.grow _)))))))
 refine wpQuiet_nil ?_
 intro W11 hW11
 have E11 : Ext W10 W11 := by
  obtain ⟨x,rfl⟩ := hW11
  exact (Ext.refl _).grow x
 clear hW11
 obtain ⟨hcW11,hfW11,hzW11⟩ := ext_facts E11
 clear hcW11 hfW11 hzW11 b1 b2 hq4
 have HE11 := Lib.hid (HE10.out.trans E11)
 clear E11
 go_wp2_with fail
 refine bodyPost_ret (v := .bool true) (by simp [results,Tryz.results5,go_sem]) rfl ⟨rfl,HE11.out⟩
open Go.ChangeAt Go.ChangeShapes Go.Deep Go.Joins Go.WideShapes

set_option maxRecDepth 100000 in
theorem standFalls_lifted (os : Os) (started : os.Started) (H : Type) (enc : TypeId × Value → H) :
  ReturnsInHanded {} Tryz.checked os 5 .any (Rows.standFallsSpec.pre6 enc Tryz.prog Tryz.f5 Rows.standFallsRow.domain false) (Rows.standFallsSpec.post enc Tryz.prog Tryz.f5 false true false false) := by
 refine returnsInHanded_of_change (C := Tryz.checked) Tryz.own started (by kernel_rfl) Tryz.func5
  (ChangeSpec.witness6 (enc := enc) (C := Tryz.checked) false ⟨#[],#[.slice none 0 0,.agg #[.slice none 0 0],.agg #[.int .i64 0,.slice none 0 0],.slice none 0 0,.slice none 0 0], []⟩ 8 (by kernel_rfl) (by kernel_rfl) (by kernel_rfl) (by kernel_rfl)) ?_
 intro W base args ds gs before hval0 hW hcnd _
 have hval : ∀ (j : Nat) t v,Tryz.f5.params[j]? = some t → args[j]? = some v → Value.okWide Tryz.prog W .any base t v := hval0
 have hW' := hW
 obtain ⟨p,q,hA0,hV,rfl,hfz,hnd⟩ := hW
 have hA : DataW.TrodAll enc Tryz.prog W 0 (fun _ => true) true Tryz.f5.params.toList args.toList ds p := hA0
 rw [Tryz.params5] at hA hval
 have hAll := hA
 obtain ⟨v0,v1,v2,v3,v4,d0,d1,d2,d3,d4,p0,p1,p2,p3,p4,rfl,rfl,rfl,h0,h1,h2,h3,h4⟩ := trodAll_five hA
 obtain ⟨rfl,rfl⟩ := trodVars_none hV
 obtain ⟨C,n1,cc,rfl⟩ := okWide_slice Tryz.underlying22 (hval 0 22 v0 rfl rfl)
 obtain ⟨fu0,hf0⟩ := h0
 obtain ⟨qs,rfl,hk, -⟩ := kinds_of_trod (by simpa [Value.cells] using hf0)
 obtain ⟨D,cd,bs,rfl,hb, -⟩ := model_open (hval 1 25 v1 rfl rfl) h1
 obtain ⟨tab,HA,hc,hands,rfl,hh⟩ := rest_open (hval 2 75 v2 rfl rfl) h2
 obtain ⟨IA3,ic3,il3,rfl,hi3⟩ := ints_open (hval 3 39 v3 rfl rfl) h3
 obtain ⟨LA4,lc4,ld4,rfl,hl4,hnl4⟩ := loads_open (hval 4 76 v4 rfl rfl) h4
 clear hA0 hval0
 simp only [List.append_nil] at hW' hAll
 have hlt : ∀ q ∈ p0 ++ p1 ++ p2 ++ p3 ++ p4,q.block < W.heap.size := fun q hq => hW'.lt q hq
 refine (falls_walk qs C cc bs D cd tab HA hc hands IA3 ic3 il3 LA4 lc4 ld4 W hk hb hh hi3 hl4 hnl4).mono fun e W' ⟨he,hE⟩ => ?_
 subst he
 refine ⟨_,rfl,?_⟩
 refine ⟨_,_,_, [],p0 ++ p1 ++ p2 ++ p3 ++ p4, [],hW',?_,?_,rfl,hE.frame _,fun h => by cases h⟩
 ·exact trodAll_mk1 (shut_bool Tryz.underlying4 true)
 ·exact trodAll_ext (ts := [22,25,75,39,76]) Tryz.laidOut hE (by
   intro t ht
   simp only [List.mem_cons,List.not_mem_nil,or_false] at ht
   rcases ht with rfl | rfl | rfl | rfl | rfl <;> exact ⟨by kernel_rfl,of_decide_eq_true (by kernel_rfl)⟩) hAll hlt

theorem standFalls_holds : Rows.StandFallsSaid :=
 OpenClaim.holds_of_wide 5 Tryz.f5 rfl rfl rfl rfl rfl rfl rfl ⟨rfl,rfl,rfl,rfl,rfl⟩ rfl rfl rfl rfl rfl (by kernel_rfl) Tryz.func5 standFalls_facts
  (of_decide_eq_true (by kernel_rfl)) (by unfold Func.isWrapper; rw [if_neg (of_decide_eq_false (by kernel_rfl))]; exact ⟨rfl,rfl⟩)
  (fun os started H enc _ => standFalls_lifted os started H enc)
#print axioms standFalls_holds
end Go.Proofs.YtjacbhomhjoolaaGreat
