
/- rests, Put and Capacity of the reference. -/
import Derived.Test.YtjacbhomhjoolaaGreatBRGrd
namespace Go.Proofs.YtjacbhomhjoolaaGreat
open Go.RowKit

set_option maxRecDepth 100000 in
set_option maxHeartbeats 16000000 in
theorem rests_c (qs : List (Knd × KAt)) (QA : Option Addr) (qc : Nat) (bs : List Brk) (B : Option Addr) (cb : Nat) (w : World) (hk : Kinds w QA qc qs) (hb : Bricks w B cb bs) (hcm : checkErr (qs.map (·.1)) bs = 0) (i k : Nat) (hi : i < bs.length) (hkl : k < bs.length) :
  Calls Tryz.prog 120 #[.slice QA qs.length qc,.agg #[.slice B bs.length cb],.int .i64 i,.int .i64 k] w fun e w' => e = .returned (.bool (restsOn (qs.map (·.1)) bs i k)) ∧ Ext w w' := by
 obtain ⟨g,off,rfl⟩ := bricks_addr hb (by omega)
 obtain ⟨W1,hW1,E1,B1,hz1⟩ := mk_ w #[.slice (some ⟨g,off,none⟩) bs.length cb] 25
 have hf := fit_of hk hb.2 hcm
 have hnb := hf.n
 have HOK := Lib.hid (fun (c : Pt) (hc : c ∈ bcells (qs.map (·.1)) (brkAt bs i)) => cell_ok hf hi hc)
 obtain ⟨⟨kdi,⟨xi,yi,zi⟩,tni,cli⟩,hbk⟩ : ∃ b,brkAt bs i = b := ⟨_,rfl⟩
 have HDi := Lib.hid (fun (W : World) (E : Ext w W) => bricks_cell (hb.ext E) hi (rfl : some (⟨g,off,none⟩ : Addr) = some ⟨g,off,none⟩))
 have HPi := Lib.hid (rPlacedAt_c hk hb.2 (check_model hcm) hi)
 rw [hbk] at HDi
 have Hcli := clen_pos hk hb.2 (check_model hcm) hi
 obtain ⟨ni,hn⟩ : ∃ n,clen (qs.map (·.1)) bs i = n := ⟨_,rfl⟩
 have HLi := Lib.hid (show (bcells (qs.map (·.1)) (brkAt bs i)).length = clen (qs.map (·.1)) bs i from rfl)
 obtain ⟨Li,hLi⟩ : ∃ l,bcells (qs.map (·.1)) (brkAt bs i) = l := ⟨_,rfl⟩
 rw [hn,hLi] at HPi HLi
 rw [hn] at Hcli
 rw [hbk] at HPi
 unfold brkV at HPi
 clear hn hbk
 obtain ⟨⟨kdk,⟨xk,yk,zk⟩,tnk,clk⟩,hbk⟩ : ∃ b,brkAt bs k = b := ⟨_,rfl⟩
 have HDk := Lib.hid (fun (W : World) (E : Ext w W) => bricks_cell (hb.ext E) hkl (rfl : some (⟨g,off,none⟩ : Addr) = some ⟨g,off,none⟩))
 have HPk := Lib.hid (rPlacedAt_c hk hb.2 (check_model hcm) hkl)
 rw [hbk] at HDk
 have Hclk := clen_pos hk hb.2 (check_model hcm) hkl
 obtain ⟨nk,hn⟩ : ∃ n,clen (qs.map (·.1)) bs k = n := ⟨_,rfl⟩
 have HLk := Lib.hid (show (bcells (qs.map (·.1)) (brkAt bs k)).length = clen (qs.map (·.1)) bs k from rfl)
 obtain ⟨Lk,hLk⟩ : ∃ l,bcells (qs.map (·.1)) (brkAt bs k) = l := ⟨_,rfl⟩
 rw [hn,hLk] at HPk HLk
 rw [hn] at Hclk
 rw [hbk] at HPk
 unfold brkV at HPk
 clear hn hbk
 rw [hLi] at HOK
 have Hval := Lib.hid (show restsOn (qs.map (·.1)) bs i k = Li.any fun c => hasP Lk (addP c ⟨0,0, -1⟩) by unfold restsOn; rw [hLi,hLk])
 have b1 := B1.cell
 have HB := Lib.hid B1
 obtain ⟨d0,d1,d2,d3,d4,d5⟩ := HDi.out W1 E1
 have i0 : (0 : Int) ≤ i := by omega
 have i1 : (i : Int) < bs.length := by omega
 have k0 : (0 : Int) ≤ k := by omega
 have k1 : (k : Int) < bs.length := by omega
 clear hz1 B1 hk hb hcm hf hLi hLk
 go_enter Tryz.func120,Tryz.ntmps120
 go_wp2_with fail
 clear d0 d1 d2 d3 d4 d5 hW1 b1
 refine (HPi.out _ E1).mono ?_
 rintro e W2 ⟨g1,cp1,hg1,rfl,p1,p2,X1,E2⟩
 have b1 := (HB.out.ext E2).cell
 obtain ⟨d0,d1,d2,d3,d4,d5⟩ := HDk.out W2 (E1.trans E2)
 go_wp2_with fail
 clear d0 d1 d2 d3 d4 d5 b1
 refine (HPk.out _ (E1.trans E2)).mono ?_
 rintro e W3 ⟨g2,cp2,hg2,rfl,q1,q2,X2,E3⟩
 have HX1 := Lib.hid (X1.ext E3)
 have HS2 := Lib.hid (RowX.slice X2 (pts_wide' Lk) (by rw [List.length_map,HLk.out]) q1 q2)
 have HE := Lib.hid ((E1.trans E2).trans E3)
 obtain ⟨hn0,hn24⟩ := Hcli
 clear X1 X2 E1 E2 E3 hg1 hg2 Hclk q1 q2
 go_wp2_with fail
 go_loopw [11] (fun ii wr => ∃ q : Nat,q ≤ ni ∧ ii = .int .i64 q ∧ Ext W3 wr ∧ Hid (∀ t,t < q → ∀ c,Li[t]? = some c → hasP Lk (addP c ⟨0,0, -1⟩) = false)) (fun ii _ => ni - (intOf ii).toNat)
 case atStart => exact ⟨0,by omega,rfl,Ext.refl _,Lib.hid (fun t ht => by omega)⟩
 case round =>
  obtain ⟨q,hq,rfl,Er,Hno⟩ := hrel
  by_cases hqt : q < ni
  ·obtain ⟨⟨x,y,z⟩,hc⟩ : ∃ c,Li[q]? = some c := ⟨_,List.getElem?_eq_getElem (by rw [HLi.out]; exact hqt)⟩
   have hr : (Li.map Pt.cs)[q]? = some (Pt.cs ⟨x,y,z⟩) := by rw [List.getElem?_map,hc]; rfl
   have RX := HX1.out.ext Er
   have c0 := RX.cell (pts_wide' Li) hr (j := 0) rfl
   have c1 := RX.cell (pts_wide' Li) hr (j := 1) rfl
   have c2 := RX.cell (pts_wide' Li) hr (j := 2) rfl
   simp only [Nat.add_zero] at c0
   have PL := rPlus_c x y z 0 0 (-1) wr (HOK.out _ (List.mem_of_getElem? hc)) ⟨by unfold CB; decide,by unfold CB; decide,by unfold CB; decide⟩
   obtain ⟨z1,hz1⟩ : ∃ v,z + -1 = v := ⟨_,rfl⟩
   rw [hz1,Int.add_zero,Int.add_zero] at PL
   have Hc := Lib.hid hc
   have Hadd := Lib.hid (show addP ⟨x,y,z⟩ ⟨0,0, -1⟩ = ⟨x,y,z1⟩ by rw [addP_dn,hz1])
   have q0 : (0 : Int) ≤ q := by omega
   have q1 : (q : Int) < ni := by omega
   have q2 : (q : Int) < cp1 := by omega
   clear hr hc RX hz1
   go_wp2_with fail
   clear c0 c1 c2
   refine PL.mono ?_
   rintro e W5 ⟨rfl,E5⟩
   have hsl : Cells W5 (some ⟨g2,0,none⟩) cp2 Lk := by
    unfold Cells
    rw [HLk.out]
    exact HS2.out.ext (Er.trans E5)
   have HA := rHas_c (some ⟨g2,0,none⟩) cp2 Lk x y z1 W5 hsl
   rw [HLk.out] at HA
   obtain ⟨r,hr⟩ : ∃ r,hasP Lk ⟨x,y,z1⟩ = r := ⟨_,rfl⟩
   rw [hr] at HA
   have Hr := Lib.hid hr
   clear hr hsl
   go_wp2_with fail
   refine HA.mono ?_
   rintro e W6 ⟨rfl,E6⟩
   have EE := (Er.trans E5).trans E6
   clear E5 E6 Er
   cases r
   ·have Hno2 := Lib.hid (show ∀ t,t < q + 1 → ∀ c,Li[t]? = some c → hasP Lk (addP c ⟨0,0, -1⟩) = false from fun t ht c htc => by
     rcases Nat.lt_or_ge t q with h | h
     ·exact Hno.out t h c htc
     ·obtain rfl : t = q := by omega
      rw [Hc.out] at htc
      cases htc
      rw [Hadd.out,Hr.out])
    go_wp2_with fail
    go_roundw
    case rel => exact ⟨q + 1,by omega,by go_num,EE,Hno2⟩
    case measure => simp only [intOf]; omega
   ·have Hyes := Lib.hid (show restsOn (qs.map (·.1)) bs i k = true by
     rw [Hval.out,List.any_eq_true]
     exact ⟨_,List.mem_of_getElem? Hc.out,by rw [Hadd.out,Hr.out]⟩)
    go_wp2_with fail
    refine bodyPost_ret (v := .bool true) (by simp [results,Tryz.results120,go_sem]) rfl ⟨by rw [Hyes.out],HE.out.trans EE⟩
  ·obtain rfl : q = ni := by omega
   have Hnone := Lib.hid (show restsOn (qs.map (·.1)) bs i k = false by
    rw [Hval.out,Bool.eq_false_iff]
    intro h
    rw [List.any_eq_true] at h
    obtain ⟨c,hc,hh⟩ := h
    obtain ⟨t,ht,rfl⟩ := List.getElem_of_mem hc
    rw [Hno.out t (by rw [← HLi.out]; exact ht) _ (List.getElem?_eq_getElem ht)] at hh
    cases hh)
   have HR := Lib.hid (HE.out.trans Er)
   go_wp2_with fail
   refine bodyPost_ret (v := .bool false) (by simp [results,Tryz.results120,go_sem]) rfl ⟨by rw [Hnone.out],HR.out⟩
end Go.Proofs.YtjacbhomhjoolaaGreat
