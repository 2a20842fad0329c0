
/- CheckRest, OnGround and Grounded of the reference. -/
import Derived.Test.YtjacbhomhjoolaaGreatBRestS
import Derived.Test.YtjacbhomhjoolaaGreatBSame
import Derived.Test.YtjacbhomhjoolaaGreatBPairs
import Derived.Test.YtjacbhomhjoolaaGreatBRKnob
namespace Go.Proofs.YtjacbhomhjoolaaGreat
open Go.RowKit

theorem rPlacedAt_c {qs : List (Knd × KAt)} {bs : List Brk} {w : World} {QA : Option Addr} {qc : Nat} (hk : Kinds w QA qc qs) (hb : ∀ b ∈ bs,b.byte) (h0 : modelErr (qs.map (·.1)) bs = 0) {j : Nat} (hj : j < bs.length) (W : World) (E : Ext w W) :
  Calls Tryz.prog 89 #[.slice QA qs.length qc,brkV (brkAt bs j)] W (RCellsPost (bcells (qs.map (·.1)) (brkAt bs j)) (clen (qs.map (·.1)) bs j) W) := by
 obtain ⟨i,t,x,y,z,c,k,p,e,ht,hi,hkf,hp,hby,has,hc, -⟩ := brk_parts hk hb h0 hj
 have h := rPlaced_c qs QA qc i k.cells k.knobs k.weight p.A p.ca p.B p.cb hi t x y z c W (hk.ext E) hkf.pos (Nat.le_trans hkf.len (by omega)) hkf.cok ht (hp.ok (by omega))
 have hl : k.cells.length = clen (qs.map (·.1)) bs j := by unfold clen; rw [hc,sortP_len,placeP_len]
 rw [hl,← hc] at h
 rw [e] at h ⊢
 exact h
def LowV (w : World) (v : Value) (o : Nat) (l : List Pt) : Prop := v = .pointer (some ⟨bk v,o,none⟩) ∧ RowX w (bk v) 27 (l.map Pt.cs)
theorem LowV.ext {w w' : World} {v : Value} {o : Nat} {l : List Pt} (h : LowV w v o l) (E : Ext w w') : LowV w' v o l := ⟨h.1,h.2.ext E⟩
theorem row_low {w : World} {g : Nat} {l : List Pt} (h : RowX w g 27 (l.map Pt.cs)) (h0 : 0 < l.length) : w.cell? ⟨g,2,none⟩ = some (.int .i64 (ptAt l 0).z) := by
 have hg : l[0]? = some (l[0]'h0) := List.getElem?_eq_getElem _
 have hr : (l.map Pt.cs)[0]? = some (Pt.cs (ptAt l 0)) := by rw [List.getElem?_map,hg,ptAt_eq hg]; rfl
 have := RowX.cell h (pts_wide' l) hr (j := 2) rfl
 rwa [Nat.zero_mul,Nat.zero_add] at this
structure Cr9 (W0 : World) (vQ vb : Value) (T1 T2 : Nat) (B : Option Addr) (nb cb j : Nat) (p : Addr) (n : Nat) (L1 : List Pt) (lz tab : Int) (L : Nat → Bool) (us : Nat → Value) (w : World) : Prop where
 x : Ext W0 w
 f0 : L 0 = true → us 0 = vQ
 f1 : L 1 = true → us 1 = .pointer (some ⟨T1,0,none⟩)
 f2 : L 2 = true → us 2 = .slice B nb cb
 f3 : L 3 = true → us 3 = .int .i64 j
 f4 : L 4 = true → us 4 = .pointer (some p)
 f5 : L 5 = true → us 5 = vb
 f6 : L 6 = true → RowV w (us 6) n L1
 f7 : L 7 = true → LowV w (us 7) 0 L1
 f8 : L 8 = true → LowV w (us 8) 2 L1
 f9 : L 9 = true → us 9 = .int .i64 lz
 f10 : L 10 = true → us 10 = .pointer (some ⟨T2,0,none⟩)
 f11 : L 11 = true → us 11 = .int .i64 tab
 f12 : L 12 = true → us 12 = .bool (decide (lz < tab))
structure OgT (W0 : World) (vQ vb : Value) (T1 T2 : Nat) (B : Option Addr) (nb cb j : Nat) (p : Addr) (n : Nat) (L1 : List Pt) (lz tab : Int) (L : Nat → Bool) (us : Nat → Value) (w : World) : Prop where
 x : Ext W0 w
 f0 : L 0 = true → us 0 = vQ
 f1 : L 1 = true → us 1 = .pointer (some ⟨T1,0,none⟩)
 f2 : L 2 = true → us 2 = .slice B nb cb
 f3 : L 3 = true → us 3 = .int .i64 j
 f4 : L 4 = true → us 4 = .pointer (some p)
 f5 : L 5 = true → us 5 = vb
 f6 : L 6 = true → RowV w (us 6) n L1
 f7 : L 7 = true → LowV w (us 7) 0 L1
 f8 : L 8 = true → LowV w (us 8) 2 L1
 f9 : L 9 = true → us 9 = .int .i64 lz
 f10 : L 10 = true → us 10 = .pointer (some ⟨T2,0,none⟩)
 f11 : L 11 = true → us 11 = .int .i64 tab
 f12 : L 12 = true → us 12 = .bool true
 f13 : L 13 = true → us 13 = .bool true
 f14 : L 14 = true → us 14 = us 14
 f15 : L 15 = true → us 15 = us 15
 f16 : L 16 = true → us 16 = us 16
 f17 : L 17 = true → us 17 = us 17
 f18 : L 18 = true → us 18 = .bool true
 f19 : L 19 = true → us 19 = .bool true
structure OgF (W0 : World) (vQ vb : Value) (T1 T2 : Nat) (B : Option Addr) (nb cb j : Nat) (p : Addr) (n : Nat) (L1 : List Pt) (lz tab : Int) (HA : Option Addr) (hn hc : Nat) (r : Bool) (L : Nat → Bool) (us : Nat → Value) (w : World) : Prop where
 x : Ext W0 w
 f0 : L 0 = true → us 0 = vQ
 f1 : L 1 = true → us 1 = .pointer (some ⟨T1,0,none⟩)
 f2 : L 2 = true → us 2 = .slice B nb cb
 f3 : L 3 = true → us 3 = .int .i64 j
 f4 : L 4 = true → us 4 = .pointer (some p)
 f5 : L 5 = true → us 5 = vb
 f6 : L 6 = true → RowV w (us 6) n L1
 f7 : L 7 = true → LowV w (us 7) 0 L1
 f8 : L 8 = true → LowV w (us 8) 2 L1
 f9 : L 9 = true → us 9 = .int .i64 lz
 f10 : L 10 = true → us 10 = .pointer (some ⟨T2,0,none⟩)
 f11 : L 11 = true → us 11 = .int .i64 tab
 f12 : L 12 = true → us 12 = .bool false
 f13 : L 13 = true → us 13 = .bool false
 f14 : L 14 = true → us 14 = .pointer (some ⟨T2,1,none⟩)
 f15 : L 15 = true → us 15 = .slice HA hn hc
 f16 : L 16 = true → us 16 = .int .i64 j
 f17 : L 17 = true → us 17 = .bool r
 f18 : L 18 = true → us 18 = .bool r
 f19 : L 19 = true → us 19 = .bool r
set_option maxRecDepth 100000 in
set_option maxHeartbeats 16000000 in
theorem rCheckRest_c (qs : List (Knd × KAt)) (QA : Option Addr) (qc : Nat) (bs : List Brk) (B : Option Addr) (cb : Nat) (tab : Int) (HA : Option Addr) (hc : Nat) (hands : List Int) (w : World) (hk : Kinds w QA qc qs) (hb : Bricks w B cb bs) (hh : IntsZ w HA hc hands) :
  Calls Tryz.prog 61 #[.slice QA qs.length qc,.agg #[.slice B bs.length cb],.agg #[.int .i64 tab,.slice HA hands.length hc]] w fun e w' => e = .returned (.int .i64 (restErr (qs.map (·.1)) bs tab hands)) ∧ Ext w w' := by
 obtain ⟨W1,hW1,E1,B1,hz1⟩ := mk_ w #[.slice B bs.length cb] 25
 obtain ⟨W2,hW2,E2,B2,hz2⟩ := mk_ W1 #[.int .i64 tab,.slice HA hands.length hc] 75
 have E := E1.trans E2
 have CK := rCheck_c qs QA qc bs B cb W2 (hk.ext E) (hb.ext E)
 obtain ⟨T1,hT1⟩ : ∃ T,w.heap.size = T := ⟨_,rfl⟩
 obtain ⟨T2,hT2⟩ : ∃ T,W1.heap.size = T := ⟨_,rfl⟩
 have HT1 := Lib.hid hT1
 have HT2 := Lib.hid hT2
 have B1' := B1.ext E2
 have b1 := B1'.cell
 rw [hT1] at B1'
 rw [hT2] at B2
 have HE0 := Lib.hid E
 have HB10 := Lib.hid B1'
 have HB20 := Lib.hid B2
 clear hz1 hz2 B1 B1' B2 E1 E2 E hT1 hT2
 by_cases h0 : checkErr (qs.map (·.1)) bs = 0
 rotate_left
 ·obtain ⟨r,hr⟩ : ∃ r,checkErr (qs.map (·.1)) bs = r := ⟨_,rfl⟩
  have hR : restErr (qs.map (·.1)) bs tab hands = r := by rw [restErr_check hr (hr ▸ h0)]
  rw [hr] at CK h0
  rw [hR]
  have h1 : (r != 0) = true := by simpa using h0
  clear hR hr h0
  go_enter Tryz.func61,Tryz.ntmps61
  go_wp2_with fail
  refine CK.mono ?_
  rintro e W3 ⟨rfl,E3⟩
  go_wp2_with fail
  go_wp2_with fail
  go_ret
  exact ⟨rfl,HE0.out.trans E3⟩
 have Hcm := Lib.hid h0
 have hnb := (fit_of hk hb.2 h0).n
 have Hcl := Lib.hid (fun (j : Nat) (hj : j < bs.length) => clen_pos hk hb.2 (check_model h0) hj)
 have HPl := Lib.hid (fun (j : Nat) (hj : j < bs.length) => rPlacedAt_c hk hb.2 (check_model h0) hj)
 have HBr := Lib.hid hb
 have CH := Lib.hid (fun (W : World) (E' : Ext w W) => rChosen_c HA hc hands (bs.length : Int) W (hh.ext E') (by omega) (by omega))
 have W3c := Lib.hid (fun (W : World) => within3_c tab (-2000) 2000 W)
 rw [h0] at CK
 obtain ⟨tb,htb⟩ : ∃ b,tabOk tab = b := ⟨_,rfl⟩
 have Htb := Lib.hid htb
 have htb' : inB (-2000) 2000 tab = tb := htb
 rw [htb'] at W3c
 obtain ⟨ch,hch⟩ : ∃ b,chosenB hands bs.length = b := ⟨_,rfl⟩
 have Hch := Lib.hid hch
 rw [hch] at CH
 clear hk hb hh h0 htb htb' hch
 go_enter Tryz.func61,Tryz.ntmps61
 go_wp2_with fail
 refine CK.mono ?_
 rintro e W3 ⟨rfl,E3⟩
 rw [HT1.out,HT2.out]
 have b0 := b1
 clear b1
 have b1 := (HB10.out.ext E3).cell
 have b2 := (HB20.out.ext E3).cell
 have HE3 := Lib.hid (HE0.out.trans E3)
 have HB13 := Lib.hid (HB10.out.ext E3)
 have HB23 := Lib.hid (HB20.out.ext E3)
 clear CK hW1 hW2 E3 b0
 go_wp2_with fail
 refine (W3c.out _).mono ?_
 rintro e W4 ⟨rfl,E4⟩
 have HE4 := Lib.hid (HE3.out.trans E4)
 have HB14 := Lib.hid (HB13.out.ext E4)
 have HB24 := Lib.hid (HB23.out.ext E4)
 have b1 := HB14.out.cell
 have b2 := HB24.out.cell
 clear E4
 cases tb
 ·have Hbad := Lib.hid (show (tabOk tab && chosenB hands bs.length) = false by rw [Htb.out,Bool.false_and])
  go_wp2_with fail
  refine bodyPost_ret (v := .int .i64 30) (by simp [results,Tryz.results61,go_sem]) rfl ⟨by rw [restErr_arg Hcm.out Hbad.out],HE4.out⟩
 go_wp2_with fail
 refine (CH.out _ HE4.out).mono ?_
 rintro e W5 ⟨rfl,E5⟩
 have HE5 := Lib.hid (HE4.out.trans E5)
 have HB15 := Lib.hid (HB14.out.ext E5)
 have HB25 := Lib.hid (HB24.out.ext E5)
 clear E5 b1 b2
 cases ch
 ·have Hbad := Lib.hid (show (tabOk tab && chosenB hands bs.length) = false by rw [Hch.out,Bool.and_false])
  go_wp2_with fail
  refine bodyPost_ret (v := .int .i64 30) (by simp [results,Tryz.results61,go_sem]) rfl ⟨by rw [restErr_arg Hcm.out Hbad.out],HE5.out⟩
 have Hgood := Lib.hid (show (tabOk tab && chosenB hands bs.length) = true by rw [Htb.out,Hch.out]; rfl)
 go_wp2_with fail
 go_loopw [8] (fun ii wr => ∃ j : Nat,j ≤ bs.length ∧ ii = .int .i64 j ∧ Ext W5 wr ∧ Hid (∀ i,i < j → tab ≤ lowZ (qs.map (·.1)) bs i)) (fun ii _ => bs.length - (intOf ii).toNat)
 case atStart => exact ⟨0,by omega,rfl,Ext.refl _,Lib.hid (fun i hi => by omega)⟩
 case round =>
  obtain ⟨j,hj,rfl,Er,Hlow⟩ := hrel
  have b1 := (HB15.out.ext Er).cell
  by_cases hlt : j < bs.length
  ·obtain ⟨g,off,rfl⟩ := bricks_addr HBr.out (by omega)
   have HE := Lib.hid (HE5.out.trans Er)
   have HB1 := Lib.hid (HB15.out.ext Er)
   have HB2 := Lib.hid (HB25.out.ext Er)
   obtain ⟨⟨kd,⟨x,y,z⟩,tn,cl⟩,hbk⟩ : ∃ b,brkAt bs j = b := ⟨_,rfl⟩
   have HD := Lib.hid (fun (W : World) (E : Ext wr W) => bricks_cell (HBr.out.ext (HE.out.trans E)) hlt rfl)
   rw [hbk] at HD
   have HP := Lib.hid (HPl.out j hlt)
   obtain ⟨hn0,hn24⟩ := Hcl.out j hlt
   have Hlz := Lib.hid (show (ptAt (bcells (qs.map (·.1)) (brkAt bs j)) 0).z = lowZ (qs.map (·.1)) bs j from rfl)
   have HL := Lib.hid (show (bcells (qs.map (·.1)) (brkAt bs j)).length = clen (qs.map (·.1)) bs j from rfl)
   obtain ⟨lz,hlz⟩ : ∃ z,lowZ (qs.map (·.1)) bs j = z := ⟨_,rfl⟩
   rw [hlz] at Hlz
   have Hlz2 := Lib.hid hlz
   obtain ⟨n,hn⟩ : ∃ n,clen (qs.map (·.1)) bs j = n := ⟨_,rfl⟩
   rw [hn] at HL HP hn0
   obtain ⟨L1,hL1⟩ : ∃ l,bcells (qs.map (·.1)) (brkAt bs j) = l := ⟨_,rfl⟩
   rw [hL1] at HL HP Hlz
   rw [hbk] at HP
   unfold brkV at HP
   have Hn0 := Lib.hid hn0
   have n1 : (0 : Int) < n := by omega
   have j0 : (0 : Int) ≤ j := by omega
   have j1 : (j : Int) < bs.length := by omega
   clear hn hL1 hlz hn24 hbk
   go_upto_region 9 with (fail)
   clear b1
   refine wp_region_by (Cr9 wr (.slice QA qs.length qc) (.agg #[.int .i64 kd,.int .i64 x,.int .i64 y,.int .i64 z,.int .u8 tn,.int .u8 cl]) T1 T2 (some ⟨g,off,none⟩) bs.length cb j ⟨g,off + j * 6,none⟩ n L1 lz tab) (by kernel_rfl) (by kernel_rfl) (by kernel_rfl) (fun us => ⟨(Ext.refl _).drew,(nofun),(nofun),(nofun),(nofun),(nofun),(nofun),(nofun),(nofun),(nofun),(nofun),(nofun),(nofun),(nofun)⟩) ⟨?_,?_,?_,?_,?_,?_,?_,?_,?_,?_,?_,?_,?_,trivial⟩ ?_
   ·intro L us wx K a ha hp hd hun hI hK
    have HX := hI.x
    clear hp HX
    replace hd := Lib.hid hd
    simp only [putAll,Act.put,zs,Nat.reduceAdd] at ha
    subst ha
    simp only [Act.put,zs] at hK
    go_simp
    refine hK _ _ ?_
    refine {hI with f0 := ?_} <;> (first | exact fun _ => rfl | skip)
   ·intro L us wx K a ha hp hd hun hI hK
    have HX := hI.x
    clear hp HX
    replace hd := Lib.hid hd
    simp only [putAll,Act.put,zs,Nat.reduceAdd] at ha
    subst ha
    simp only [Act.put,zs] at hK
    go_simp
    refine hK _ _ ?_
    refine {hI with f1 := ?_} <;> (first | exact fun _ => rfl | skip)
   ·intro L us wx K a ha hp hd hun hI hK
    have HX := hI.x
    have u1 := hI.f1 (hp 1 (by kernel_rfl))
    have bb := (HB1.out.ext HX).cell
    clear hp HX
    replace hd := Lib.hid hd
    simp only [putAll,Act.put,zs,Nat.reduceAdd,u1] at ha
    subst ha
    simp only [Act.put,zs] at hK
    go_simp
    refine hK _ _ ?_
    refine {hI with f2 := ?_} <;> (first | exact fun _ => rfl | skip)
   ·intro L us wx K a ha hp hd hun hI hK
    have HX := hI.x
    clear hp HX
    replace hd := Lib.hid hd
    simp only [putAll,Act.put,zs,Nat.reduceAdd] at ha
    subst ha
    simp only [Act.put,zs] at hK
    go_simp
    refine hK _ _ ?_
    refine {hI with f3 := ?_} <;> (first | exact fun _ => rfl | skip)
   ·intro L us wx K a ha hp hd hun hI hK
    have HX := hI.x
    have u2 := hI.f2 (hp 2 (by kernel_rfl))
    have u3 := hI.f3 (hp 3 (by kernel_rfl))
    clear hp HX
    replace hd := Lib.hid hd
    simp only [putAll,Act.put,zs,Nat.reduceAdd,u2,u3] at ha
    subst ha
    simp only [Act.put,zs] at hK
    go_simp
    refine hK _ _ ?_
    refine {hI with f4 := ?_} <;> (first | exact fun _ => rfl | skip)
   ·intro L us wx K a ha hp hd hun hI hK
    have HX := hI.x
    have u4 := hI.f4 (hp 4 (by kernel_rfl))
    obtain ⟨d0,d1,d2,d3,d4,d5⟩ := HD.out wx HX
    clear hp HX
    replace hd := Lib.hid hd
    simp only [putAll,Act.put,zs,Nat.reduceAdd,u4] at ha
    subst ha
    simp only [Act.put,zs] at hK
    go_simp
    refine hK _ _ ?_
    refine {hI with f5 := ?_} <;> (first | exact fun _ => rfl | skip)
   ·intro L us wx K a ha hp hd hun hI hK
    have HX := hI.x
    have u0 := hI.f0 (hp 0 (by kernel_rfl))
    have u5 := hI.f5 (hp 5 (by kernel_rfl))
    have EX := Lib.hid (HE.out.trans HX)
    clear hp HX
    replace hd := Lib.hid hd
    simp only [putAll,Act.put,zs,Nat.reduceAdd,u0,u5] at ha
    subst ha
    simp only [Act.put,zs] at hK
    go_simp
    go_at_call 89
    refine (HP.out _ EX.out).mono ?_
    rintro e wn ⟨g,cp,hg,rfl,q1,q2,X,En⟩
    go_simp
    refine hK _ _ ?_
    refine ⟨hI.x.trans En,hI.f0,hI.f1,hI.f2,hI.f3,hI.f4,hI.f5,?_,?_,?_,hI.f9,hI.f10,hI.f11,hI.f12⟩ <;> (first | exact fun h => (hI.f6 h).ext En | exact fun h => own_ext (hI.f6 h) En | exact fun h => (hI.f7 h).ext En | exact fun h => own_ext (hI.f7 h) En | exact fun h => (hI.f8 h).ext En | exact fun h => own_ext (hI.f8 h) En | exact fun _ => rfl | skip)
    all_goals exact (by first|exact fun _ => ⟨cp,rfl,q1,q2,X⟩)
   ·intro L us wx K a ha hp hd hun hI hK
    have HX := hI.x
    obtain ⟨c1,ua,q1,q2,X⟩ := hI.f6 (hp 6 (by kernel_rfl))
    obtain ⟨g1,hg1⟩ : ∃ g,bk (us 6) = g := ⟨_,rfl⟩
    rw [hg1] at ua X
    have q3 : (0 : Int) < c1 := by omega
    clear hg1 q1 q2
    clear hp HX
    replace hd := Lib.hid hd
    simp only [putAll,Act.put,zs,Nat.reduceAdd,ua] at ha
    subst ha
    simp only [Act.put,zs] at hK
    go_simp
    refine hK _ _ ?_
    refine {hI with f7 := ?_} <;> (first | exact fun _ => rfl | skip)
    all_goals exact fun _ => ⟨rfl,X⟩
   ·intro L us wx K a ha hp hd hun hI hK
    have HX := hI.x
    obtain ⟨ua,X⟩ := hI.f7 (hp 7 (by kernel_rfl))
    obtain ⟨g1,hg1⟩ : ∃ g,bk (us 7) = g := ⟨_,rfl⟩
    rw [hg1] at ua X
    clear hg1
    clear hp HX
    replace hd := Lib.hid hd
    simp only [putAll,Act.put,zs,Nat.reduceAdd,ua] at ha
    subst ha
    simp only [Act.put,zs] at hK
    go_simp
    refine hK _ _ ?_
    refine {hI with f8 := ?_} <;> (first | exact fun _ => rfl | skip)
    all_goals exact fun _ => ⟨rfl,X⟩
   ·intro L us wx K a ha hp hd hun hI hK
    have HX := hI.x
    obtain ⟨ua,X⟩ := hI.f8 (hp 8 (by kernel_rfl))
    obtain ⟨g1,hg1⟩ : ∃ g,bk (us 8) = g := ⟨_,rfl⟩
    rw [hg1] at ua X
    clear hg1
    have cz := row_low X (by rw [HL.out]; exact Hn0.out)
    rw [Hlz.out] at cz
    clear hp HX
    replace hd := Lib.hid hd
    simp only [putAll,Act.put,zs,Nat.reduceAdd,ua] at ha
    subst ha
    simp only [Act.put,zs] at hK
    go_simp
    refine hK _ _ ?_
    refine {hI with f9 := ?_} <;> (first | exact fun _ => rfl | skip)
   ·intro L us wx K a ha hp hd hun hI hK
    have HX := hI.x
    clear hp HX
    replace hd := Lib.hid hd
    simp only [putAll,Act.put,zs,Nat.reduceAdd] at ha
    subst ha
    simp only [Act.put,zs] at hK
    go_simp
    refine hK _ _ ?_
    refine {hI with f10 := ?_} <;> (first | exact fun _ => rfl | skip)
   ·intro L us wx K a ha hp hd hun hI hK
    have HX := hI.x
    have u10 := hI.f10 (hp 10 (by kernel_rfl))
    have bb := (HB2.out.ext HX).cell
    clear hp HX
    replace hd := Lib.hid hd
    simp only [putAll,Act.put,zs,Nat.reduceAdd,u10] at ha
    subst ha
    simp only [Act.put,zs] at hK
    go_simp
    refine hK _ _ ?_
    refine {hI with f11 := ?_} <;> (first | exact fun _ => rfl | skip)
   ·intro L us wx K a ha hp hd hun hI hK
    have HX := hI.x
    have u9 := hI.f9 (hp 9 (by kernel_rfl))
    have u11 := hI.f11 (hp 11 (by kernel_rfl))
    clear hp HX
    replace hd := Lib.hid hd
    simp only [putAll,Act.put,zs,Nat.reduceAdd,u9,u11] at ha
    subst ha
    simp only [Act.put,zs] at hK
    go_simp
    refine hK _ _ ?_
    refine {hI with f12 := ?_} <;> (first | exact fun _ => rfl | skip)
   intro L us wx hall hI
   have u12 := hI.f12 (hall 12 (by simp))
   have EX := hI.x
   have E9 := Er.trans EX
   clear hall hI EX Er
   by_cases hl : tab ≤ lz
   ·have hd : decide (lz < tab) = false := by simpa using hl
    rw [hd] at u12
    have Hlow2 := Lib.hid (show ∀ i,i < j + 1 → tab ≤ lowZ (qs.map (·.1)) bs i from fun i hi => by
     rcases Nat.lt_or_ge i j with h | h
     ·exact Hlow.out i h
     ·obtain rfl : i = j := by omega
      rw [Hlz2.out]
      exact hl)
    simp only [putAll,Act.put,zs,Nat.reduceAdd,u12]
    clear u12 hl hd
    go_wp2_with fail
    go_roundw
    case rel => exact ⟨j + 1,by omega,by go_num,E9,Hlow2⟩
    case measure => simp only [intOf]; omega
   ·have hd : decide (lz < tab) = true := by simp; omega
    rw [hd] at u12
    have Hbad := Lib.hid (restErr_low Hcm.out Hgood.out hlt (by rw [Hlz2.out]; exact hl))
    simp only [putAll,Act.put,zs,Nat.reduceAdd,u12]
    clear u12 hl hd
    go_wp2_with fail
    refine bodyPost_ret (v := .int .i64 30) (by simp [results,Tryz.results61,go_sem]) rfl ⟨by rw [Hbad.out],HE5.out.trans E9⟩
  ·obtain rfl : j = bs.length := by omega
   have Hok := Lib.hid (restErr_ok Hcm.out Hgood.out Hlow.out)
   have HR := Lib.hid (HE5.out.trans Er)
   go_wp2_with fail
   refine bodyPost_ret (v := .int .i64 0) (by simp [results,Tryz.results61,go_sem]) rfl ⟨by rw [Hok.out],HR.out⟩
set_option maxRecDepth 100000 in
set_option maxHeartbeats 16000000 in
theorem onGround_c (qs : List (Knd × KAt)) (QA : Option Addr) (qc : Nat) (bs : List Brk) (B : Option Addr) (cb : Nat) (tab : Int) (HA : Option Addr) (hc : Nat) (hands : List Int) (wr : World) (hk : Kinds wr QA qc qs) (hb : Bricks wr B cb bs) (hh : IntsZ wr HA hc hands) (hcm : checkErr (qs.map (·.1)) bs = 0) (j : Nat) (hlt : j < bs.length) :
  Calls Tryz.prog 94 #[.slice QA qs.length qc,.agg #[.slice B bs.length cb],.agg #[.int .i64 tab,.slice HA hands.length hc],.int .i64 j] wr fun e w' => e = .returned (.bool (grdB (qs.map (·.1)) bs tab hands j)) ∧ Ext wr w' := by
 obtain ⟨W1,hW1,E1,B1,hz1⟩ := mk_ wr #[.slice B bs.length cb] 25
 obtain ⟨W2,hW2,E2,B2,hz2⟩ := mk_ W1 #[.int .i64 tab,.slice HA hands.length hc] 75
 have HE := Lib.hid (E1.trans E2)
 obtain ⟨T1,hT1⟩ : ∃ T,wr.heap.size = T := ⟨_,rfl⟩
 obtain ⟨T2,hT2⟩ : ∃ T,W1.heap.size = T := ⟨_,rfl⟩
 have HT1 := Lib.hid hT1
 have HT2 := Lib.hid hT2
 have B1' := B1.ext E2
 rw [hT1] at B1'
 rw [hT2] at B2
 have HB1 := Lib.hid B1'
 have HB2 := Lib.hid B2
 have hnb := (fit_of hk hb.2 hcm).n
 have Hcl := Lib.hid (fun (j : Nat) (hj : j < bs.length) => clen_pos hk hb.2 (check_model hcm) hj)
 have HPl := Lib.hid (fun (j : Nat) (hj : j < bs.length) => rPlacedAt_c hk hb.2 (check_model hcm) hj)
 have HIn := Lib.hid (fun (W : World) (E : Ext wr W) => rIn_c HA hc hands (j : Int) W (hh.ext E))
 obtain ⟨r,hr⟩ : ∃ b,hasZ hands j = b := ⟨_,rfl⟩
 have Hr := Lib.hid hr
 rw [hr] at HIn
 have HBr := Lib.hid hb
 have HE5 := Lib.hid (Ext.refl wr)
 have hcm' := hcm
 clear hz1 hz2 B1 B1' B2 E1 E2 hT1 hT2 hk hb hh hcm hcm' hr
 obtain ⟨g,off,rfl⟩ := bricks_addr HBr.out (by omega)
 obtain ⟨⟨kd,⟨x,y,z⟩,tn,cl⟩,hbk⟩ : ∃ b,brkAt bs j = b := ⟨_,rfl⟩
 have HD := Lib.hid (fun (W : World) (E : Ext W2 W) => bricks_cell (HBr.out.ext (HE.out.trans E)) hlt rfl)
 rw [hbk] at HD
 have HP := Lib.hid (HPl.out j hlt)
 obtain ⟨hn0,hn24⟩ := Hcl.out j hlt
 have Hlz := Lib.hid (show (ptAt (bcells (qs.map (·.1)) (brkAt bs j)) 0).z = lowZ (qs.map (·.1)) bs j from rfl)
 have HL := Lib.hid (show (bcells (qs.map (·.1)) (brkAt bs j)).length = clen (qs.map (·.1)) bs j from rfl)
 obtain ⟨lz,hlz⟩ : ∃ z,lowZ (qs.map (·.1)) bs j = z := ⟨_,rfl⟩
 rw [hlz] at Hlz
 have Hlz2 := Lib.hid hlz
 obtain ⟨n,hn⟩ : ∃ n,clen (qs.map (·.1)) bs j = n := ⟨_,rfl⟩
 rw [hn] at HL HP hn0
 obtain ⟨L1,hL1⟩ : ∃ l,bcells (qs.map (·.1)) (brkAt bs j) = l := ⟨_,rfl⟩
 rw [hL1] at HL HP Hlz
 rw [hbk] at HP
 unfold brkV at HP
 have Hn0 := Lib.hid hn0
 have n1 : (0 : Int) < n := by omega
 have j0 : (0 : Int) ≤ j := by omega
 have j1 : (j : Int) < bs.length := by omega
 clear hn hL1 hlz hn24 hbk
 go_enter Tryz.func94,Tryz.ntmps94
 go_upto_region 1 with (fail)
 rw [HT1.out,HT2.out]
 clear hW1 hW2
 by_cases hd : lz = tab
 ·subst hd
  have Hv := Lib.hid (show grdB (qs.map (·.1)) bs lz hands j = true by unfold grdB; rw [Hlz2.out]; simp)
  refine wp_region_by (OgT W2 (.slice QA qs.length qc) (.agg #[.int .i64 kd,.int .i64 x,.int .i64 y,.int .i64 z,.int .u8 tn,.int .u8 cl]) T1 T2 (some ⟨g,off,none⟩) bs.length cb j ⟨g,off + j * 6,none⟩ n L1 lz lz) (by kernel_rfl) (by kernel_rfl) (by kernel_rfl) (fun us => ⟨(Ext.refl _).drew,(nofun),(nofun),(nofun),(nofun),(nofun),(nofun),(nofun),(nofun),(nofun),(nofun),(nofun),(nofun),(nofun),(nofun),(nofun),(nofun),(nofun),(nofun),(nofun),(nofun)⟩) ⟨?_,?_,?_,?_,?_,?_,?_,?_,?_,?_,?_,?_,?_,?_,?_,?_,?_,?_,?_,?_,trivial⟩ ?_
  ·intro L us wx K a ha hp hd hun hI hK
   have HX := hI.x
   clear hp HX
   replace hd := Lib.hid hd
   simp only [putAll,Act.put,zs,Nat.reduceAdd] at ha
   subst ha
   simp only [Act.put,zs] at hK
   go_simp
   refine hK _ _ ?_
   refine {hI with f0 := ?_} <;> (first | exact fun _ => rfl | skip)
  ·intro L us wx K a ha hp hd hun hI hK
   have HX := hI.x
   clear hp HX
   replace hd := Lib.hid hd
   simp only [putAll,Act.put,zs,Nat.reduceAdd] at ha
   subst ha
   simp only [Act.put,zs] at hK
   go_simp
   refine hK _ _ ?_
   refine {hI with f1 := ?_} <;> (first | exact fun _ => rfl | skip)
  ·intro L us wx K a ha hp hd hun hI hK
   have HX := hI.x
   have u1 := hI.f1 (hp 1 (by kernel_rfl))
   have bb := (HB1.out.ext HX).cell
   clear hp HX
   replace hd := Lib.hid hd
   simp only [putAll,Act.put,zs,Nat.reduceAdd,u1] at ha
   subst ha
   simp only [Act.put,zs] at hK
   go_simp
   refine hK _ _ ?_
   refine {hI with f2 := ?_} <;> (first | exact fun _ => rfl | skip)
  ·intro L us wx K a ha hp hd hun hI hK
   have HX := hI.x
   clear hp HX
   replace hd := Lib.hid hd
   simp only [putAll,Act.put,zs,Nat.reduceAdd] at ha
   subst ha
   simp only [Act.put,zs] at hK
   go_simp
   refine hK _ _ ?_
   refine {hI with f3 := ?_} <;> (first | exact fun _ => rfl | skip)
  ·intro L us wx K a ha hp hd hun hI hK
   have HX := hI.x
   have u2 := hI.f2 (hp 2 (by kernel_rfl))
   have u3 := hI.f3 (hp 3 (by kernel_rfl))
   clear hp HX
   replace hd := Lib.hid hd
   simp only [putAll,Act.put,zs,Nat.reduceAdd,u2,u3] at ha
   subst ha
   simp only [Act.put,zs] at hK
   go_simp
   refine hK _ _ ?_
   refine {hI with f4 := ?_} <;> (first | exact fun _ => rfl | skip)
  ·intro L us wx K a ha hp hd hun hI hK
   have HX := hI.x
   have u4 := hI.f4 (hp 4 (by kernel_rfl))
   obtain ⟨d0,d1,d2,d3,d4,d5⟩ := HD.out wx HX
   clear hp HX
   replace hd := Lib.hid hd
   simp only [putAll,Act.put,zs,Nat.reduceAdd,u4] at ha
   subst ha
   simp only [Act.put,zs] at hK
   go_simp
   refine hK _ _ ?_
   refine {hI with f5 := ?_} <;> (first | exact fun _ => rfl | skip)
  ·intro L us wx K a ha hp hd hun hI hK
   have HX := hI.x
   have u0 := hI.f0 (hp 0 (by kernel_rfl))
   have u5 := hI.f5 (hp 5 (by kernel_rfl))
   have EX := Lib.hid (HE.out.trans HX)
   clear hp HX
   replace hd := Lib.hid hd
   simp only [putAll,Act.put,zs,Nat.reduceAdd,u0,u5] at ha
   subst ha
   simp only [Act.put,zs] at hK
   go_simp
   go_at_call 89
   refine (HP.out _ EX.out).mono ?_
   rintro e wn ⟨g,cp,hg,rfl,q1,q2,X,En⟩
   go_simp
   refine hK _ _ ?_
   refine ⟨hI.x.trans En,hI.f0,hI.f1,hI.f2,hI.f3,hI.f4,hI.f5,?_,?_,?_,hI.f9,hI.f10,hI.f11,hI.f12,hI.f13,hI.f14,hI.f15,hI.f16,hI.f17,hI.f18,hI.f19⟩ <;> (first | exact fun h => (hI.f6 h).ext En | exact fun h => own_ext (hI.f6 h) En | exact fun h => (hI.f7 h).ext En | exact fun h => own_ext (hI.f7 h) En | exact fun h => (hI.f8 h).ext En | exact fun h => own_ext (hI.f8 h) En | exact fun _ => rfl | skip)
   all_goals exact (by first|exact fun _ => ⟨cp,rfl,q1,q2,X⟩)
  ·intro L us wx K a ha hp hd hun hI hK
   have HX := hI.x
   obtain ⟨c1,ua,q1,q2,X⟩ := hI.f6 (hp 6 (by kernel_rfl))
   obtain ⟨g1,hg1⟩ : ∃ g,bk (us 6) = g := ⟨_,rfl⟩
   rw [hg1] at ua X
   have q3 : (0 : Int) < c1 := by omega
   clear hg1 q1 q2
   clear hp HX
   replace hd := Lib.hid hd
   simp only [putAll,Act.put,zs,Nat.reduceAdd,ua] at ha
   subst ha
   simp only [Act.put,zs] at hK
   go_simp
   refine hK _ _ ?_
   refine {hI with f7 := ?_} <;> (first | exact fun _ => rfl | skip)
   all_goals exact fun _ => ⟨rfl,X⟩
  ·intro L us wx K a ha hp hd hun hI hK
   have HX := hI.x
   obtain ⟨ua,X⟩ := hI.f7 (hp 7 (by kernel_rfl))
   obtain ⟨g1,hg1⟩ : ∃ g,bk (us 7) = g := ⟨_,rfl⟩
   rw [hg1] at ua X
   clear hg1
   clear hp HX
   replace hd := Lib.hid hd
   simp only [putAll,Act.put,zs,Nat.reduceAdd,ua] at ha
   subst ha
   simp only [Act.put,zs] at hK
   go_simp
   refine hK _ _ ?_
   refine {hI with f8 := ?_} <;> (first | exact fun _ => rfl | skip)
   all_goals exact fun _ => ⟨rfl,X⟩
  ·intro L us wx K a ha hp hd hun hI hK
   have HX := hI.x
   obtain ⟨ua,X⟩ := hI.f8 (hp 8 (by kernel_rfl))
   obtain ⟨g1,hg1⟩ : ∃ g,bk (us 8) = g := ⟨_,rfl⟩
   rw [hg1] at ua X
   clear hg1
   have cz := row_low X (by rw [HL.out]; exact Hn0.out)
   rw [Hlz.out] at cz
   clear hp HX
   replace hd := Lib.hid hd
   simp only [putAll,Act.put,zs,Nat.reduceAdd,ua] at ha
   subst ha
   simp only [Act.put,zs] at hK
   go_simp
   refine hK _ _ ?_
   refine {hI with f9 := ?_} <;> (first | exact fun _ => rfl | skip)
  ·intro L us wx K a ha hp hd hun hI hK
   have HX := hI.x
   clear hp HX
   replace hd := Lib.hid hd
   simp only [putAll,Act.put,zs,Nat.reduceAdd] at ha
   subst ha
   simp only [Act.put,zs] at hK
   go_simp
   refine hK _ _ ?_
   refine {hI with f10 := ?_} <;> (first | exact fun _ => rfl | skip)
  ·intro L us wx K a ha hp hd hun hI hK
   have HX := hI.x
   have u10 := hI.f10 (hp 10 (by kernel_rfl))
   have bb := (HB2.out.ext HX).cell
   clear hp HX
   replace hd := Lib.hid hd
   simp only [putAll,Act.put,zs,Nat.reduceAdd,u10] at ha
   subst ha
   simp only [Act.put,zs] at hK
   go_simp
   refine hK _ _ ?_
   refine {hI with f11 := ?_} <;> (first | exact fun _ => rfl | skip)
  ·intro L us wx K a ha hp hd hun hI hK
   have HX := hI.x
   have u9 := hI.f9 (hp 9 (by kernel_rfl))
   have u11 := hI.f11 (hp 11 (by kernel_rfl))
   clear hp HX
   replace hd := Lib.hid hd
   simp only [putAll,Act.put,zs,Nat.reduceAdd,u9,u11] at ha
   subst ha
   simp only [Act.put,zs] at hK
   go_simp
   refine hK _ _ ?_
   refine {hI with f12 := ?_} <;> (first | exact fun _ => rfl | skip)
  ·intro L us wx K a ha hp hd hun hI hK
   have HX := hI.x
   have u12 := hI.f12 (hp 12 (by kernel_rfl))
   clear hp HX
   replace hd := Lib.hid hd
   simp only [putAll,Act.put,zs,Nat.reduceAdd,u12] at ha
   subst ha
   simp only [Act.put,zs] at hK
   go_simp
   refine hK _ _ ?_
   refine {hI with f13 := ?_} <;> (first | exact fun _ => rfl | skip)
  ·intro L us wx K a ha hp hd hun hI hK
   have HX := hI.x
   have u13 := hI.f13 (hp 13 (by kernel_rfl))
   clear hp HX
   replace hd := Lib.hid hd
   simp only [putAll,Act.put,zs,Nat.reduceAdd,u13] at ha
   subst ha
   simp only [Act.put,zs] at hK
   go_simp
   refine hK _ _ ?_
   refine {hI with f14 := ?_} <;> (first | exact fun _ => rfl | skip)
  ·intro L us wx K a ha hp hd hun hI hK
   have HX := hI.x
   have u13 := hI.f13 (hp 13 (by kernel_rfl))
   clear hp HX
   replace hd := Lib.hid hd
   simp only [putAll,Act.put,zs,Nat.reduceAdd,u13] at ha
   subst ha
   simp only [Act.put,zs] at hK
   go_simp
   refine hK _ _ ?_
   refine {hI with f15 := ?_} <;> (first | exact fun _ => rfl | skip)
  ·intro L us wx K a ha hp hd hun hI hK
   have HX := hI.x
   have u13 := hI.f13 (hp 13 (by kernel_rfl))
   clear hp HX
   replace hd := Lib.hid hd
   simp only [putAll,Act.put,zs,Nat.reduceAdd,u13] at ha
   subst ha
   simp only [Act.put,zs] at hK
   go_simp
   refine hK _ _ ?_
   refine {hI with f16 := ?_} <;> (first | exact fun _ => rfl | skip)
  ·intro L us wx K a ha hp hd hun hI hK
   have HX := hI.x
   have u13 := hI.f13 (hp 13 (by kernel_rfl))
   clear hp HX
   replace hd := Lib.hid hd
   simp only [putAll,Act.put,zs,Nat.reduceAdd,u13] at ha
   subst ha
   simp only [Act.put,zs] at hK
   go_simp
   refine hK _ _ ?_
   refine {hI with f17 := ?_} <;> (first | exact fun _ => rfl | skip)
  ·intro L us wx K a ha hp hd hun hI hK
   have HX := hI.x
   have u13 := hI.f13 (hp 13 (by kernel_rfl))
   clear hp HX
   replace hd := Lib.hid hd
   simp only [putAll,Act.put,zs,Nat.reduceAdd,u13] at ha
   subst ha
   simp only [Act.put,zs] at hK
   go_simp
   refine hK _ _ ?_
   refine {hI with f18 := ?_} <;> (first | exact fun _ => rfl | skip)
  ·intro L us wx K a ha hp hd hun hI hK
   have HX := hI.x
   have u18 := hI.f18 (hp 18 (by kernel_rfl))
   clear hp HX
   replace hd := Lib.hid hd
   simp only [putAll,Act.put,zs,Nat.reduceAdd,u18] at ha
   subst ha
   simp only [Act.put,zs] at hK
   go_simp
   refine hK _ _ ?_
   refine {hI with f19 := ?_} <;> (first | exact fun _ => rfl | skip)
  intro L us wx hall hI
  have u19 := hI.f19 (hall 19 (by simp))
  have EX := HE.out.trans hI.x
  clear hall hI
  simp only [putAll,Act.put,zs,Nat.reduceAdd,u19]
  clear u19
  go_wp2_with fail
  refine bodyPost_ret (v := .bool true) (by simp [results,Tryz.results94,go_sem]) rfl ⟨by rw [Hv.out],EX⟩
 ·have hb : (lz == tab) = false := beq_eq_false_iff_ne.2 hd
  have Hv := Lib.hid (show grdB (qs.map (·.1)) bs tab hands j = r by unfold grdB; rw [Hlz2.out,hb,Hr.out,Bool.false_or])
  refine wp_region_by (OgF W2 (.slice QA qs.length qc) (.agg #[.int .i64 kd,.int .i64 x,.int .i64 y,.int .i64 z,.int .u8 tn,.int .u8 cl]) T1 T2 (some ⟨g,off,none⟩) bs.length cb j ⟨g,off + j * 6,none⟩ n L1 lz tab HA hands.length hc r) (by kernel_rfl) (by kernel_rfl) (by kernel_rfl) (fun us => ⟨(Ext.refl _).drew,(nofun),(nofun),(nofun),(nofun),(nofun),(nofun),(nofun),(nofun),(nofun),(nofun),(nofun),(nofun),(nofun),(nofun),(nofun),(nofun),(nofun),(nofun),(nofun),(nofun)⟩) ⟨?_,?_,?_,?_,?_,?_,?_,?_,?_,?_,?_,?_,?_,?_,?_,?_,?_,?_,?_,?_,trivial⟩ ?_
  ·intro L us wx K a ha hp hd hun hI hK
   have HX := hI.x
   clear hp HX
   replace hd := Lib.hid hd
   simp only [putAll,Act.put,zs,Nat.reduceAdd] at ha
   subst ha
   simp only [Act.put,zs] at hK
   go_simp
   refine hK _ _ ?_
   refine {hI with f0 := ?_} <;> (first | exact fun _ => rfl | skip)
  ·intro L us wx K a ha hp hd hun hI hK
   have HX := hI.x
   clear hp HX
   replace hd := Lib.hid hd
   simp only [putAll,Act.put,zs,Nat.reduceAdd] at ha
   subst ha
   simp only [Act.put,zs] at hK
   go_simp
   refine hK _ _ ?_
   refine {hI with f1 := ?_} <;> (first | exact fun _ => rfl | skip)
  ·intro L us wx K a ha hp hd hun hI hK
   have HX := hI.x
   have u1 := hI.f1 (hp 1 (by kernel_rfl))
   have bb := (HB1.out.ext HX).cell
   clear hp HX
   replace hd := Lib.hid hd
   simp only [putAll,Act.put,zs,Nat.reduceAdd,u1] at ha
   subst ha
   simp only [Act.put,zs] at hK
   go_simp
   refine hK _ _ ?_
   refine {hI with f2 := ?_} <;> (first | exact fun _ => rfl | skip)
  ·intro L us wx K a ha hp hd hun hI hK
   have HX := hI.x
   clear hp HX
   replace hd := Lib.hid hd
   simp only [putAll,Act.put,zs,Nat.reduceAdd] at ha
   subst ha
   simp only [Act.put,zs] at hK
   go_simp
   refine hK _ _ ?_
   refine {hI with f3 := ?_} <;> (first | exact fun _ => rfl | skip)
  ·intro L us wx K a ha hp hd hun hI hK
   have HX := hI.x
   have u2 := hI.f2 (hp 2 (by kernel_rfl))
   have u3 := hI.f3 (hp 3 (by kernel_rfl))
   clear hp HX
   replace hd := Lib.hid hd
   simp only [putAll,Act.put,zs,Nat.reduceAdd,u2,u3] at ha
   subst ha
   simp only [Act.put,zs] at hK
   go_simp
   refine hK _ _ ?_
   refine {hI with f4 := ?_} <;> (first | exact fun _ => rfl | skip)
  ·intro L us wx K a ha hp hd hun hI hK
   have HX := hI.x
   have u4 := hI.f4 (hp 4 (by kernel_rfl))
   obtain ⟨d0,d1,d2,d3,d4,d5⟩ := HD.out wx HX
   clear hp HX
   replace hd := Lib.hid hd
   simp only [putAll,Act.put,zs,Nat.reduceAdd,u4] at ha
   subst ha
   simp only [Act.put,zs] at hK
   go_simp
   refine hK _ _ ?_
   refine {hI with f5 := ?_} <;> (first | exact fun _ => rfl | skip)
  ·intro L us wx K a ha hp hd hun hI hK
   have HX := hI.x
   have u0 := hI.f0 (hp 0 (by kernel_rfl))
   have u5 := hI.f5 (hp 5 (by kernel_rfl))
   have EX := Lib.hid (HE.out.trans HX)
   clear hp HX
   replace hd := Lib.hid hd
   simp only [putAll,Act.put,zs,Nat.reduceAdd,u0,u5] at ha
   subst ha
   simp only [Act.put,zs] at hK
   go_simp
   go_at_call 89
   refine (HP.out _ EX.out).mono ?_
   rintro e wn ⟨g,cp,hg,rfl,q1,q2,X,En⟩
   go_simp
   refine hK _ _ ?_
   refine ⟨hI.x.trans En,hI.f0,hI.f1,hI.f2,hI.f3,hI.f4,hI.f5,?_,?_,?_,hI.f9,hI.f10,hI.f11,hI.f12,hI.f13,hI.f14,hI.f15,hI.f16,hI.f17,hI.f18,hI.f19⟩ <;> (first | exact fun h => (hI.f6 h).ext En | exact fun h => own_ext (hI.f6 h) En | exact fun h => (hI.f7 h).ext En | exact fun h => own_ext (hI.f7 h) En | exact fun h => (hI.f8 h).ext En | exact fun h => own_ext (hI.f8 h) En | exact fun _ => rfl | skip)
   all_goals exact (by first|exact fun _ => ⟨cp,rfl,q1,q2,X⟩)
  ·intro L us wx K a ha hp hd hun hI hK
   have HX := hI.x
   obtain ⟨c1,ua,q1,q2,X⟩ := hI.f6 (hp 6 (by kernel_rfl))
   obtain ⟨g1,hg1⟩ : ∃ g,bk (us 6) = g := ⟨_,rfl⟩
   rw [hg1] at ua X
   have q3 : (0 : Int) < c1 := by omega
   clear hg1 q1 q2
   clear hp HX
   replace hd := Lib.hid hd
   simp only [putAll,Act.put,zs,Nat.reduceAdd,ua] at ha
   subst ha
   simp only [Act.put,zs] at hK
   go_simp
   refine hK _ _ ?_
   refine {hI with f7 := ?_} <;> (first | exact fun _ => rfl | skip)
   all_goals exact fun _ => ⟨rfl,X⟩
  ·intro L us wx K a ha hp hd hun hI hK
   have HX := hI.x
   obtain ⟨ua,X⟩ := hI.f7 (hp 7 (by kernel_rfl))
   obtain ⟨g1,hg1⟩ : ∃ g,bk (us 7) = g := ⟨_,rfl⟩
   rw [hg1] at ua X
   clear hg1
   clear hp HX
   replace hd := Lib.hid hd
   simp only [putAll,Act.put,zs,Nat.reduceAdd,ua] at ha
   subst ha
   simp only [Act.put,zs] at hK
   go_simp
   refine hK _ _ ?_
   refine {hI with f8 := ?_} <;> (first | exact fun _ => rfl | skip)
   all_goals exact fun _ => ⟨rfl,X⟩
  ·intro L us wx K a ha hp hd hun hI hK
   have HX := hI.x
   obtain ⟨ua,X⟩ := hI.f8 (hp 8 (by kernel_rfl))
   obtain ⟨g1,hg1⟩ : ∃ g,bk (us 8) = g := ⟨_,rfl⟩
   rw [hg1] at ua X
   clear hg1
   have cz := row_low X (by rw [HL.out]; exact Hn0.out)
   rw [Hlz.out] at cz
   clear hp HX
   replace hd := Lib.hid hd
   simp only [putAll,Act.put,zs,Nat.reduceAdd,ua] at ha
   subst ha
   simp only [Act.put,zs] at hK
   go_simp
   refine hK _ _ ?_
   refine {hI with f9 := ?_} <;> (first | exact fun _ => rfl | skip)
  ·intro L us wx K a ha hp hd hun hI hK
   have HX := hI.x
   clear hp HX
   replace hd := Lib.hid hd
   simp only [putAll,Act.put,zs,Nat.reduceAdd] at ha
   subst ha
   simp only [Act.put,zs] at hK
   go_simp
   refine hK _ _ ?_
   refine {hI with f10 := ?_} <;> (first | exact fun _ => rfl | skip)
  ·intro L us wx K a ha hp hd hun hI hK
   have HX := hI.x
   have u10 := hI.f10 (hp 10 (by kernel_rfl))
   have bb := (HB2.out.ext HX).cell
   clear hp HX
   replace hd := Lib.hid hd
   simp only [putAll,Act.put,zs,Nat.reduceAdd,u10] at ha
   subst ha
   simp only [Act.put,zs] at hK
   go_simp
   refine hK _ _ ?_
   refine {hI with f11 := ?_} <;> (first | exact fun _ => rfl | skip)
  ·intro L us wx K a ha hp hd hun hI hK
   have HX := hI.x
   have u9 := hI.f9 (hp 9 (by kernel_rfl))
   have u11 := hI.f11 (hp 11 (by kernel_rfl))
   clear hp HX
   replace hd := Lib.hid hd
   simp only [putAll,Act.put,zs,Nat.reduceAdd,u9,u11] at ha
   subst ha
   simp only [Act.put,zs] at hK
   go_simp
   refine hK _ _ ?_
   refine {hI with f12 := ?_} <;> (first | exact fun _ => rfl | skip)
  ·intro L us wx K a ha hp hd hun hI hK
   have HX := hI.x
   have u12 := hI.f12 (hp 12 (by kernel_rfl))
   clear hp HX
   replace hd := Lib.hid hd
   simp only [putAll,Act.put,zs,Nat.reduceAdd,u12] at ha
   subst ha
   simp only [Act.put,zs] at hK
   go_simp
   refine hK _ _ ?_
   refine {hI with f13 := ?_} <;> (first | exact fun _ => rfl | skip)
  ·intro L us wx K a ha hp hd hun hI hK
   have HX := hI.x
   have u13 := hI.f13 (hp 13 (by kernel_rfl))
   clear hp HX
   replace hd := Lib.hid hd
   simp only [putAll,Act.put,zs,Nat.reduceAdd,u13] at ha
   subst ha
   simp only [Act.put,zs] at hK
   go_simp
   refine hK _ _ ?_
   refine {hI with f14 := ?_} <;> (first | exact fun _ => rfl | skip)
  ·intro L us wx K a ha hp hd hun hI hK
   have HX := hI.x
   have u13 := hI.f13 (hp 13 (by kernel_rfl))
   have u14 := hI.f14 (hp 14 (by kernel_rfl))
   have bb := (HB2.out.ext HX).cell
   clear hp HX
   replace hd := Lib.hid hd
   simp only [putAll,Act.put,zs,Nat.reduceAdd,u13,u14] at ha
   subst ha
   simp only [Act.put,zs] at hK
   go_simp
   refine hK _ _ ?_
   refine {hI with f15 := ?_} <;> (first | exact fun _ => rfl | skip)
  ·intro L us wx K a ha hp hd hun hI hK
   have HX := hI.x
   have u13 := hI.f13 (hp 13 (by kernel_rfl))
   clear hp HX
   replace hd := Lib.hid hd
   simp only [putAll,Act.put,zs,Nat.reduceAdd,u13] at ha
   subst ha
   simp only [Act.put,zs] at hK
   go_simp
   refine hK _ _ ?_
   refine {hI with f16 := ?_} <;> (first | exact fun _ => rfl | skip)
  ·intro L us wx K a ha hp hd hun hI hK
   have HX := hI.x
   have u13 := hI.f13 (hp 13 (by kernel_rfl))
   have u15 := hI.f15 (hp 15 (by kernel_rfl))
   have u16 := hI.f16 (hp 16 (by kernel_rfl))
   have EX := Lib.hid (HE.out.trans HX)
   clear hp HX
   replace hd := Lib.hid hd
   simp only [putAll,Act.put,zs,Nat.reduceAdd,u13,u15,u16] at ha
   subst ha
   simp only [Act.put,zs] at hK
   go_simp
   go_at_call 96
   refine (HIn.out _ EX.out).mono ?_
   rintro e wn ⟨rfl,En⟩
   go_simp
   refine hK _ _ ?_
   refine ⟨hI.x.trans En,hI.f0,hI.f1,hI.f2,hI.f3,hI.f4,hI.f5,?_,?_,?_,hI.f9,hI.f10,hI.f11,hI.f12,hI.f13,hI.f14,hI.f15,hI.f16,?_,hI.f18,hI.f19⟩ <;> (first | exact fun h => (hI.f6 h).ext En | exact fun h => own_ext (hI.f6 h) En | exact fun h => (hI.f7 h).ext En | exact fun h => own_ext (hI.f7 h) En | exact fun h => (hI.f8 h).ext En | exact fun h => own_ext (hI.f8 h) En | exact fun _ => rfl | skip)
  ·intro L us wx K a ha hp hd hun hI hK
   have HX := hI.x
   have u13 := hI.f13 (hp 13 (by kernel_rfl))
   have u17 := hI.f17 (hp 17 (by kernel_rfl))
   clear hp HX
   replace hd := Lib.hid hd
   simp only [putAll,Act.put,zs,Nat.reduceAdd,u13,u17] at ha
   subst ha
   simp only [Act.put,zs] at hK
   go_simp
   refine hK _ _ ?_
   refine {hI with f18 := ?_} <;> (first | exact fun _ => rfl | skip)
  ·intro L us wx K a ha hp hd hun hI hK
   have HX := hI.x
   have u18 := hI.f18 (hp 18 (by kernel_rfl))
   clear hp HX
   replace hd := Lib.hid hd
   simp only [putAll,Act.put,zs,Nat.reduceAdd,u18] at ha
   subst ha
   simp only [Act.put,zs] at hK
   go_simp
   refine hK _ _ ?_
   refine {hI with f19 := ?_} <;> (first | exact fun _ => rfl | skip)
  intro L us wx hall hI
  have u19 := hI.f19 (hall 19 (by simp))
  have EX := HE.out.trans hI.x
  clear hall hI
  simp only [putAll,Act.put,zs,Nat.reduceAdd,u19]
  clear u19
  go_wp2_with fail
  refine bodyPost_ret (v := .bool r) (by simp [results,Tryz.results94,go_sem]) rfl ⟨by rw [Hv.out],EX⟩
end Go.Proofs.YtjacbhomhjoolaaGreat
