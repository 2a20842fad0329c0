
/- Falling of both sides. No conditions. -/
import Derived.Test.YtjacbhomhjoolaaGreatBPush
import Derived.Test.YtjacbhomhjoolaaGreatBRPush
namespace Go.Proofs.YtjacbhomhjoolaaGreat
open Go.RowKit

def FallOf (ks : List Knd) (bs : List Brk) (tab : Int) (hands : List Int) (l : List Int) : Prop :=
 (restErr ks bs tab hands = 0 ∧ ∃ S put d lf,l = fallL bs.length S ∧ Flow bs.length (capV ks bs) (grF (grdL ks bs tab hands bs.length)) (wtOf ks bs) put d lf ∧ IsFall bs.length (capV ks bs) (grF (grdL ks bs tab hands bs.length)) put lf S) ∨ (restErr ks bs tab hands ≠ 0 ∧ l = [])
theorem FallOf.unique {ks : List Knd} {bs : List Brk} {tab : Int} {hands a b : List Int} (h : FallOf ks bs tab hands a) (k : FallOf ks bs tab hands b) : a = b := by
 rcases h with ⟨h0,S,p1,d1,l1,rfl,f1,i1⟩ | ⟨h0,rfl⟩
 ·rcases k with ⟨-,T,p2,d2,l2,rfl,f2,i2⟩ | ⟨k0, -⟩
  ·exact fallL_congr (fall_unique f1 f2 i1 i2)
  ·exact absurd h0 k0
 ·rcases k with ⟨k0, -⟩ | ⟨-,rfl⟩
  ·exact absurd k0 h0
  ·rfl
def FallPost (ks : List Knd) (bs : List Brk) (tab : Int) (hands : List Int) (w : World) (e : Ending) (w' : World) : Prop :=
 ∃ A cap l,e = .returned (.tuple #[.slice A l.length cap,.int .i64 (restErr ks bs tab hands)]) ∧ IntsZ w' A cap l ∧ FallOf ks bs tab hands l ∧ Ext w w'
set_option maxRecDepth 100000 in
set_option maxHeartbeats 8000000 in
theorem falling_c (qs : List (Knd × KAt)) (QA : Option Addr) (qc : Nat) (bs : List Brk) (B : Option Addr) (cb : Nat) (tab : Int) (HA : Option Addr) (hc : Nat) (hands : List Int) (w : World) (hk : Kinds w QA qc qs) (hb : Bricks w B cb bs) (hh : IntsZ w HA hc hands) :
  Calls Tryz.prog 31 #[.slice QA qs.length qc,.agg #[.slice B bs.length cb],.agg #[.int .i64 tab,.slice HA hands.length hc]] w (FallPost (qs.map (·.1)) bs tab hands w) := by
 obtain ⟨W1,hW1,E1,B1,hz1⟩ := mk_ w #[.slice B bs.length cb] 25
 obtain ⟨W2,hW2,E2,B2,hz2⟩ := mk_ W1 #[.int .i64 tab,.slice HA hands.length hc] 75
 have E := E1.trans E2
 have b1 := (B1.ext E2).cell
 have b2 := B2.cell
 have HE := Lib.hid E
 have RE := rested_c qs QA qc bs B cb tab HA hc hands W2 (hk.ext E) (hb.ext E) (hh.ext E)
 by_cases h0 : restErr (qs.map (·.1)) bs tab hands = 0
 rotate_left
 ·obtain ⟨r,hr⟩ : ∃ r,restErr (qs.map (·.1)) bs tab hands = r := ⟨_,rfl⟩
  have Hr := Lib.hid hr
  have h1 : (r != 0) = true := by rw [← hr]; simpa using h0
  clear hz1 hz2 B1 B2 E1 E2 E hk hb hh hr
  go_enter Tryz.func31,Tryz.ntmps31
  go_wp2_with fail
  refine RE.mono ?_
  rintro e W3 (⟨h2, -⟩ | ⟨-,rfl,E3⟩)
  ·exact absurd h2 h0
  ·rw [Hr.out]
   go_wp2_with fail
   refine bodyPost_ret (v := .tuple #[.slice none 0 0,.int .i64 r]) (by simp [results,Tryz.results31,go_sem]) rfl ⟨none,0, [],by rw [Hr.out]; rfl,ints_nil _,Or.inr ⟨h0,rfl⟩,HE.out.trans E3⟩
 have hcm := (restErr_zero h0).1
 have hf := fit_of hk hb.2 hcm
 have PC := Lib.hid (fun (X : Nat) (CA : Option Addr) (cc M : Nat) (JA : Option Addr) (jc : Nat) (gs cp : Nat → Nat) (mm : List (Pt × Int)) (GA : Option Addr) (gc : Nat) (W : World) (E' : Ext w W) (h : BuiltAt W X qs QA qc bs B cb CA cc M JA jc gs cp mm) (hg : BoolsZ W GA gc (grdL (qs.map (·.1)) bs tab hands bs.length)) =>
  push_c X qs QA qc bs B cb CA cc M JA jc gs cp mm GA gc _ W h (hk.ext E') (hb.ext E') hf hg (grdL_len _ _ _ _ _))
 have H0 := Lib.hid h0
 clear hz1 hz2 B1 B2 E1 E2 E h0 hk hb hh hcm hf
 go_enter Tryz.func31,Tryz.ntmps31
 go_wp2_with fail
 refine RE.mono ?_
 rintro e W3 (⟨-,X,CA,cc,M,JA,jc,gs,cp,mm,GA,gc,rfl,hX,BT,BZ,E3⟩ | ⟨h2, -⟩)
 rotate_left
 ·exact absurd H0.out h2
 have P3 := PC.out X CA cc M JA jc gs cp mm GA gc W3 (HE.out.trans E3) BT BZ
 have HE3 := Lib.hid (HE.out.trans E3)
 clear b1 b2 BT BZ E3 RE hW1 hW2
 go_wp2_with fail
 refine P3.mono ?_
 rintro e W4 ⟨GP,DB,A,c,put,d,l,S,rfl, -, -,hI,hFl,hFa,E4⟩
 have HI := Lib.hid hI
 have HFl := Lib.hid hFl
 have HFa := Lib.hid hFa
 clear hI hFl hFa P3
 go_wp2_with fail
 refine bodyPost_ret (v := .tuple #[.slice A (fallL bs.length S).length c,.int .i64 0]) (by simp [results,Tryz.results31,go_sem]) rfl ⟨A,c,_,by rw [H0.out],HI.out,Or.inl ⟨H0.out,S,put,d,l,rfl,HFl.out,HFa.out⟩,HE3.out.trans E4⟩
def FallenPost (ks : List Knd) (bs : List Brk) (tab : Int) (hands : List Int) (w : World) (e : Ending) (w' : World) : Prop :=
 ∃ A cap l,e = .returned (.slice A l.length cap) ∧ IntsZ w' A cap l ∧ FallOf ks bs tab hands l ∧ Ext w w'
set_option maxRecDepth 100000 in
set_option maxHeartbeats 8000000 in
theorem rFallen_c (qs : List (Knd × KAt)) (QA : Option Addr) (qc : Nat) (bs : List Brk) (B : Option Addr) (cb : Nat) (tab : Int) (HA : Option Addr) (hc : Nat) (hands : List Int) (w : World) (hk : Kinds w QA qc qs) (hb : Bricks w B cb bs) (hh : IntsZ w HA hc hands) (h0 : restErr (qs.map (·.1)) bs tab hands = 0) :
  Calls Tryz.prog 62 #[.slice QA qs.length qc,.agg #[.slice B bs.length cb],.agg #[.int .i64 tab,.slice HA hands.length hc]] w (FallenPost (qs.map (·.1)) bs tab hands w) := by
 obtain ⟨W1,hW1,E1,B1,hz1⟩ := mk_ w #[.slice B bs.length cb] 25
 obtain ⟨W2,hW2,E2,B2,hz2⟩ := mk_ W1 #[.int .i64 tab,.slice HA hands.length hc] 75
 have E := E1.trans E2
 have b1 := (B1.ext E2).cell
 have b2 := B2.cell
 have HE := Lib.hid E
 have hcm := (restErr_zero h0).1
 have hnb := (fit_of hk hb.2 hcm).n
 have PP := rPushed_c qs QA qc bs B cb tab HA hc hands W2 (hk.ext E) (hb.ext E) (hh.ext E) hcm
 obtain ⟨i9,hi9,hz9,hz91,hz92⟩ := info_parts infoInt2
 have H0 := Lib.hid h0
 obtain ⟨n,hn⟩ : ∃ n,bs.length = n := ⟨_,rfl⟩
 rw [hn] at PP hnb B1 b1 hW1 ⊢
 have Hn := Lib.hid hn
 clear hz1 hz2 B1 B2 E1 E2 E h0 hk hb hh hcm hn
 go_enter Tryz.func62,Tryz.ntmps62
 go_wp2_with fail
 refine PP.mono ?_
 rintro e W3 ⟨v1,v2,FB,S,rfl,hS,⟨put,d,l,hFl,hFa⟩,E3⟩
 have HS := Lib.hid hS
 have HF := Lib.hid (show FallOf (qs.map (·.1)) bs tab hands (fallL n S) from Or.inl ⟨H0.out,S,put,d,l,by rw [Hn.out],by rw [Hn.out]; exact hFl,by rw [Hn.out]; exact hFa⟩)
 have HE3 := Lib.hid (HE.out.trans E3)
 obtain ⟨U,hU⟩ : ∃ U,W3.heap.size = U := ⟨_,rfl⟩
 have HU := Lib.hid hU
 clear b1 b2 hS hFl hFa E3 PP hW1 hW2 hU
 go_wp2_with fail
 go_loopw [10,11] (fun v ii wr => ∃ (q : Nat) (u : Value),q ≤ n ∧ ii = .int .i64 q ∧ v = u ∧ Ext W3 wr ∧ wr.ownsRow U 3 1 u (fallL q S).length ((fallL q S).map (Value.int .i64))) (fun _ ii _ => n - (intOf ii).toNat)
 case atStart => exact ⟨0,_,by omega,rfl,rfl,Ext.refl _,World.ownsRow_nil _ _ _ _⟩
 case round =>
  obtain ⟨q,v,hq,rfl,rfl,Er,own⟩ := hrel
  by_cases hqt : q < n
  ·obtain ⟨bq,hbq⟩ : ∃ b,S q = b := ⟨_,rfl⟩
   have cb := (HS.out.ext Er).cell hqt
   rw [hbq] at cb
   have hfl := fallL_succ q S
   rw [hbq] at hfl
   have hln := fallL_len q S
   have q0 : (0 : Int) ≤ q := by omega
   have q1 : (q : Int) < n := by omega
   cases bq
   ·have hf2 : fallL (q + 1) S = fallL q S := by rw [hfl]; exact List.append_nil _
    rw [← hf2] at own
    have Hown := Lib.hid own
    clear own hfl hln hbq
    go_wp2_with fail
    go_roundw
    case rel => exact ⟨q + 1,_,by omega,by go_num,rfl,Er,Hown.out⟩
    case measure => simp only [intOf]; omega
   ·have hf2 : fallL (q + 1) S = fallL q S ++ [(q : Int)] := by rw [hfl]; rfl
    have hU4 : U ≤ wr.heap.size := by have := HU.out; have := Er.size; omega
    have Hf2 := Lib.hid hf2
    have hjl : (fallL q S).length + 1 ≤ maxLen := by unfold maxLen; omega
    obtain ⟨fl,hfe⟩ : ∃ l,fallL q S = l := ⟨_,rfl⟩
    rw [hfe] at own hjl hln Hf2
    obtain ⟨fn,hfn⟩ : ∃ n,fl.length = n := ⟨_,rfl⟩
    rw [hfn] at own hjl hln
    have Hfn := Lib.hid hfn
    clear hfl hf2 hfe hfn hbq
    go_wp2_with (at_builtin; refine wpList_append_one #[.int .i64 q] rfl (.tmp 30) (.tmp 32) 39 rfl U 3 3 i9 _ 1 8 Tryz.underlying39 hi9 hz9 hz91 hz92 rfl (by decide) _ fn _ _ rfl own rfl rfl (by simp [Value.oneCell']) hjl (by omega) hU4 ?_; intro g7 cap7 w7 own7 hg7)
    go_roundw
    case rel =>
     refine ⟨q + 1,_,by omega,by go_num,rfl,(Er.alloc _).grown hg7 (fun k hk => by have := (own.lt k hk).1; have := HU.out; omega),?_⟩
     rw [Hf2.out,List.map_append,List.length_append,Hfn.out]
     exact own7
    case measure => simp only [intOf]; omega
  ·obtain rfl : q = n := by omega
   obtain ⟨FA,fc,rfl,hFI, -⟩ := ints_own rfl own
   have HFI := Lib.hid hFI
   have HR := Lib.hid (HE3.out.trans Er)
   clear hFI own Er
   go_wp2_with fail
   refine bodyPost_ret (v := .slice FA (fallL q S).length fc) (by simp [results,Tryz.results62,go_sem]) rfl ⟨FA,fc,_,rfl,HFI.out,HF.out,HR.out⟩
set_option maxRecDepth 100000 in
set_option maxHeartbeats 8000000 in
theorem rFalling_c (qs : List (Knd × KAt)) (QA : Option Addr) (qc : Nat) (bs : List Brk) (B : Option Addr) (cb : Nat) (tab : Int) (HA : Option Addr) (hc : Nat) (hands : List Int) (w : World) (hk : Kinds w QA qc qs) (hb : Bricks w B cb bs) (hh : IntsZ w HA hc hands) :
  Calls Tryz.prog 32 #[.slice QA qs.length qc,.agg #[.slice B bs.length cb],.agg #[.int .i64 tab,.slice HA hands.length hc]] w (FallPost (qs.map (·.1)) bs tab hands w) := by
 obtain ⟨W1,hW1,E1,B1,hz1⟩ := mk_ w #[.slice B bs.length cb] 25
 obtain ⟨W2,hW2,E2,B2,hz2⟩ := mk_ W1 #[.int .i64 tab,.slice HA hands.length hc] 75
 have E := E1.trans E2
 have B12 := B1.ext E2
 have b1 := B12.cell
 have b2 := B2.cell
 have HE := Lib.hid E
 have HB1 := Lib.hid B12
 have HB2 := Lib.hid B2
 have RE := rCheckRest_c qs QA qc bs B cb tab HA hc hands W2 (hk.ext E) (hb.ext E) (hh.ext E)
 by_cases h0 : restErr (qs.map (·.1)) bs tab hands = 0
 ·have FA := Lib.hid (fun (W : World) (E : Ext w W) => rFallen_c qs QA qc bs B cb tab HA hc hands W (hk.ext E) (hb.ext E) (hh.ext E) h0)
  have H0 := Lib.hid h0
  rw [h0] at RE
  clear hz1 hz2 B1 B2 B12 E1 E2 E h0 hk hb hh
  go_enter Tryz.func32,Tryz.ntmps32
  go_wp2_with fail
  clear b1 b2 hW1 hW2
  refine RE.mono ?_
  rintro e W3 ⟨rfl,E3⟩
  have FB := FA.out W3 (HE.out.trans E3)
  have b1 := (HB1.out.ext E3).cell
  have b2 := (HB2.out.ext E3).cell
  have HE3 := Lib.hid (HE.out.trans E3)
  clear E3 RE
  go_wp2_with fail
  refine FB.mono ?_
  rintro e W4 ⟨A,c,l,rfl,hI,hF,E4⟩
  have HI := Lib.hid hI
  have HF := Lib.hid hF
  clear hI hF FB
  go_wp2_with fail
  refine bodyPost_ret (v := .tuple #[.slice A l.length c,.int .i64 0]) (by simp [results,Tryz.results32,go_sem]) rfl ⟨A,c,l,by rw [H0.out],HI.out,HF.out,HE3.out.trans E4⟩
 ·obtain ⟨r,hr⟩ : ∃ r,restErr (qs.map (·.1)) bs tab hands = r := ⟨_,rfl⟩
  have Hr := Lib.hid hr
  have h1 : (r != 0) = true := by rw [← hr]; simpa using h0
  rw [hr] at RE
  clear hz1 hz2 B1 B2 B12 E1 E2 E hk hb hh hr
  go_enter Tryz.func32,Tryz.ntmps32
  go_wp2_with fail
  refine RE.mono ?_
  rintro e W3 ⟨rfl,E3⟩
  go_wp2_with fail
  refine bodyPost_ret (v := .tuple #[.slice none 0 0,.int .i64 r]) (by simp [results,Tryz.results32,go_sem]) rfl ⟨none,0, [],by rw [Hr.out]; rfl,ints_nil _,Or.inr ⟨h0,rfl⟩,HE.out.trans E3⟩
end Go.Proofs.YtjacbhomhjoolaaGreat
