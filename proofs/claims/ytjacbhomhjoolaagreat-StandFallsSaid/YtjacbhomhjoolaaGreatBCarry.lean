
/- Whether loads carry: the program's side. -/
import Derived.Test.YtjacbhomhjoolaaGreatBLoadS
import Derived.Test.YtjacbhomhjoolaaGreatBPush
namespace Go.Proofs.YtjacbhomhjoolaaGreat
open Go.RowKit

def nzB (l : List Int) : Bool := l.any fun n => n != 0
theorem nzB_drop {l : List Int} {k : Nat} {q : Int} (h : l[k]? = some q) : nzB (l.drop k) = (q != 0 || nzB (l.drop (k + 1))) := by
 obtain ⟨hk,hq⟩ := List.getElem?_eq_some_iff.1 h
 unfold nzB
 rw [List.drop_eq_getElem_cons hk,hq]
 rfl
theorem nzB_none {l : List Int} {k : Nat} (h : l.length ≤ k) : nzB (l.drop k) = false := by
 rw [List.drop_eq_nil_of_le h]
 rfl
theorem nzB_range (n : Nat) (d : Nat → Int) : nzB ((List.range n).map d) = !allR n fun v => d v == 0 := by
 unfold nzB allR
 rw [List.any_map,List.all_eq_not_any_not,Bool.not_not]
 congr 1
theorem nz_c (v : Int) (w : World) : Calls Tryz.prog 98 #[.int .i64 v] w fun e w' => e = .returned (.bool (v != 0)) ∧ Ext w w' := by
 go_enter Tryz.func98,Tryz.ntmps98
 go_wp2
 go_ret
 exact ⟨rfl,Ext.refl _⟩
theorem idxF_c (A : Option Addr) (ca : Nat) (l : List Int) (w : World) (hs : IntsZ w A ca l) :
  Calls Tryz.prog 121 #[.slice A l.length ca,.func (.func 98) #[] #[]] w (IdxZ (nzB l) w) := by
 have hl1 : l.length ≤ 9223372036854775807 := by have := hs.le; have := hs.small; unfold maxLen at this; omega
 go_enter Tryz.func121,Tryz.ntmps121
 go_wp2_with fail
 go_loopw [8] (fun i wr => ∃ k : Nat,k ≤ l.length ∧ i = .int .i64 k ∧ Hid (nzB l = nzB (l.drop k)) ∧ Ext w wr) (fun i _ => l.length - (intOf i).toNat)
 case atStart => exact ⟨0,by omega,rfl,Lib.hid rfl,Ext.refl w⟩
 case round =>
  obtain ⟨k,hk,rfl,Hj,E⟩ := hrel
  by_cases hlt : k < l.length
  ·obtain ⟨g,off,q,rfl,hq,hg,c0⟩ := hs.at_ hlt
   have e0 := E.cell c0
   have hle := hs.le
   clear c0
   have Hd := Lib.hid (nzB_drop hq)
   clear hq
   have i1 : (0 : Int) ≤ k := by omega
   have i2 : (k : Int) < l.length := by omega
   have i3 : (k : Int) < ca := by omega
   have NZ := Lib.hid (fun W => nz_c q W)
   obtain ⟨r,hr⟩ : ∃ r,(q != 0) = r := ⟨_,rfl⟩
   rw [hr] at NZ
   have Hr := Lib.hid hr
   clear hr
   go_wp2_with fail
   refine (NZ.out _).mono ?_
   rintro e W2 ⟨rfl,E2⟩
   clear e0
   cases r
   ·go_wp2_with fail
    go_roundw
    case rel => exact ⟨k + 1,by omega,by go_num,Lib.hid (by rw [Hj.out,Hd.out,Hr.out]; rfl),E.trans E2⟩
    case measure => simp [intOf]; omega
   ·go_wp2_with fail
    go_ret
    exact ⟨k,rfl,by rw [Hj.out,Hd.out,Hr.out]; simp,E.trans E2⟩
  ·obtain rfl : k = l.length := by omega
   go_wp2_with fail
   go_ret
   exact ⟨-1,rfl,by rw [Hj.out,nzB_none (Nat.le_refl _)]; rfl,E⟩
theorem contF_c (A : Option Addr) (ca : Nat) (l : List Int) (w : World) (hs : IntsZ w A ca l) :
  Calls Tryz.prog 97 #[.slice A l.length ca,.func (.func 98) #[] #[]] w fun e w' => e = .returned (.bool (nzB l)) ∧ Ext w w' := by
 have IC := idxF_c A ca l w hs
 go_enter Tryz.func97,Tryz.ntmps97
 go_wp2_with fail
 refine IC.mono ?_
 rintro e w1 ⟨v,rfl,hv,E1⟩
 have Hv := Lib.hid hv
 clear hv
 go_wp2_with fail
 go_ret
 exact ⟨by rw [← Hv.out]; rfl,E1⟩
theorem NRow.congr {w : World} {g n : Nat} {d : Nat → Int} (h : NRow w g n d) {d' : Nat → Int} (e : ∀ k,k < n → d' k = d k) : NRow w g n d' := by
 have : (vsA n fun k => Value.int .i64 (d' k)) = vsA n fun k => Value.int .i64 (d k) := by
  unfold vsA
  congr 1
  exact List.map_congr_left fun k hk => by rw [e k (List.mem_range.1 hk)]
 unfold NRow
 rw [this]
 exact h
set_option maxRecDepth 100000 in
set_option maxHeartbeats 16000000 in
theorem carries_c (X : Nat) (qs : List (Knd × KAt)) (QA : Option Addr) (qc : Nat) (bs : List Brk) (B : Option Addr) (cb : Nat) (CA : Option Addr) (cc M : Nat) (JA : Option Addr) (jc : Nat) (gs cp : Nat → Nat) (mm : List (Pt × Int)) (GA : Option Addr) (gc : Nat) (gl : List Bool) (LA : Option Addr) (lc : Nat) (l : List Ld) (w : World) (h : BuiltAt w X qs QA qc bs B cb CA cc M JA jc gs cp mm) (hk : Kinds w QA qc qs) (hb : Bricks w B cb bs) (hf : Fit (qs.map (·.1)) bs) (hg : BoolsZ w GA gc gl) (hgl : gl.length = bs.length) (hl : Lds w LA lc l) (hl2 : l.length ≤ 2000) :
  Calls Tryz.prog 69 #[.pointer (some ⟨X,0,none⟩),.slice GA bs.length gc,.slice LA l.length lc] w fun e w' => e = .returned (.bool (carryB bs.length (grF gl) (capV (qs.map (·.1)) bs) (wtOf (qs.map (·.1)) bs) l)) ∧ Ext w w' := by
 have hnb := hf.n
 have hcs := fun i k => capV_small hf i k
 have hw9 : ∀ i,i < bs.length → 0 ≤ wtOf (qs.map (·.1)) bs i ∧ wtOf (qs.map (·.1)) bs i ≤ 100 := fun i hi => by
  obtain ⟨m,k,p, -, -, -,e,h1,h2⟩ := wt_parts hf hi
  omega
 have HWT := Lib.hid (fun (i : Nat) (hi : i < bs.length) (W : World) (E : Ext w W) => weight_c X qs QA qc bs B cb CA cc M JA jc gs cp mm W (h.ext E) (hk.ext E) (hb.ext E) hf i hi)
 have CC := capacities_c X qs QA qc bs B cb CA cc M JA jc gs cp mm w h hf
 have Hg := Lib.hid hg
 have HL := Lib.hid hl
 obtain ⟨n,hn⟩ : ∃ n,bs.length = n := ⟨_,rfl⟩
 have Hn := Lib.hid hn
 rw [hn] at HWT hnb hgl hw9 ⊢
 have hmk := make_nums n (by omega)
 obtain ⟨wt,hwt⟩ : ∃ x,wtOf (qs.map (·.1)) bs = x := ⟨_,rfl⟩
 obtain ⟨cap,hcap⟩ : ∃ x,capV (qs.map (·.1)) bs = x := ⟨_,rfl⟩
 rw [hwt] at HWT hw9 ⊢
 rw [hcap] at hcs ⊢
 have Hw9 := Lib.hid hw9
 have Hcs := Lib.hid hcs
 have Hgl := Lib.hid hgl
 have Hcap := Lib.hid hcap
 clear h hk hb hf hg hl hn hwt hw9 hcs hcap hgl
 go_enter Tryz.func69,Tryz.ntmps69
 go_wp2_with fail
 refine CC.mono ?_
 rintro e W5 ⟨G,f,rfl,hG,hM,hfv,E5⟩
 have hfv2 : ∀ x,x < n → ∀ y,y < n → f x y = cap x y := fun x hx y hy => by
  rw [hfv x (by rw [Hn.out]; exact hx) y (by rw [Hn.out]; exact hy),Hcap.out]
 have Hfv := Lib.hid hfv2
 have HM := Lib.hid hM
 obtain ⟨W6,hW6,E6,B6,hz6⟩ := mk_ W5 (zeroA n) 3
 obtain ⟨SM,hSM⟩ : ∃ x,W5.heap.size = x := ⟨_,rfl⟩
 rw [hSM] at B6
 have N6 : NRow W6 SM n (fun v => if v < 0 then wt v else 0) := by
  rw [zeroA_vs] at B6
  exact NRow.congr (d := fun _ => 0) B6 (fun k _ => if_neg (Nat.not_lt_zero _))
 have HSM := Lib.hid hSM
 have HW6 := Lib.hid hW6
 have HE5 := Lib.hid E5
 have HE6 := Lib.hid E6
 have HN6 := Lib.hid N6
 clear hG hM hfv hfv2 E5 E6 B6 hz6 hW6 hSM N6 CC
 go_upto_region 4 with (fail)
 rw [HW6.out,HSM.out]
 go_wp2_with fail
 go_loopw [21] (fun ii wr => ∃ k : Nat,k ≤ n ∧ ii = .int .i64 k ∧ NRow wr SM n (fun v => if v < k then wt v else 0) ∧ Ext W5 wr) (fun ii _ => n - (intOf ii).toNat)
 case atStart => exact ⟨0,by omega,rfl,HN6.out,HE6.out⟩
 case round =>
  obtain ⟨k,hk,rfl,NS,Er⟩ := hrel
  by_cases hkn : k < n
  ·have WT := HWT.out k hkn _ (HE5.out.trans Er)
   obtain ⟨wk,hwk⟩ : ∃ x,wt k = x := ⟨_,rfl⟩
   rw [hwk] at WT
   have Hwk := Lib.hid hwk
   have HNS := Lib.hid NS
   have HEr := Lib.hid Er
   have k0 : (0 : Int) ≤ k := by omega
   have k1 : (k : Int) < n := by omega
   clear hwk NS Er
   go_wp2_with fail
   refine WT.mono ?_
   rintro e W7 ⟨rfl,E7⟩
   have N7 := HNS.out.ext E7
   have cs := N7.cell hkn
   have fs := Blk.frozen N7 k
   have N8 := Lib.hid ((N7.set_ k wk).congr (d' := fun v => if v < k + 1 then wt v else 0) (fun v hv => by
    unfold setN
    by_cases hvk : v = k
    ·subst hvk
     rw [if_pos rfl,if_pos (by omega),Hwk.out]
    ·rw [if_neg hvk]
     show (if v < k + 1 then wt v else 0) = if v < k then wt v else 0
     by_cases h1 : v < k
     ·rw [if_pos h1,if_pos (by omega)]
     ·rw [if_neg h1,if_neg (by omega)]))
   have E8 := Lib.hid ((HEr.out.trans E7).setCell (p := ⟨SM,k,none⟩) (by have := HSM.out; show W5.heap.size ≤ SM; omega) (.int .i64 wk))
   clear N7 E7 WT
   go_wp2_with fail
   go_roundw
   case rel => exact ⟨k + 1,by omega,by go_num,N8.out,E8.out⟩
   case measure => simp only [intOf]; omega
  ·obtain rfl : k = n := by omega
   have HN0 := Lib.hid (NS.congr (d' := sumsK wt l 0) (fun v hv => by rw [if_pos hv]; rfl))
   have HE0 := Lib.hid Er
   clear NS Er
   go_wp2_with fail
   go_loopw [33] (fun ii wr => ∃ q : Nat,q ≤ l.length ∧ ii = .int .i64 q ∧ NRow wr SM k (sumsK wt l q) ∧ Ext W5 wr ∧ Hid (∀ i,i < q → ldOk k (grF gl) cap l i = true)) (fun ii _ => l.length - (intOf ii).toNat)
   case atStart => exact ⟨0,by omega,rfl,HN0.out,HE0.out,Lib.hid (fun i hi => absurd hi (Nat.not_lt_zero _))⟩
   case round =>
    clear HN0 HE0
    obtain ⟨q,hq,rfl,NS,Er,Hok⟩ := hrel
    by_cases hqt : q < l.length
    ·obtain ⟨lg,loff,hLA, -,c0,c1,c2⟩ := (HL.out.ext (HE5.out.trans Er)).at_ hqt
     have HLc := Lib.hid (fun (j : Nat) (hj : j < l.length) (W : World) (E : Ext W5 W) => (HL.out.ext (HE5.out.trans E)).at_ hj)
     subst hLA
     have hlc : l.length ≤ lc := HL.out.le
     obtain ⟨⟨a,b,c⟩,hx⟩ : ∃ x,ldAt l q = x := ⟨_,rfl⟩
     rw [hx] at c0 c1 c2
     simp only at c0 c1 c2
     have Hx := Lib.hid hx
     obtain ⟨W8,hW8,E8,B8, -⟩ := mk_ wr #[.int .i64 a,.int .i64 b,.int .i64 c] 140
     obtain ⟨Y,hY⟩ : ∃ x,wr.heap.size = x := ⟨_,rfl⟩
     rw [hY] at B8
     have HY := Lib.hid hY
     have HB8 := Lib.hid B8
     have HN8 := Lib.hid (NS.ext E8)
     have HE8 := Lib.hid (Er.trans E8)
     have hbd := sums_bd Hw9.out q (fun i hi => by
      have := Hok.out i hi
      unfold ldOk at this
      rw [Bool.and_eq_true,Bool.and_eq_true] at this
      exact this.1.1) (l := l)
     have Hbd := Lib.hid hbd
     have q0 : (0 : Int) ≤ q := by omega
     have q1 : (q : Int) < l.length := by omega
     have q2 : (q : Int) < lc := by omega
     clear hx hY B8 E8 NS Er hbd
     go_upto_region 12 with (fail)
     rw [HY.out]
     clear hW8 c0 c1 c2
     by_cases a1 : a < 0
     ·have Hb := Lib.hid (carry_bad (wt := wt) hqt (ldOk_b (n := k) (gr := grF gl) (cap := cap) (by rw [Hx.out,Bool.eq_false_iff]; intro e; have e2 := ldB_iff.1 e; simp only at e2; omega)))
      have HE9 := Lib.hid (HE5.out.trans HE8.out)
      have yb := HB8.out.cell
      go_wp2_with fail
      go_ret
      exact ⟨by rw [Hb.out]; rfl,HE9.out⟩
     have b1 : ¬ a < 0 := a1
     by_cases a2 : a ≥ k
     ·have Hb := Lib.hid (carry_bad (wt := wt) hqt (ldOk_b (n := k) (gr := grF gl) (cap := cap) (by rw [Hx.out,Bool.eq_false_iff]; intro e; have e2 := ldB_iff.1 e; simp only at e2; omega)))
      have HE9 := Lib.hid (HE5.out.trans HE8.out)
      have yb := HB8.out.cell
      go_wp2_with fail
      go_ret
      exact ⟨by rw [Hb.out]; rfl,HE9.out⟩
     have b2 : ¬ a ≥ k := a2
     by_cases a3 : b < -1
     ·have Hb := Lib.hid (carry_bad (wt := wt) hqt (ldOk_b (n := k) (gr := grF gl) (cap := cap) (by rw [Hx.out,Bool.eq_false_iff]; intro e; have e2 := ldB_iff.1 e; simp only at e2; omega)))
      have HE9 := Lib.hid (HE5.out.trans HE8.out)
      have yb := HB8.out.cell
      go_wp2_with fail
      go_ret
      exact ⟨by rw [Hb.out]; rfl,HE9.out⟩
     have b3 : ¬ b < -1 := a3
     by_cases a4 : b ≥ k
     ·have Hb := Lib.hid (carry_bad (wt := wt) hqt (ldOk_b (n := k) (gr := grF gl) (cap := cap) (by rw [Hx.out,Bool.eq_false_iff]; intro e; have e2 := ldB_iff.1 e; simp only at e2; omega)))
      have HE9 := Lib.hid (HE5.out.trans HE8.out)
      have yb := HB8.out.cell
      go_wp2_with fail
      go_ret
      exact ⟨by rw [Hb.out]; rfl,HE9.out⟩
     have b4 : ¬ b ≥ k := a4
     by_cases a5 : b = a
     ·have c5 : (b == a) = true := beq_iff_eq.2 a5
      have Hb := Lib.hid (carry_bad (wt := wt) hqt (ldOk_b (n := k) (gr := grF gl) (cap := cap) (by rw [Hx.out,Bool.eq_false_iff]; intro e; have e2 := ldB_iff.1 e; simp only at e2; omega)))
      have HE9 := Lib.hid (HE5.out.trans HE8.out)
      have yb := HB8.out.cell
      go_wp2_with fail
      go_ret
      exact ⟨by rw [Hb.out]; rfl,HE9.out⟩
     have c5 : (b == a) = false := beq_eq_false_iff_ne.2 a5
     by_cases a6 : c < 1
     ·have Hb := Lib.hid (carry_bad (wt := wt) hqt (ldOk_b (n := k) (gr := grF gl) (cap := cap) (by rw [Hx.out,Bool.eq_false_iff]; intro e; have e2 := ldB_iff.1 e; simp only at e2; omega)))
      have HE9 := Lib.hid (HE5.out.trans HE8.out)
      have yb := HB8.out.cell
      go_wp2_with fail
      go_ret
      exact ⟨by rw [Hb.out]; rfl,HE9.out⟩
     have b6 : ¬ c < 1 := a6
     by_cases a7 : c > 1073741824
     ·have Hb := Lib.hid (carry_bad (wt := wt) hqt (ldOk_b (n := k) (gr := grF gl) (cap := cap) (by rw [Hx.out,Bool.eq_false_iff]; intro e; have e2 := ldB_iff.1 e; simp only at e2; omega)))
      have HE9 := Lib.hid (HE5.out.trans HE8.out)
      have yb := HB8.out.cell
      go_wp2_with fail
      go_ret
      exact ⟨by rw [Hb.out]; rfl,HE9.out⟩
     have b7 : ¬ c > 1073741824 := a7
     have hB : ldB k (ldAt l q) = true := by rw [Hx.out,ldB_iff]; simp only; omega
     have HB := Lib.hid hB
     obtain ⟨na,rfl⟩ : ∃ m : Nat,a = m := ⟨a.toNat,by omega⟩
     have hna : na < k := by omega
     obtain ⟨s1,hs1⟩ : ∃ x,sumsK wt l q na = x := ⟨_,rfl⟩
     have hb1 := Hbd.out na hna
     rw [hs1] at hb1
     obtain ⟨sl1,sl2⟩ := hb1
     have Hs1 := Lib.hid hs1
     obtain ⟨gg,goff,gb,hGA,hgb, -, -⟩ := (Hg.out.ext (HE5.out.trans HE8.out)).at_ (k := na) (by rw [Hgl.out]; exact hna)
     have hgf : grF gl na = gb := by unfold grF; rw [List.getD_eq_getElem?_getD,hgb]; rfl
     have Hgf := Lib.hid hgf
     have hgc : k ≤ gc := by have := Hg.out.le; rw [Hgl.out] at this; exact this
     have HGc := Lib.hid (fun (W : World) (E : Ext W5 W) => show W.cell? ⟨gg,goff + na,none⟩ = some (.bool gb) by
      obtain ⟨g',o',b',hG',hb', -,c'⟩ := (Hg.out.ext (HE5.out.trans E)).at_ (k := na) (by rw [Hgl.out]; exact hna)
      rw [hGA] at hG'
      cases hG'
      rw [hgb] at hb'
      cases hb'
      exact c')
     subst hGA
     have n0 : (0 : Int) ≤ na := by omega
     have n1 : (na : Int) < k := by omega
     have n2 : (na : Int) < gc := by omega
     have n40 : (na : Int) < 40 := by omega
     clear hB hs1 hgf hgb
     by_cases hq0 : q = 0
     ·have q3 : ¬ (0 : Int) < (q : Int) := by omega
      have q4 : decide (0 < q) = false := by simp; omega
      have Hor := Lib.hid (Or.inl hq0 : q = 0 ∨ ordB (ldAt l (q - 1)) (ldAt l q) = true)
      clear hq0
      have yb := HB8.out.cell
      go_upto_region 14 with (fail)
      refine wp_region_grow (by kernel_rfl) (by kernel_rfl) ?_
      repeat (go_big_quiet_step (fail))
      refine wpQuiet_nil ?_
      intro W9 hW9
      have E9 : Ext W8 W9 := by
       obtain ⟨x,rfl⟩ := hW9
       exact (Ext.refl _).grow x
      clear hW9
      obtain ⟨hcW9,hfW9,hzW9⟩ := ext_facts E9
      clear hcW9 hfW9 hzW9 yb
      as_aux_lemma =>
      have HB9 := Lib.hid (HB8.out.ext E9)
      have HN9 := Lib.hid (HN8.out.ext E9)
      have HE9 := Lib.hid (HE8.out.trans E9)
      have yb := HB9.out.cell
      clear E9
      have cs := HN9.out.cell hna
      rw [Hs1.out] at cs
      go_upto_region 16 with (fail)
      refine wp_region_tail 9 (by kernel_rfl) (by kernel_rfl) ?_
      simp only [List.take_succ_cons,List.take_zero,List.drop_succ_cons,List.drop_zero]
      repeat (go_big_quiet_step (fail))
      refine wpQuiet_nil ?_
      intro W10 hW10
      have E10 : Ext W9 W10 := by
       obtain ⟨x,rfl⟩ := hW10
       exact (Ext.refl _).grow x
      clear hW10
      obtain ⟨hcW10,hfW10,hzW10⟩ := ext_facts E10
      clear hcW10 hfW10 hzW10 yb cs
      have N10 := HN9.out.ext E10
      have cs := N10.cell hna
      rw [Hs1.out] at cs
      have fs := Blk.frozen N10 na
      have HN11 := Lib.hid (N10.set_ na (s1 - c))
      have HE11 := Lib.hid ((HE9.out.trans E10).setCell (p := ⟨SM,na,none⟩) (by have := HSM.out; show W5.heap.size ≤ SM; omega) (.int .i64 (s1 - c)))
      have HB11 := Lib.hid (Blk.far (HB9.out.ext E10) (p := ⟨SM,na,none⟩) (fun e => by have h7 := Blk.types (e ▸ HB9.out.ext E10) N10; exact absurd h7 (by decide)) (.int .i64 (s1 - c)))
      obtain ⟨W11,hW11⟩ : ∃ W,W10.setCell ⟨SM,na,none⟩ (.int .i64 (s1 - c)) = W := ⟨_,rfl⟩
      rw [hW11] at HN11 HE11 HB11
      have yb := HB11.out.cell
      clear N10 E10
      by_cases hb : b = -1
      ·subst hb
       have e1 : ((-1 : Int) == -1) = true := rfl
       have cgr := HGc.out W11 HE11.out
       cases gb
       ·have Hb := Lib.hid (carry_bad (wt := wt) hqt (ldOk_m (n := k) (gr := grF gl) (cap := cap) (by rw [Hx.out]; unfold mayB; rw [if_pos rfl]; exact Hgf.out)))
        have HE9 := Lib.hid (HE5.out.trans HE11.out)
        go_wp2_with fail
        go_ret
        exact ⟨by rw [Hb.out]; rfl,HE9.out⟩
       ·have hst : sumsK wt l (q + 1) = setN (sumsK wt l q) na (s1 - c) := by
         rw [← Hs1.out]
         show ldStep (sumsK wt l q) (ldAt l q) = _
         rw [Hx.out]
         unfold ldStep
         rw [if_pos rfl]
         rfl
        have Hok2 := Lib.hid (show ∀ i,i < q + 1 → ldOk k (grF gl) cap l i = true from fun i hi => by
         rcases Nat.lt_or_ge i q with h' | h'
         ·exact Hok.out i h'
         ·obtain rfl : i = q := by omega
          exact ldOk_good HB.out Hor.out (by rw [Hx.out]; unfold mayB; rw [if_pos rfl]; exact Hgf.out))
        have HNn := Lib.hid HN11.out
        rw [← hst] at HNn
        clear hst
        go_wp2_with fail
        go_roundw
        case rel => exact ⟨q + 1,by omega,by go_num,HNn.out,HE11.out,Hok2⟩
        case measure => simp only [intOf]; omega
      ·have e1 : (b == -1) = false := beq_eq_false_iff_ne.2 hb
       obtain ⟨nb,rfl⟩ : ∃ m : Nat,b = m := ⟨b.toNat,by omega⟩
       have hnb : nb < k := by omega
       have hne : nb ≠ na := fun e => a5 (by rw [e])
       have m0 : (0 : Int) ≤ nb := by omega
       have m1 : (nb : Int) < k := by omega
       have m40 : (nb : Int) < 40 := by omega
       have cM := (HM.out.ext HE11.out).cell (a := na) (b := nb) (by omega) (by omega)
       rw [Hfv.out na hna nb hnb] at cM
       obtain ⟨cv,hcv⟩ : ∃ x,cap na nb = x := ⟨_,rfl⟩
       rw [hcv] at cM
       have Hcv := Lib.hid hcv
       have hmay : mayB (grF gl) cap (ldAt l q) = decide (c ≤ cv) := by
        rw [Hx.out]
        unfold mayB
        rw [if_neg (show ¬ (nb : Int) = -1 by omega),← hcv]
        rfl
       have Hmay := Lib.hid hmay
       clear hcv hmay
       go_upto_region 20 with (fail)
       clear cs fs hW11
       refine wp_region_grow (by kernel_rfl) (by kernel_rfl) ?_
       repeat (go_big_quiet_step (fail))
       refine wpQuiet_nil ?_
       intro W12 hW12
       have E12 : Ext W11 W12 := by
        obtain ⟨x,rfl⟩ := hW12
        exact (Ext.refl _).grow x
       clear hW12
       obtain ⟨hcW12,hfW12,hzW12⟩ := ext_facts E12
       clear hcW12 hfW12 hzW12 yb cM
       by_cases hcc : c > cv
       ·have Hb := Lib.hid (carry_bad (wt := wt) hqt (ldOk_m (n := k) (gr := grF gl) (cap := cap) (by rw [Hmay.out]; exact decide_eq_false (by omega))))
        have HE12 := Lib.hid (HE11.out.trans E12)
        clear E12
        have HE9 := Lib.hid (HE5.out.trans HE12.out)
        go_wp2_with fail
        go_ret
        exact ⟨by rw [Hb.out]; rfl,HE9.out⟩
       ·have hcc2 : ¬ c > cv := hcc
        have HN12 := Lib.hid (HN11.out.ext E12)
        have HE12 := Lib.hid (HE11.out.trans E12)
        have yb := (HB11.out.ext E12).cell
        have hs2 := Hbd.out nb hnb
        obtain ⟨s2,hs2e⟩ : ∃ x,sumsK wt l q nb = x := ⟨_,rfl⟩
        rw [hs2e] at hs2
        obtain ⟨sl3,sl4⟩ := hs2
        have Hs2 := Lib.hid (show setN (sumsK wt l q) na (s1 - c) nb = s2 by unfold setN; rw [if_neg hne,hs2e])
        have Hok2 := Lib.hid (show ∀ i,i < q + 1 → ldOk k (grF gl) cap l i = true from fun i hi => by
         rcases Nat.lt_or_ge i q with h' | h'
         ·exact Hok.out i h'
         ·obtain rfl : i = q := by omega
          exact ldOk_good HB.out Hor.out (by rw [Hmay.out]; exact decide_eq_true (by omega)))
        have HB12 := Lib.hid (HB11.out.ext E12)
        clear E12 hs2e
        have cs := HN12.out.cell hnb
        rw [Hs2.out] at cs
        go_upto_region 22 with (fail)
        refine wp_region_tail 9 (by kernel_rfl) (by kernel_rfl) ?_
        simp only [List.take_succ_cons,List.take_zero,List.drop_succ_cons,List.drop_zero]
        repeat (go_big_quiet_step (fail))
        refine wpQuiet_nil ?_
        intro W13 hW13
        have E13 : Ext W12 W13 := by
         obtain ⟨x,rfl⟩ := hW13
         exact (Ext.refl _).grow x
        clear hW13
        obtain ⟨hcW13,hfW13,hzW13⟩ := ext_facts E13
        clear hcW13 hfW13 hzW13 yb cs
        have N13 := HN12.out.ext E13
        have cs := N13.cell hnb
        rw [Hs2.out] at cs
        have fs := Blk.frozen N13 nb
        have hst : sumsK wt l (q + 1) = setN (setN (sumsK wt l q) na (s1 - c)) nb (s2 + c) := by
         rw [← Hs2.out,← Hs1.out]
         show ldStep (sumsK wt l q) (ldAt l q) = _
         rw [Hx.out]
         unfold ldStep
         rw [if_neg (show ¬ (nb : Int) = -1 by omega)]
         rfl
        have HN14 := Lib.hid (N13.set_ nb (s2 + c))
        rw [← hst] at HN14
        have HE14 := Lib.hid ((HE12.out.trans E13).setCell (p := ⟨SM,nb,none⟩) (by have := HSM.out; show W5.heap.size ≤ SM; omega) (.int .i64 (s2 + c)))
        clear N13 E13 hst
        go_wp2_with fail
        go_roundw
        case rel => exact ⟨q + 1,by omega,by go_num,HN14.out,HE14.out,Hok2⟩
        case measure => simp only [intOf]; omega
     ·have q3 : (0 : Int) < (q : Int) := by omega
      have q4 : decide (0 < q) = true := by simp; omega
      have q5 : decide ((0 : Int) < (q : Int)) = true := by simp; omega
      have ht : ((q : Int) - 1).toNat = q - 1 := by omega
      have hk1 : (1 : Int) ≤ q := by omega
      have q6 : (q : Int) - 1 < l.length := by omega
      have q7 : (0 : Int) ≤ (q : Int) - 1 := by omega
      have q8 : (q : Int) - 1 < lc := by omega
      obtain ⟨lg',loff',hA', -,d0,d1,d2⟩ := HLc.out (q - 1) (by omega) W8 HE8.out
      cases hA'
      obtain ⟨⟨pa,pb,pc⟩,hpx⟩ : ∃ x,ldAt l (q - 1) = x := ⟨_,rfl⟩
      rw [hpx] at d0 d1 d2
      simp only at d0 d1 d2
      have hor := ordB_or ⟨pa,pb,pc⟩ ⟨(na : Int),b,c⟩
      simp only at hor
      obtain ⟨ov,hov⟩ : ∃ x,orL [ordZ pa (na : Int),ordZ pb b] = x := ⟨_,rfl⟩
      rw [hov] at hor
      have Hov := Lib.hid hov
      have Hpx := Lib.hid hpx
      clear hov hpx
      have yb := HB8.out.cell
      go_upto_region 14 with (fail)
      refine wp_region_tail 21 (by kernel_rfl) (by kernel_rfl) ?_
      simp only [List.take_succ_cons,List.take_zero,List.drop_succ_cons,List.drop_zero]
      repeat (go_big_quiet_step ((go_at_call 80; exact quiet_grow_same (cmpZ_c _ _ _))))
      refine wpQuiet_nil ?_
      intro W9 hW9
      have E9 : Ext W8 W9 := by
       obtain ⟨x,rfl⟩ := hW9
       exact (Ext.refl _).grow x
      clear hW9
      obtain ⟨hcW9,hfW9,hzW9⟩ := ext_facts E9
      clear hcW9 hfW9 hzW9 yb d0 d1 d2
      go_wp2_with fail
      refine (or2_c _ _ _ _).mono ?_
      rintro v w4 ⟨rfl,rfl⟩
      rw [Hov.out]
      obtain ⟨W14,hW14,E14, -, -⟩ := mk_ W9 #[.int .i64 (ordZ pa (na : Int)),.int .i64 (ordZ pb b)] 3
      rw [hW14]
      have E94 := E9.trans E14
      clear hW14 E9 E14
      rcases hor with ⟨ho,rfl⟩ | ⟨ho,hov⟩
      ·have Hor := Lib.hid (Or.inr (by rw [Hpx.out,Hx.out]; exact ho) : q = 0 ∨ ordB (ldAt l (q - 1)) (ldAt l q) = true)
       clear ho hq0
       as_aux_lemma =>
       have HB9 := Lib.hid (HB8.out.ext E94)
       have HN9 := Lib.hid (HN8.out.ext E94)
       have HE9 := Lib.hid (HE8.out.trans E94)
       have yb := HB9.out.cell
       clear E94
       have cs := HN9.out.cell hna
       rw [Hs1.out] at cs
       go_upto_region 16 with (fail)
       refine wp_region_tail 9 (by kernel_rfl) (by kernel_rfl) ?_
       simp only [List.take_succ_cons,List.take_zero,List.drop_succ_cons,List.drop_zero]
       repeat (go_big_quiet_step (fail))
       refine wpQuiet_nil ?_
       intro W10 hW10
       have E10 : Ext W14 W10 := by
        obtain ⟨x,rfl⟩ := hW10
        exact (Ext.refl _).grow x
       clear hW10
       obtain ⟨hcW10,hfW10,hzW10⟩ := ext_facts E10
       clear hcW10 hfW10 hzW10 yb cs
       have N10 := HN9.out.ext E10
       have cs := N10.cell hna
       rw [Hs1.out] at cs
       have fs := Blk.frozen N10 na
       have HN11 := Lib.hid (N10.set_ na (s1 - c))
       have HE11 := Lib.hid ((HE9.out.trans E10).setCell (p := ⟨SM,na,none⟩) (by have := HSM.out; show W5.heap.size ≤ SM; omega) (.int .i64 (s1 - c)))
       have HB11 := Lib.hid (Blk.far (HB9.out.ext E10) (p := ⟨SM,na,none⟩) (fun e => by have h7 := Blk.types (e ▸ HB9.out.ext E10) N10; exact absurd h7 (by decide)) (.int .i64 (s1 - c)))
       obtain ⟨W11,hW11⟩ : ∃ W,W10.setCell ⟨SM,na,none⟩ (.int .i64 (s1 - c)) = W := ⟨_,rfl⟩
       rw [hW11] at HN11 HE11 HB11
       have yb := HB11.out.cell
       clear N10 E10
       by_cases hb : b = -1
       ·subst hb
        have e1 : ((-1 : Int) == -1) = true := rfl
        have cgr := HGc.out W11 HE11.out
        cases gb
        ·have Hb := Lib.hid (carry_bad (wt := wt) hqt (ldOk_m (n := k) (gr := grF gl) (cap := cap) (by rw [Hx.out]; unfold mayB; rw [if_pos rfl]; exact Hgf.out)))
         have HE9 := Lib.hid (HE5.out.trans HE11.out)
         go_wp2_with fail
         go_ret
         exact ⟨by rw [Hb.out]; rfl,HE9.out⟩
        ·have hst : sumsK wt l (q + 1) = setN (sumsK wt l q) na (s1 - c) := by
          rw [← Hs1.out]
          show ldStep (sumsK wt l q) (ldAt l q) = _
          rw [Hx.out]
          unfold ldStep
          rw [if_pos rfl]
          rfl
         have Hok2 := Lib.hid (show ∀ i,i < q + 1 → ldOk k (grF gl) cap l i = true from fun i hi => by
          rcases Nat.lt_or_ge i q with h' | h'
          ·exact Hok.out i h'
          ·obtain rfl : i = q := by omega
           exact ldOk_good HB.out Hor.out (by rw [Hx.out]; unfold mayB; rw [if_pos rfl]; exact Hgf.out))
         have HNn := Lib.hid HN11.out
         rw [← hst] at HNn
         clear hst
         go_wp2_with fail
         go_roundw
         case rel => exact ⟨q + 1,by omega,by go_num,HNn.out,HE11.out,Hok2⟩
         case measure => simp only [intOf]; omega
       ·have e1 : (b == -1) = false := beq_eq_false_iff_ne.2 hb
        obtain ⟨nb,rfl⟩ : ∃ m : Nat,b = m := ⟨b.toNat,by omega⟩
        have hnb : nb < k := by omega
        have hne : nb ≠ na := fun e => a5 (by rw [e])
        have m0 : (0 : Int) ≤ nb := by omega
        have m1 : (nb : Int) < k := by omega
        have m40 : (nb : Int) < 40 := by omega
        have cM := (HM.out.ext HE11.out).cell (a := na) (b := nb) (by omega) (by omega)
        rw [Hfv.out na hna nb hnb] at cM
        obtain ⟨cv,hcv⟩ : ∃ x,cap na nb = x := ⟨_,rfl⟩
        rw [hcv] at cM
        have Hcv := Lib.hid hcv
        have hmay : mayB (grF gl) cap (ldAt l q) = decide (c ≤ cv) := by
         rw [Hx.out]
         unfold mayB
         rw [if_neg (show ¬ (nb : Int) = -1 by omega),← hcv]
         rfl
        have Hmay := Lib.hid hmay
        clear hcv hmay
        go_upto_region 20 with (fail)
        clear cs fs hW11
        refine wp_region_grow (by kernel_rfl) (by kernel_rfl) ?_
        repeat (go_big_quiet_step (fail))
        refine wpQuiet_nil ?_
        intro W12 hW12
        have E12 : Ext W11 W12 := by
         obtain ⟨x,rfl⟩ := hW12
         exact (Ext.refl _).grow x
        clear hW12
        obtain ⟨hcW12,hfW12,hzW12⟩ := ext_facts E12
        clear hcW12 hfW12 hzW12 yb cM
        by_cases hcc : c > cv
        ·have Hb := Lib.hid (carry_bad (wt := wt) hqt (ldOk_m (n := k) (gr := grF gl) (cap := cap) (by rw [Hmay.out]; exact decide_eq_false (by omega))))
         have HE12 := Lib.hid (HE11.out.trans E12)
         clear E12
         have HE9 := Lib.hid (HE5.out.trans HE12.out)
         go_wp2_with fail
         go_ret
         exact ⟨by rw [Hb.out]; rfl,HE9.out⟩
        ·have hcc2 : ¬ c > cv := hcc
         have HN12 := Lib.hid (HN11.out.ext E12)
         have HE12 := Lib.hid (HE11.out.trans E12)
         have yb := (HB11.out.ext E12).cell
         have hs2 := Hbd.out nb hnb
         obtain ⟨s2,hs2e⟩ : ∃ x,sumsK wt l q nb = x := ⟨_,rfl⟩
         rw [hs2e] at hs2
         obtain ⟨sl3,sl4⟩ := hs2
         have Hs2 := Lib.hid (show setN (sumsK wt l q) na (s1 - c) nb = s2 by unfold setN; rw [if_neg hne,hs2e])
         have Hok2 := Lib.hid (show ∀ i,i < q + 1 → ldOk k (grF gl) cap l i = true from fun i hi => by
          rcases Nat.lt_or_ge i q with h' | h'
          ·exact Hok.out i h'
          ·obtain rfl : i = q := by omega
           exact ldOk_good HB.out Hor.out (by rw [Hmay.out]; exact decide_eq_true (by omega)))
         have HB12 := Lib.hid (HB11.out.ext E12)
         clear E12 hs2e
         have cs := HN12.out.cell hnb
         rw [Hs2.out] at cs
         go_upto_region 22 with (fail)
         refine wp_region_tail 9 (by kernel_rfl) (by kernel_rfl) ?_
         simp only [List.take_succ_cons,List.take_zero,List.drop_succ_cons,List.drop_zero]
         repeat (go_big_quiet_step (fail))
         refine wpQuiet_nil ?_
         intro W13 hW13
         have E13 : Ext W12 W13 := by
          obtain ⟨x,rfl⟩ := hW13
          exact (Ext.refl _).grow x
         clear hW13
         obtain ⟨hcW13,hfW13,hzW13⟩ := ext_facts E13
         clear hcW13 hfW13 hzW13 yb cs
         have N13 := HN12.out.ext E13
         have cs := N13.cell hnb
         rw [Hs2.out] at cs
         have fs := Blk.frozen N13 nb
         have hst : sumsK wt l (q + 1) = setN (setN (sumsK wt l q) na (s1 - c)) nb (s2 + c) := by
          rw [← Hs2.out,← Hs1.out]
          show ldStep (sumsK wt l q) (ldAt l q) = _
          rw [Hx.out]
          unfold ldStep
          rw [if_neg (show ¬ (nb : Int) = -1 by omega)]
          rfl
         have HN14 := Lib.hid (N13.set_ nb (s2 + c))
         rw [← hst] at HN14
         have HE14 := Lib.hid ((HE12.out.trans E13).setCell (p := ⟨SM,nb,none⟩) (by have := HSM.out; show W5.heap.size ≤ SM; omega) (.int .i64 (s2 + c)))
         clear N13 E13 hst
         go_wp2_with fail
         go_roundw
         case rel => exact ⟨q + 1,by omega,by go_num,HN14.out,HE14.out,Hok2⟩
         case measure => simp only [intOf]; omega
      ·have Hb := Lib.hid (carry_bad (wt := wt) hqt (ldOk_o (n := k) (gr := grF gl) (cap := cap) hq0 (by rw [Hpx.out,Hx.out]; exact ho)))
       have hge : ov ≥ 0 := hov
       have HE94 := Lib.hid (HE8.out.trans E94)
       clear E94 ho
       have HE9 := Lib.hid (HE5.out.trans HE94.out)
       go_wp2_with fail
       go_ret
       exact ⟨by rw [Hb.out]; rfl,HE9.out⟩
    ·obtain rfl : q = l.length := by omega
     have hres : carryB k (grF gl) cap wt l = !nzB ((List.range k).map (sumsK wt l l.length)) := by
      unfold carryB
      rw [allR_good Hok.out,nzB_range]
      simp
     have CF := contF_c (some ⟨SM,0,none⟩) k ((List.range k).map (sumsK wt l l.length)) wr ((NRow.num NS).slice (by simp) (by unfold maxLen; omega))
     rw [List.length_map,List.length_range] at CF
     obtain ⟨nz,hnz⟩ : ∃ b,nzB ((List.range k).map (sumsK wt l l.length)) = b := ⟨_,rfl⟩
     rw [hnz] at CF hres
     have Hres := Lib.hid hres
     have HE9 := Lib.hid (HE5.out.trans Er)
     clear hres hnz NS Er
     go_wp2_with fail
     refine CF.mono ?_
     rintro e W9 ⟨rfl,E9⟩
     go_wp2_with fail
     go_ret
     exact ⟨by rw [Hres.out]; rfl,HE9.out.trans E9⟩
end Go.Proofs.YtjacbhomhjoolaaGreat
