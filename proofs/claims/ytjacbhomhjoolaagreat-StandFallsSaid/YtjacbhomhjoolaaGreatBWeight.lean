
/- The weight of a brick, program. -/
import Derived.Test.YtjacbhomhjoolaaGreatBExcS
import Derived.Test.YtjacbhomhjoolaaGreatBStandS
namespace Go.Proofs.YtjacbhomhjoolaaGreat
open Go.RowKit

theorem wt_parts {qs : List (Knd × KAt)} {bs : List Brk} (hf : Fit (qs.map (·.1)) bs) {i : Nat} (hi : i < bs.length) : ∃ (m : Nat) (k : Knd) (p : KAt),(brkAt bs i).kind = m ∧ m < qs.length ∧ qs[m]? = some (k,p) ∧ wtOf (qs.map (·.1)) bs i = k.weight ∧ 1 ≤ k.weight ∧ k.weight ≤ 100 := by
 obtain ⟨m,tn,k,e1,e2,htn,hk,hv,hfi,hp,h1,h2⟩ := hf.b i hi
 rw [List.getElem?_map] at hk
 obtain ⟨⟨k',p⟩,hq,rfl⟩ := Option.map_eq_some_iff.1 hk
 have hm := (List.getElem?_eq_some_iff.1 hq).1
 refine ⟨m,k',p,e1,hm,hq,?_,?_⟩
 ·unfold wtOf kindAt
  rw [e1,Int.toNat_natCast,List.getD_eq_getElem?_getD,List.getElem?_map,hq]
  rfl
 ·have hs : k'.sized = true := by
   unfold Knd.valid at hv
   simp only [Bool.and_eq_true] at hv
   exact hv.1
  have := sized_iff.1 hs
  omega
set_option maxRecDepth 100000 in
set_option maxHeartbeats 4000000 in
theorem weight_c (X : Nat) (qs : List (Knd × KAt)) (QA : Option Addr) (qc : Nat) (bs : List Brk) (B : Option Addr) (cb : Nat) (CA : Option Addr) (cc M : Nat) (JA : Option Addr) (jc : Nat) (gs cp : Nat → Nat) (mm : List (Pt × Int)) (w : World) (h : BuiltAt w X qs QA qc bs B cb CA cc M JA jc gs cp mm) (hk : Kinds w QA qc qs) (hb : Bricks w B cb bs) (hf : Fit (qs.map (·.1)) bs) (i : Nat) (hi : i < bs.length) :
  Calls Tryz.prog 65 #[.pointer (some ⟨X,0,none⟩),.int .i64 i] w fun e w' => e = .returned (.int .i64 (wtOf (qs.map (·.1)) bs i)) ∧ Ext w w' := by
 obtain ⟨m,k,p,e1,hm,hq,hw, -, -⟩ := wt_parts hf hi
 have hn := hf.n
 obtain ⟨g,off,rfl⟩ := bricks_addr hb (by omega)
 obtain ⟨c0, -⟩ := bricks_cell hb hi rfl
 rw [e1] at c0
 obtain ⟨qb,qoff,k',p',rfl,hq', -, -, -, -,c2⟩ := hk.at_ hm
 rw [hq] at hq'
 cases hq'
 have bx := h.x.cell
 have hql : qs.length ≤ 9223372036854775807 := by have := hk.len; unfold maxLen at this; omega
 have i0 : (0 : Int) ≤ i := by omega
 have i1 : (i : Int) < bs.length := by omega
 have m0 : (0 : Int) ≤ m := by omega
 have m1 : (m : Int) < qs.length := by omega
 rw [hw]
 clear h hk hb hf hq e1 hw
 go_enter Tryz.func65,Tryz.ntmps65
 go_upto_region 1 with (fail)
 refine wp_region_grow (by kernel_rfl) (by kernel_rfl) ?_
 repeat (go_big_quiet_step (fail))
 refine wpQuiet_nil ?_
 intro W3 hW3
 have E3 : Ext w W3 := by
  obtain ⟨x,rfl⟩ := hW3
  exact (Ext.refl _).grow x
 clear hW3
 obtain ⟨hcW3,hfW3,hzW3⟩ := ext_facts E3
 clear hcW3 hfW3 hzW3
 go_wp2_with fail
 refine bodyPost_ret (v := .int .i64 k.weight) (by simp [results,Tryz.results65,go_sem]) rfl ⟨rfl,E3⟩
set_option maxRecDepth 100000 in
set_option maxHeartbeats 4000000 in
theorem rWeight_c (qs : List (Knd × KAt)) (QA : Option Addr) (qc : Nat) (bs : List Brk) (B : Option Addr) (cb : Nat) (w : World) (hk : Kinds w QA qc qs) (hb : Bricks w B cb bs) (hf : Fit (qs.map (·.1)) bs) (i : Nat) (hi : i < bs.length) :
  Calls Tryz.prog 95 #[.slice QA qs.length qc,.agg #[.slice B bs.length cb],.int .i64 i] w fun e w' => e = .returned (.int .i64 (wtOf (qs.map (·.1)) bs i)) ∧ Ext w w' := by
 obtain ⟨m,k,p,e1,hm,hq,hw, -, -⟩ := wt_parts hf hi
 have hn := hf.n
 obtain ⟨g,off,rfl⟩ := bricks_addr hb (by omega)
 obtain ⟨W1,hW1,E1,B1,hz1⟩ := mk_ w #[.slice (some ⟨g,off,none⟩) bs.length cb] 25
 obtain ⟨c0, -⟩ := bricks_cell (hb.ext E1) hi rfl
 rw [e1] at c0
 obtain ⟨qb,qoff,k',p',rfl,hq', -, -, -, -,c2⟩ := (hk.ext E1).at_ hm
 rw [hq] at hq'
 cases hq'
 have b1 := B1.cell
 have hql : qs.length ≤ 9223372036854775807 := by have := hk.len; unfold maxLen at this; omega
 have i0 : (0 : Int) ≤ i := by omega
 have i1 : (i : Int) < bs.length := by omega
 have m0 : (0 : Int) ≤ m := by omega
 have m1 : (m : Int) < qs.length := by omega
 have HE := Lib.hid E1
 rw [hw]
 clear hk hb hf hq e1 hw hz1 B1 E1
 go_enter Tryz.func95,Tryz.ntmps95
 go_wp2_with fail
 refine bodyPost_ret (v := .int .i64 k.weight) (by simp [results,Tryz.results95,go_sem]) rfl ⟨rfl,HE.out⟩
end Go.Proofs.YtjacbhomhjoolaaGreat
