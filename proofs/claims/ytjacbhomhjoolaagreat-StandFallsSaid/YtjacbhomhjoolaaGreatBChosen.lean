
/- Indices in increasing order, and whether a list has a number: the program's and the reference's. No conditions. -/
import Derived.Test.YtjacbhomhjoolaaGreatBSame
import Derived.Test.YtjacbhomhjoolaaGreatBTurnB
namespace Go.Proofs.YtjacbhomhjoolaaGreat
open Go.RowKit

def chOk (l : List Int) (n : Int) (i : Nat) : Bool := inB 0 (n - 1) (intAt l i) && (decide (i = 0) || decide (intAt l (i - 1) < intAt l i))
def chosenB (l : List Int) (n : Int) : Bool := allR l.length (chOk l n)
theorem chosen_bad {l : List Int} {n : Int} {k : Nat} (hk : k < l.length) (h : chOk l n k = false) : chosenB l n = false := allR_bad hk h
theorem chosen_good {l : List Int} {n : Int} (h : ∀ j,j < l.length → chOk l n j = true) : chosenB l n = true := allR_good h
theorem chOk_out {l : List Int} {n : Int} {k : Nat} {p : Int} (hp : l[k]? = some p) (h : ¬ (0 ≤ p ∧ p < n)) : chOk l n k = false := by
 unfold chOk
 rw [intAt_eq hp,inB_not.2 (by omega),Bool.false_and]
theorem chOk_zero {l : List Int} {n : Int} {p : Int} (hp : l[0]? = some p) (h : 0 ≤ p ∧ p < n) : chOk l n 0 = true := by
 unfold chOk
 rw [intAt_eq hp,inB_iff.2 (by omega)]
 rfl
theorem chOk_next {l : List Int} {n : Int} {k : Nat} {p r : Int} (hp : l[k]? = some p) (hk : k ≠ 0) (hr : l[k - 1]? = some r) (h : 0 ≤ p ∧ p < n) : chOk l n k = decide (r < p) := by
 unfold chOk
 rw [intAt_eq hp,intAt_eq hr,inB_iff.2 (by omega),decide_eq_false hk,Bool.true_and,Bool.false_or]
def hasZ (l : List Int) (n : Int) : Bool := l.any fun x => x == n
theorem hasZ_drop {l : List Int} {p q : Int} {k : Nat} (h : l[k]? = some q) : hasZ (l.drop k) p = (q == p || hasZ (l.drop (k + 1)) p) := by
 obtain ⟨hk,hn⟩ := List.getElem?_eq_some_iff.1 h
 rw [List.drop_eq_getElem_cons hk,hn]
 rfl
theorem hasZ_none {l : List Int} {p : Int} {k : Nat} (h : l.length ≤ k) : hasZ (l.drop k) p = false := by
 rw [List.drop_of_length_le h]
 rfl
theorem within3_c (n lo hi : Int) (w : World) : Calls Tryz.prog 88 #[.int .i64 n,.int .i64 lo,.int .i64 hi] w fun e w' => e = .returned (.bool (inB lo hi n)) ∧ Ext w w' := by
 by_cases h1 : lo ≤ n
 ·by_cases h2 : n ≤ hi
  ·have Hv := Lib.hid (inB_iff.2 ⟨h1,h2⟩)
   have h3 : n ≥ lo := h1
   go_enter Tryz.func88,Tryz.ntmps88
   go_wp2_with fail
   go_ret
   exact ⟨by rw [Hv.out]; rfl,Ext.refl w⟩
  ·have Hv := Lib.hid (inB_not (lo := lo) (hi := hi) (n := n) |>.2 (fun h => h2 h.2))
   go_enter Tryz.func88,Tryz.ntmps88
   go_wp2_with fail
   go_ret
   exact ⟨by rw [Hv.out]; rfl,Ext.refl w⟩
 ·have Hv := Lib.hid (inB_not (lo := lo) (hi := hi) (n := n) |>.2 (fun h => h1 h.1))
  go_enter Tryz.func88,Tryz.ntmps88
  go_wp2_with fail
  go_ret
  exact ⟨by rw [Hv.out]; rfl,Ext.refl w⟩
set_option maxHeartbeats 1600000 in
theorem rIn_c (A : Option Addr) (ca : Nat) (l : List Int) (n : Int) (w : World) (hs : IntsZ w A ca l) :
  Calls Tryz.prog 96 #[.slice A l.length ca,.int .i64 n] w fun e w' => e = .returned (.bool (hasZ l n)) ∧ Ext w w' := by
 have hl : l.length ≤ 9223372036854775807 := by have := hs.len; unfold maxLen at this; omega
 go_enter Tryz.func96,Tryz.ntmps96
 go_wp2_with fail
 go_loopw [5] (fun i wr => ∃ k : Nat,k ≤ l.length ∧ i = .int .i64 k ∧ Hid (hasZ l n = hasZ (l.drop k) n) ∧ Ext w wr) (fun i _ => l.length - (intOf i).toNat)
 case atStart => exact ⟨0,by omega,rfl,Lib.hid rfl,Ext.refl w⟩
 case round =>
  obtain ⟨k,hk,rfl,Hj,E⟩ := hrel
  by_cases hlt : k < l.length
  ·obtain ⟨g,off,q,rfl,hq,hg,c0⟩ := hs.at_ hlt
   have e0 := E.cell c0
   have hle := hs.le
   clear c0
   have Hd := Lib.hid (hasZ_drop (p := n) hq)
   clear hq
   have i1 : (0 : Int) ≤ k := by omega
   have i2 : (k : Int) < l.length := by omega
   have i3 : (k : Int) < ca := by omega
   obtain ⟨r,hr⟩ : ∃ r,(q == n) = r := ⟨_,rfl⟩
   have hr2 : (q == n) = r := hr
   have Hr := Lib.hid hr
   skip
   cases r
   ·skip
    go_wp2_with fail
    go_roundw
    case rel => exact ⟨k + 1,by omega,by go_num,Lib.hid (by rw [Hj.out,Hd.out,Hr.out]; rfl),E⟩
    case measure => simp [intOf]; omega
   ·skip
    go_wp2_with fail
    go_ret
    exact ⟨by rw [Hj.out,Hd.out,Hr.out]; rfl,E⟩
  ·obtain rfl : k = l.length := by omega
   go_wp2_with fail
   go_ret
   exact ⟨by rw [Hj.out,hasZ_none (Nat.le_refl _)]; rfl,E⟩
def IdxZ (b : Bool) (w : World) (e : Ending) (w' : World) : Prop := ∃ v : Int,e = .returned (.int .i64 v) ∧ decide (0 ≤ v) = b ∧ Ext w w'
set_option maxHeartbeats 1600000 in
theorem idxZ_c (A : Option Addr) (ca : Nat) (l : List Int) (n : Int) (w : World) (hs : IntsZ w A ca l) :
  Calls Tryz.prog 92 #[.slice A l.length ca,.int .i64 n] w (IdxZ (hasZ l n) w) := by
 have hl : l.length ≤ 9223372036854775807 := by have := hs.len; unfold maxLen at this; omega
 go_enter Tryz.func92,Tryz.ntmps92
 go_wp2_with fail
 go_loopw [8] (fun i wr => ∃ k : Nat,k ≤ l.length ∧ i = .int .i64 k ∧ Hid (hasZ l n = hasZ (l.drop k) n) ∧ Ext w wr) (fun i _ => l.length - (intOf i).toNat)
 case atStart => exact ⟨0,by omega,rfl,Lib.hid rfl,Ext.refl w⟩
 case round =>
  obtain ⟨k,hk,rfl,Hj,E⟩ := hrel
  by_cases hlt : k < l.length
  ·obtain ⟨g,off,q,rfl,hq,hg,c0⟩ := hs.at_ hlt
   have e0 := E.cell c0
   have hle := hs.le
   clear c0
   have Hd := Lib.hid (hasZ_drop (p := n) hq)
   clear hq
   have i1 : (0 : Int) ≤ k := by omega
   have i2 : (k : Int) < l.length := by omega
   have i3 : (k : Int) < ca := by omega
   obtain ⟨r,hr⟩ : ∃ r,(q == n) = r := ⟨_,rfl⟩
   have hr2 : (n == q) = r := (Bool.beq_comm.symm.trans hr)
   have Hr := Lib.hid hr
   skip
   cases r
   ·skip
    go_wp2_with fail
    go_roundw
    case rel => exact ⟨k + 1,by omega,by go_num,Lib.hid (by rw [Hj.out,Hd.out,Hr.out]; rfl),E⟩
    case measure => simp [intOf]; omega
   ·skip
    go_wp2_with fail
    go_ret
    exact ⟨k,rfl,by rw [Hj.out,Hd.out,Hr.out]; simp,E⟩
  ·obtain rfl : k = l.length := by omega
   go_wp2_with fail
   go_ret
   exact ⟨-1,rfl,by rw [Hj.out,hasZ_none (Nat.le_refl _)]; rfl,E⟩
theorem contZ_c (A : Option Addr) (ca : Nat) (l : List Int) (n : Int) (w : World) (hs : IntsZ w A ca l) :
  Calls Tryz.prog 66 #[.slice A l.length ca,.int .i64 n] w fun e w' => e = .returned (.bool (hasZ l n)) ∧ Ext w w' := by
 go_enter Tryz.func66,Tryz.ntmps66
 go_wp2_with fail
 refine (idxZ_c A ca l n _ hs).mono ?_
 rintro e w2 ⟨v,rfl,hv,E2⟩
 have Hv := Lib.hid hv
 clear hv
 go_wp2_with fail
 go_ret
 exact ⟨by rw [← Hv.out]; rfl,E2⟩
set_option maxHeartbeats 3200000 in
theorem chosen_c (A : Option Addr) (ca : Nat) (l : List Int) (n : Int) (w : World) (hs : IntsZ w A ca l) :
  Calls Tryz.prog 63 #[.slice A l.length ca,.int .i64 n] w fun e w' => e = .returned (.bool (chosenB l n)) ∧ Ext w w' := by
 have hl : l.length ≤ 9223372036854775807 := by have := hs.len; unfold maxLen at this; omega
 go_enter Tryz.func63,Tryz.ntmps63
 go_wp2_with fail
 go_loopw [9] (fun i wr => ∃ k : Nat,k ≤ l.length ∧ i = .int .i64 k ∧ Hid (∀ j,j < k → chOk l n j = true) ∧ Ext w wr) (fun i _ => l.length - (intOf i).toNat)
 case atStart => exact ⟨0,by omega,rfl,Lib.hid (fun j hj => by omega),Ext.refl w⟩
 case round =>
  obtain ⟨k,hk,rfl,Hj,E⟩ := hrel
  by_cases hlt : k < l.length
  ·obtain ⟨g,off,q,rfl,hq,hg,c0⟩ := hs.at_ hlt
   have e0 := E.cell c0
   have hle := hs.le
   have Hq := Lib.hid hq
   clear c0 hq
   have i1 : (0 : Int) ≤ k := by omega
   have i2 : (k : Int) < l.length := by omega
   have i3 : (k : Int) < ca := by omega
   by_cases h0 : 0 ≤ q ∧ q < n
   rotate_left
   ·have Hf := Lib.hid (chOk_out Hq.out h0)
    have hin : inB 0 (n - 1) q = false := inB_not.2 (by omega)
    by_cases h1 : q < 0
    ·have h2 : decide (q < 0) = true := by simp; omega
     clear h0
     skip
     go_wp2_with fail
     go_ret
     exact ⟨by rw [chosen_bad hlt Hf.out]; rfl,E⟩
    ·have h2 : decide (q < 0) = false := by simp; omega
     have h3 : n ≤ q := by omega
     have h4 : decide (n ≤ q) = true := by simp; omega
     clear h0
     skip
     go_wp2_with fail
     go_ret
     exact ⟨by rw [chosen_bad hlt Hf.out]; rfl,E⟩
   ·obtain ⟨ha,hb⟩ := h0
    have hin : inB 0 (n - 1) q = true := inB_iff.2 (by omega)
    have h2 : decide (q < 0) = false := by simp; omega
    have h3 : ¬ n ≤ q := by omega
    have h4 : decide (n ≤ q) = false := by simp; omega
    have h5 : ¬ q < 0 := by omega
    by_cases hk0 : k = 0
    ·have Hf := Lib.hid (show chOk l n k = true by have := Hq.out; subst hk0; exact chOk_zero this ⟨ha,hb⟩)
     have q3 : ¬ (0 : Int) < (k : Int) := by omega
     have q4 : decide (0 < k) = false := by simp; omega
     clear hk0
     skip
     go_wp2_with fail
     go_roundw
     case rel => exact ⟨k + 1,by omega,by go_num,Lib.hid (fun j hj => by rcases Nat.lt_or_ge j k with h | h; exact Hj.out j h; rw [show j = k by omega]; exact Hf.out),E⟩
     case measure => simp [intOf]; omega
    ·obtain ⟨g',off',r,hA',hr,hg',c1⟩ := hs.at_ (k := k - 1) (by omega)
     cases hA'
     have e1 := E.cell c1
     have Hf0 := Lib.hid (chOk_next Hq.out hk0 hr ⟨ha,hb⟩)
     clear c1 hr
     have q3 : (0 : Int) < (k : Int) := by omega
     have q4 : decide (0 < k) = true := by simp; omega
     have q5 : decide ((0 : Int) < (k : Int)) = true := by simp; omega
     have ht : ((k : Int) - 1).toNat = k - 1 := by omega
     have hk1 : (1 : Int) ≤ k := by omega
     have q6 : (k : Int) - 1 < l.length := by omega
     have q7 : (0 : Int) ≤ (k : Int) - 1 := by omega
     by_cases hrq : r < q
     ·have g1 : ¬ q ≤ r := by omega
      have g2 : decide (q ≤ r) = false := by simp; omega
      have Hf := Lib.hid (show chOk l n k = true by rw [Hf0.out]; simp; omega)
      clear hk0 hrq
      skip
      go_wp2_with fail
      go_roundw
      case rel => exact ⟨k + 1,by omega,by go_num,Lib.hid (fun j hj => by rcases Nat.lt_or_ge j k with h | h; exact Hj.out j h; rw [show j = k by omega]; exact Hf.out),E⟩
      case measure => simp [intOf]; omega
     ·have g1 : q ≤ r := by omega
      have g2 : decide (q ≤ r) = true := by simp; omega
      have Hf := Lib.hid (show chOk l n k = false by rw [Hf0.out]; simp; omega)
      clear hk0 hrq
      skip
      go_wp2_with fail
      go_ret
      exact ⟨by rw [chosen_bad hlt Hf.out]; rfl,E⟩
  ·obtain rfl : k = l.length := by omega
   go_wp2_with fail
   go_ret
   exact ⟨by rw [chosen_good Hj.out]; rfl,E⟩
set_option maxHeartbeats 3200000 in
theorem rChosen_c (A : Option Addr) (ca : Nat) (l : List Int) (n : Int) (w : World) (hs : IntsZ w A ca l) (hn : 0 ≤ n) (hn2 : n ≤ 1000000) :
  Calls Tryz.prog 67 #[.slice A l.length ca,.int .i64 n] w fun e w' => e = .returned (.bool (chosenB l n)) ∧ Ext w w' := by
 have hl : l.length ≤ 9223372036854775807 := by have := hs.len; unfold maxLen at this; omega
 go_enter Tryz.func67,Tryz.ntmps67
 go_wp2_with fail
 go_loopw [5] (fun i wr => ∃ k : Nat,k ≤ l.length ∧ i = .int .i64 k ∧ Hid (∀ j,j < k → chOk l n j = true) ∧ Ext w wr) (fun i _ => l.length - (intOf i).toNat)
 case atStart => exact ⟨0,by omega,rfl,Lib.hid (fun j hj => by omega),Ext.refl w⟩
 case round =>
  obtain ⟨k,hk,rfl,Hj,E⟩ := hrel
  by_cases hlt : k < l.length
  ·obtain ⟨g,off,q,rfl,hq,hg,c0⟩ := hs.at_ hlt
   have e0 := E.cell c0
   have hle := hs.le
   have Hq := Lib.hid hq
   clear c0 hq
   have i1 : (0 : Int) ≤ k := by omega
   have i2 : (k : Int) < l.length := by omega
   have i3 : (k : Int) < ca := by omega
   by_cases h0 : 0 ≤ q ∧ q < n
   rotate_left
   ·have Hf := Lib.hid (chOk_out Hq.out h0)
    have hin : inB 0 (n - 1) q = false := inB_not.2 (by omega)
    by_cases h1 : q < 0
    ·have h2 : decide (q < 0) = true := by simp; omega
     clear h0
     go_upto_region 4 with (fail)
     refine wp_region_grow (by kernel_rfl) (by kernel_rfl) ?_
     repeat (go_big_quiet_step ((go_at_call 88; exact quiet_ext (within3_c _ _ _ _))))
     refine wpQuiet_nil ?_
     intro W4 hW4
     have E4 : Ext wr W4 := by
      obtain ⟨x,rfl⟩ := hW4
      exact (Ext.refl _).grow x
     clear hW4
     obtain ⟨hcW4,hfW4,hzW4⟩ := ext_facts E4
     go_wp2_with fail
     go_ret
     exact ⟨by rw [chosen_bad hlt Hf.out]; rfl,(E.trans E4)⟩
    ·have h2 : decide (q < 0) = false := by simp; omega
     have h3 : n ≤ q := by omega
     have h4 : decide (n ≤ q) = true := by simp; omega
     clear h0
     go_upto_region 4 with (fail)
     refine wp_region_grow (by kernel_rfl) (by kernel_rfl) ?_
     repeat (go_big_quiet_step ((go_at_call 88; exact quiet_ext (within3_c _ _ _ _))))
     refine wpQuiet_nil ?_
     intro W4 hW4
     have E4 : Ext wr W4 := by
      obtain ⟨x,rfl⟩ := hW4
      exact (Ext.refl _).grow x
     clear hW4
     obtain ⟨hcW4,hfW4,hzW4⟩ := ext_facts E4
     go_wp2_with fail
     go_ret
     exact ⟨by rw [chosen_bad hlt Hf.out]; rfl,(E.trans E4)⟩
   ·obtain ⟨ha,hb⟩ := h0
    have hin : inB 0 (n - 1) q = true := inB_iff.2 (by omega)
    have h2 : decide (q < 0) = false := by simp; omega
    have h3 : ¬ n ≤ q := by omega
    have h4 : decide (n ≤ q) = false := by simp; omega
    have h5 : ¬ q < 0 := by omega
    by_cases hk0 : k = 0
    ·have Hf := Lib.hid (show chOk l n k = true by have := Hq.out; subst hk0; exact chOk_zero this ⟨ha,hb⟩)
     have q3 : ¬ (0 : Int) < (k : Int) := by omega
     have q4 : decide (0 < k) = false := by simp; omega
     clear hk0
     go_upto_region 4 with (fail)
     refine wp_region_grow (by kernel_rfl) (by kernel_rfl) ?_
     repeat (go_big_quiet_step ((go_at_call 88; exact quiet_ext (within3_c _ _ _ _))))
     refine wpQuiet_nil ?_
     intro W4 hW4
     have E4 : Ext wr W4 := by
      obtain ⟨x,rfl⟩ := hW4
      exact (Ext.refl _).grow x
     clear hW4
     obtain ⟨hcW4,hfW4,hzW4⟩ := ext_facts E4
     go_wp2_with fail
     go_roundw
     case rel => exact ⟨k + 1,by omega,by go_num,Lib.hid (fun j hj => by rcases Nat.lt_or_ge j k with h | h; exact Hj.out j h; rw [show j = k by omega]; exact Hf.out),(E.trans E4)⟩
     case measure => simp [intOf]; omega
    ·obtain ⟨g',off',r,hA',hr,hg',c1⟩ := hs.at_ (k := k - 1) (by omega)
     cases hA'
     have e1 := E.cell c1
     have Hf0 := Lib.hid (chOk_next Hq.out hk0 hr ⟨ha,hb⟩)
     clear c1 hr
     have q3 : (0 : Int) < (k : Int) := by omega
     have q4 : decide (0 < k) = true := by simp; omega
     have q5 : decide ((0 : Int) < (k : Int)) = true := by simp; omega
     have ht : ((k : Int) - 1).toNat = k - 1 := by omega
     have hk1 : (1 : Int) ≤ k := by omega
     have q6 : (k : Int) - 1 < l.length := by omega
     have q7 : (0 : Int) ≤ (k : Int) - 1 := by omega
     by_cases hrq : r < q
     ·have g1 : ¬ q ≤ r := by omega
      have g2 : decide (q ≤ r) = false := by simp; omega
      have Hf := Lib.hid (show chOk l n k = true by rw [Hf0.out]; simp; omega)
      clear hk0 hrq
      go_upto_region 4 with (fail)
      refine wp_region_grow (by kernel_rfl) (by kernel_rfl) ?_
      repeat (go_big_quiet_step ((go_at_call 88; exact quiet_ext (within3_c _ _ _ _))))
      refine wpQuiet_nil ?_
      intro W4 hW4
      have E4 : Ext wr W4 := by
       obtain ⟨x,rfl⟩ := hW4
       exact (Ext.refl _).grow x
      clear hW4
      obtain ⟨hcW4,hfW4,hzW4⟩ := ext_facts E4
      go_wp2_with fail
      go_roundw
      case rel => exact ⟨k + 1,by omega,by go_num,Lib.hid (fun j hj => by rcases Nat.lt_or_ge j k with h | h; exact Hj.out j h; rw [show j = k by omega]; exact Hf.out),(E.trans E4)⟩
      case measure => simp [intOf]; omega
     ·have g1 : q ≤ r := by omega
      have g2 : decide (q ≤ r) = true := by simp; omega
      have Hf := Lib.hid (show chOk l n k = false by rw [Hf0.out]; simp; omega)
      clear hk0 hrq
      go_upto_region 4 with (fail)
      refine wp_region_grow (by kernel_rfl) (by kernel_rfl) ?_
      repeat (go_big_quiet_step ((go_at_call 88; exact quiet_ext (within3_c _ _ _ _))))
      refine wpQuiet_nil ?_
      intro W4 hW4
      have E4 : Ext wr W4 := by
       obtain ⟨x,rfl⟩ := hW4
       exact (Ext.refl _).grow x
      clear hW4
      obtain ⟨hcW4,hfW4,hzW4⟩ := ext_facts E4
      go_wp2_with fail
      go_ret
      exact ⟨by rw [chosen_bad hlt Hf.out]; rfl,(E.trans E4)⟩
  ·obtain rfl : k = l.length := by omega
   go_wp2_with fail
   go_ret
   exact ⟨by rw [chosen_good Hj.out]; rfl,E⟩
end Go.Proofs.YtjacbhomhjoolaaGreat
