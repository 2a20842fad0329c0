
/- Joints and groups of the program, all cases. Condition: at most 100000 links. -/
import Derived.Test.YtjacbhomhjoolaaGreatBJoints
import Derived.Test.YtjacbhomhjoolaaGreatBGroups
namespace Go.Proofs.YtjacbhomhjoolaaGreat
open Go.RowKit

def jointR (ks : List Knd) (bs : List Brk) : List Jnt := if checkErr ks bs = 0 then jointL ks bs else []
def groupR (ks : List Knd) (bs : List Brk) : List Int := if checkErr ks bs = 0 then natZ (groupL (linkL ks bs) bs.length) else []
theorem ints_nil (w : World) : IntsZ w none 0 [] := ⟨rfl,Nat.le_refl _,Nat.zero_le _,by simp,fun h => by cases h⟩
set_option maxHeartbeats 1600000 in
theorem joints_c (qs : List (Knd × KAt)) (QA : Option Addr) (qc : Nat) (bs : List Brk) (B : Option Addr) (cb : Nat) (w : World) (hk : Kinds w QA qc qs) (hb : Bricks w B cb bs) (hlen : checkErr (qs.map (·.1)) bs = 0 → (linkL (qs.map (·.1)) bs).length ≤ 100000) :
  Calls Tryz.prog 10 #[.slice QA qs.length qc,.agg #[.slice B bs.length cb]] w (JntRes (jointR (qs.map (·.1)) bs) (checkErr (qs.map (·.1)) bs) w) := by
 by_cases h0 : checkErr (qs.map (·.1)) bs = 0
 ·have h := jointsG_c qs QA qc bs B cb w hk hb h0 (hlen h0)
  unfold jointR
  rw [if_pos h0,h0]
  exact h
 obtain ⟨W1,hW1,E1,B1,hz1⟩ := mk_ w #[.slice B bs.length cb] 25
 have b1 := B1.cell
 clear hz1
 have CK := checkM_c qs QA qc bs B cb W1 (hk.ext E1) (hb.ext E1)
 obtain ⟨r,hr⟩ : ∃ r,checkErr (qs.map (·.1)) bs = r := ⟨_,rfl⟩
 rw [hr] at CK h0 ⊢
 have Hl := Lib.hid (show jointR (qs.map (·.1)) bs = [] from if_neg (by rw [hr]; exact h0))
 rw [Hl.out]
 have h1 : (r != 0) = true := by simpa using h0
 clear hr h0 hk hb Hl hlen
 go_enter Tryz.func10,Tryz.ntmps10
 go_wp2_with fail
 refine CK.mono ?_
 rintro e W2 ⟨rfl,E2⟩
 go_wp2_with fail
 go_ret2
 exact JntRes_nil (E1.trans E2)
set_option maxHeartbeats 1600000 in
theorem jointsA_c (qs : List (Knd × KAt)) (QA : Option Addr) (qc : Nat) (bs : List Brk) (B : Option Addr) (cb : Nat) (w : World) (hk : Kinds w QA qc qs) (hb : Bricks w B cb bs) (hlen : checkErr (qs.map (·.1)) bs = 0 → (linkL (qs.map (·.1)) bs).length ≤ 100000) :
  Calls Tryz.prog 10 #[.slice QA qs.length qc,.agg #[.slice B bs.length cb]] w (JntOwn (jointR (qs.map (·.1)) bs) (checkErr (qs.map (·.1)) bs) w) := by
 by_cases h0 : checkErr (qs.map (·.1)) bs = 0
 ·have h := jointsO_c qs QA qc bs B cb w hk hb h0 (hlen h0)
  unfold jointR
  rw [if_pos h0,h0]
  exact h
 obtain ⟨W1,hW1,E1,B1,hz1⟩ := mk_ w #[.slice B bs.length cb] 25
 have b1 := B1.cell
 clear hz1
 have CK := checkM_c qs QA qc bs B cb W1 (hk.ext E1) (hb.ext E1)
 obtain ⟨r,hr⟩ : ∃ r,checkErr (qs.map (·.1)) bs = r := ⟨_,rfl⟩
 rw [hr] at CK h0 ⊢
 have Hl := Lib.hid (show jointR (qs.map (·.1)) bs = [] from if_neg (by rw [hr]; exact h0))
 rw [Hl.out]
 have h1 : (r != 0) = true := by simpa using h0
 clear hr h0 hk hb Hl hlen
 go_enter Tryz.func10,Tryz.ntmps10
 go_wp2_with fail
 refine CK.mono ?_
 rintro e W2 ⟨rfl,E2⟩
 go_wp2_with fail
 go_ret2
 exact JntOwn_nil (E1.trans E2)
end Go.Proofs.YtjacbhomhjoolaaGreat
