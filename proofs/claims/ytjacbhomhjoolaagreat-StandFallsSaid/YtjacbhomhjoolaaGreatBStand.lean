
/- CheckRest, Grounded and Capacity of the program. -/
import Derived.Test.YtjacbhomhjoolaaGreatBCaps
import Derived.Test.YtjacbhomhjoolaaGreatBRested
namespace Go.Proofs.YtjacbhomhjoolaaGreat
open Go.RowKit

def RestAll (qs : List (Knd × KAt)) (QA : Option Addr) (qc : Nat) (bs : List Brk) (B : Option Addr) (cb : Nat) (tab : Int) (hands : List Int) (w : World) (e : Ending) (w' : World) : Prop :=
 (restErr (qs.map (·.1)) bs tab hands = 0 ∧ RestPost qs QA qc bs B cb tab hands w e w') ∨ (restErr (qs.map (·.1)) bs tab hands ≠ 0 ∧ e = .returned (.tuple #[.pointer none,.slice none 0 0,.int .i64 (restErr (qs.map (·.1)) bs tab hands)]) ∧ Ext w w')
theorem rested_c (qs : List (Knd × KAt)) (QA : Option Addr) (qc : Nat) (bs : List Brk) (B : Option Addr) (cb : Nat) (tab : Int) (HA : Option Addr) (hc : Nat) (hands : List Int) (w : World) (hk : Kinds w QA qc qs) (hb : Bricks w B cb bs) (hh : IntsZ w HA hc hands) :
  Calls Tryz.prog 59 #[.slice QA qs.length qc,.agg #[.slice B bs.length cb],.agg #[.int .i64 tab,.slice HA hands.length hc]] w (RestAll qs QA qc bs B cb tab hands w) := by
 by_cases h0 : checkErr (qs.map (·.1)) bs = 0
 ·refine (rested_good qs QA qc bs B cb tab HA hc hands w hk hb hh h0).mono ?_
  rintro e w' (⟨h1,h2⟩ | ⟨h1,h2,E⟩)
  ·exact Or.inl ⟨h1,h2⟩
  ·exact Or.inr ⟨by rw [h1]; decide,by rw [h1]; exact h2,E⟩
 ·refine (rested_bad qs QA qc bs B cb tab HA hc hands w hk hb _ rfl h0).mono ?_
  rintro e w' ⟨h2,E⟩
  have h1 : restErr (qs.map (·.1)) bs tab hands = checkErr (qs.map (·.1)) bs := restErr_check rfl h0
  exact Or.inr ⟨by rw [h1]; exact h0,by rw [h1]; exact h2,E⟩
def grdE (ks : List Knd) (bs : List Brk) (tab : Int) (hands : List Int) : List Bool := if restErr ks bs tab hands = 0 then grdL ks bs tab hands bs.length else []
def GrdPost (ks : List Knd) (bs : List Brk) (tab : Int) (hands : List Int) (w : World) (e : Ending) (w' : World) : Prop :=
 ∃ GA gc,e = .returned (.tuple #[.slice GA (grdE ks bs tab hands).length gc,.int .i64 (restErr ks bs tab hands)]) ∧ BoolsZ w' GA gc (grdE ks bs tab hands) ∧ Ext w w'
def pairBad (n : Nat) (i k : Int) : Bool := !(inB 0 ((n : Int) - 1) i) || !(inB 0 ((n : Int) - 1) k) || i == k
def capErr (ks : List Knd) (bs : List Brk) (i k : Int) : Int := if checkErr ks bs = 0 then (if pairBad bs.length i k = true then 2 else 0) else checkErr ks bs
def capR (ks : List Knd) (bs : List Brk) (i k : Int) : Int := if capErr ks bs i k = 0 then capV ks bs i.toNat k.toNat else 0
end Go.Proofs.YtjacbhomhjoolaaGreat
