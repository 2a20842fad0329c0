
/- The excess of chosen bricks, as both sides compute it, plain. -/
import Derived.Test.YtjacbhomhjoolaaGreatBCapS
import Derived.Test.YtjacbhomhjoolaaGreatBChosen
namespace Go.Proofs.YtjacbhomhjoolaaGreat
open Go.RowKit

def wtOf (ks : List Knd) (bs : List Brk) (i : Nat) : Int := (kindAt ks (brkAt bs i).kind.toNat).weight
def excIn (ks : List Knd) (bs : List Brk) (l : List Int) (i : Nat) : Nat → Int → Option Int
 | 0,a => some a
 | k + 1,a => match excIn ks bs l i k a with
  | none => none
  | some b => if hasZ l k = true then some b else if capV ks bs i k = 1073741824 then none else some (b - capV ks bs i k)
def excOut (ks : List Knd) (bs : List Brk) (tab : Int) (hands l : List Int) : Nat → Option Int
 | 0 => some 0
 | q + 1 => match excOut ks bs tab hands l q with
  | none => none
  | some a => if grdB ks bs tab hands (l.getD q 0).toNat = true then none else excIn ks bs l (l.getD q 0).toNat bs.length (a + wtOf ks bs (l.getD q 0).toNat)
section
variable {ks : List Knd} {bs : List Brk} {l hands : List Int} {tab : Int} {i k q : Nat} {a b : Int}
theorem excIn_in (h : excIn ks bs l i k a = some b) (hz : hasZ l k = true) : excIn ks bs l i (k + 1) a = some b := by
 rw [excIn,h]
 exact if_pos hz
theorem excIn_all (h : excIn ks bs l i k a = some b) (hz : hasZ l k = false) (hc : capV ks bs i k = 1073741824) : excIn ks bs l i (k + 1) a = none := by
 rw [excIn,h]
 simp only
 rw [if_neg (by rw [hz]; decide),if_pos hc]
theorem excIn_sub (h : excIn ks bs l i k a = some b) (hz : hasZ l k = false) (hc : capV ks bs i k ≠ 1073741824) : excIn ks bs l i (k + 1) a = some (b - capV ks bs i k) := by
 rw [excIn,h]
 simp only
 rw [if_neg (by rw [hz]; decide),if_neg hc]
theorem excIn_none {m : Nat} (h : excIn ks bs l i k a = none) (hm : k ≤ m) : excIn ks bs l i m a = none := by
 induction m with
 | zero =>
  obtain rfl : k = 0 := by omega
  exact h
 | succ m ih =>
  by_cases e : k = m + 1
  ·rw [← e]; exact h
  ·rw [excIn,ih (by omega)]
theorem excOut_grd (h : excOut ks bs tab hands l q = some a) (hg : grdB ks bs tab hands (l.getD q 0).toNat = true) : excOut ks bs tab hands l (q + 1) = none := by
 rw [excOut,h]
 exact if_pos hg
theorem excOut_next (h : excOut ks bs tab hands l q = some a) (hg : grdB ks bs tab hands (l.getD q 0).toNat = false) : excOut ks bs tab hands l (q + 1) = excIn ks bs l (l.getD q 0).toNat bs.length (a + wtOf ks bs (l.getD q 0).toNat) := by
 rw [excOut,h]
 exact if_neg (by rw [hg]; decide)
theorem excOut_none {m : Nat} (h : excOut ks bs tab hands l q = none) (hm : q ≤ m) : excOut ks bs tab hands l m = none := by
 induction m with
 | zero =>
  obtain rfl : q = 0 := by omega
  exact h
 | succ m ih =>
  by_cases e : q = m + 1
  ·rw [← e]; exact h
  ·rw [excOut,ih (by omega)]
end
def excErr (ks : List Knd) (bs : List Brk) (tab : Int) (hands l : List Int) : Int :=
 if restErr ks bs tab hands = 0 then (if chosenB l bs.length = true then (if (excOut ks bs tab hands l l.length).isSome = true then 0 else 31) else 2) else restErr ks bs tab hands
def excR (ks : List Knd) (bs : List Brk) (tab : Int) (hands l : List Int) : Int :=
 if excErr ks bs tab hands l = 0 then (excOut ks bs tab hands l l.length).getD 0 else 0
theorem chosen_at {l : List Int} {n : Nat} (h : chosenB l n = true) : ∀ q,q < l.length → ∃ p : Nat,l[q]? = some (p : Int) ∧ q ≤ p ∧ p < n := by
 intro q
 induction q with
 | zero =>
  intro hq
  have hc : chOk l n 0 = true := allR_at h hq
  obtain ⟨p,hp⟩ : ∃ p,l[0]? = some p := ⟨_,List.getElem?_eq_getElem hq⟩
  by_cases hb : 0 ≤ p ∧ p < n
  ·exact ⟨p.toNat,by rw [hp,Int.toNat_of_nonneg hb.1],Nat.zero_le _,by omega⟩
  ·rw [chOk_out hp hb] at hc
   cases hc
 | succ q ih =>
  intro hq
  have hc : chOk l n (q + 1) = true := allR_at h hq
  obtain ⟨r,hr,hqr,hrn⟩ := ih (by omega)
  obtain ⟨p,hp⟩ : ∃ p,l[q + 1]? = some p := ⟨_,List.getElem?_eq_getElem hq⟩
  by_cases hb : 0 ≤ p ∧ p < n
  ·rw [chOk_next hp (by omega) hr hb,decide_eq_true_eq] at hc
   exact ⟨p.toNat,by rw [hp,Int.toNat_of_nonneg hb.1],by omega,by omega⟩
  ·rw [chOk_out hp hb] at hc
   cases hc
theorem chosen_len {l : List Int} {n : Nat} (h : chosenB l n = true) : l.length ≤ n := by
 rcases Nat.lt_or_ge 0 l.length with h0 | h0
 ·obtain ⟨p, -,h1,h2⟩ := chosen_at h (l.length - 1) (by omega)
  omega
 ·omega
theorem capV_small {ks : List Knd} {bs : List Brk} (hf : Fit ks bs) (x y : Nat) : capV ks bs x y = 1073741824 ∨ (0 ≤ capV ks bs x y ∧ capV ks bs x y ≤ 96000) := by
 have := strOf_le hf x y
 unfold capV
 split
 ·omega
 ·split
  ·exact Or.inl rfl
  ·omega
end Go.Proofs.YtjacbhomhjoolaaGreat
