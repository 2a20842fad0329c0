
/- Loads, plain and in memory: whether they carry, as both sides compute it. -/
import Derived.Test.YtjacbhomhjoolaaGreatBWayS
import Derived.Test.YtjacbhomhjoolaaGreatBOrd
namespace Go.Proofs.YtjacbhomhjoolaaGreat
open Go.RowKit

structure Ld where
 src : Int
 dst : Int
 amt : Int
def Ld.cs (x : Ld) : List Value := [.int .i64 x.src,.int .i64 x.dst,.int .i64 x.amt]
def Lds (w : World) (A : Option Addr) (cap : Nat) (l : List Ld) : Prop := SliceIs w A l.length cap 3 (l.map Ld.cs)
def ldAt (l : List Ld) (i : Nat) : Ld := l.getD i ⟨0,0,0⟩
theorem ldAt_eq {l : List Ld} {i : Nat} {x : Ld} (h : l[i]? = some x) : ldAt l i = x := by
 unfold ldAt
 rw [List.getD_eq_getElem?_getD,h]
 rfl
theorem ldAt_get {l : List Ld} {i : Nat} (h : i < l.length) : l[i]? = some (ldAt l i) := by
 rw [ldAt_eq (List.getElem?_eq_getElem h)]
 exact List.getElem?_eq_getElem h
section
variable {w w' : World} {A : Option Addr} {cap : Nat} {l : List Ld}
theorem Lds.ext (h : Lds w A cap l) (E : Ext w w') : Lds w' A cap l := SliceIs.ext h E
theorem Lds.len (h : Lds w A cap l) : l.length ≤ maxLen := Nat.le_trans h.le h.small
theorem Lds.at_ (h : Lds w A cap l) {k : Nat} (hk : k < l.length) : ∃ b off,A = some ⟨b,off,none⟩ ∧ b < w.heap.size ∧ w.cell? ⟨b,off + k * 3,none⟩ = some (.int .i64 (ldAt l k).src) ∧ w.cell? ⟨b,off + k * 3 + 1,none⟩ = some (.int .i64 (ldAt l k).dst) ∧ w.cell? ⟨b,off + k * 3 + 2,none⟩ = some (.int .i64 (ldAt l k).amt) := by
 obtain ⟨b,off,hA,hb,hc⟩ := SliceIs.cells h (by omega)
 have hr : (l.map Ld.cs)[k]? = some (ldAt l k).cs := by rw [List.getElem?_map,ldAt_get hk]; rfl
 exact ⟨b,off,hA,hb,hc k _ hr 0 _ rfl,hc k _ hr 1 _ rfl,hc k _ hr 2 _ rfl⟩
end
def ldB (n : Nat) (x : Ld) : Bool := inB 0 ((n : Int) - 1) x.src && inB (-1) ((n : Int) - 1) x.dst && !(x.dst == x.src) && inB 1 1073741824 x.amt
def ordB (y x : Ld) : Bool := decide (y.src < x.src) || (decide (y.src = x.src) && decide (y.dst < x.dst))
def mayB (gr : Nat → Bool) (cap : Nat → Nat → Int) (x : Ld) : Bool := if x.dst = -1 then gr x.src.toNat else decide (x.amt ≤ cap x.src.toNat x.dst.toNat)
def ldOk (n : Nat) (gr : Nat → Bool) (cap : Nat → Nat → Int) (l : List Ld) (i : Nat) : Bool := ldB n (ldAt l i) && (decide (i = 0) || ordB (ldAt l (i - 1)) (ldAt l i)) && mayB gr cap (ldAt l i)
def ldStep (f : Nat → Int) (x : Ld) : Nat → Int := if x.dst = -1 then setN f x.src.toNat (f x.src.toNat - x.amt) else setN (setN f x.src.toNat (f x.src.toNat - x.amt)) x.dst.toNat (setN f x.src.toNat (f x.src.toNat - x.amt) x.dst.toNat + x.amt)
def sumsK (wt : Nat → Int) (l : List Ld) : Nat → Nat → Int
 | 0 => wt
 | k + 1 => ldStep (sumsK wt l k) (ldAt l k)
def carryB (n : Nat) (gr : Nat → Bool) (cap : Nat → Nat → Int) (wt : Nat → Int) (l : List Ld) : Bool := allR l.length (ldOk n gr cap l) && allR n fun v => sumsK wt l l.length v == 0
theorem ldB_iff {n : Nat} {x : Ld} : ldB n x = true ↔ (0 ≤ x.src ∧ x.src < n) ∧ (-1 ≤ x.dst ∧ x.dst < n) ∧ x.dst ≠ x.src ∧ 1 ≤ x.amt ∧ x.amt ≤ 1073741824 := by
 unfold ldB
 simp only [Bool.and_eq_true,inB_iff,Bool.not_eq_true',beq_eq_false_iff_ne]
 constructor
 ·rintro ⟨⟨⟨h1,h2⟩,h3⟩,h4⟩
  exact ⟨by omega,by omega,h3,h4⟩
 ·rintro ⟨h1,h2,h3,h4⟩
  exact ⟨⟨⟨by omega,by omega⟩,h3⟩,h4⟩
theorem ordB_or (y x : Ld) : (ordB y x = true ∧ orL [ordZ y.src x.src,ordZ y.dst x.dst] = -1) ∨ (ordB y x = false ∧ 0 ≤ orL [ordZ y.src x.src,ordZ y.dst x.dst]) := by
 unfold ordB orL
 rcases Int.lt_trichotomy y.src x.src with h | h | h
 ·left
  rw [ordZ_lt h]
  simp [h]
 ·rw [ordZ_eq h,if_pos rfl]
  unfold orL
  rcases Int.lt_trichotomy y.dst x.dst with h2 | h2 | h2
  ·left
   rw [ordZ_lt h2]
   simp [h,h2]
  ·right
   rw [ordZ_eq h2,if_pos rfl]
   unfold orL
   simp [h,h2]
  ·right
   rw [ordZ_gt h2]
   simp [h]
   omega
 ·right
  rw [ordZ_gt h]
  simp
  omega
section
variable {n : Nat} {gr : Nat → Bool} {cap : Nat → Nat → Int} {wt : Nat → Int} {l : List Ld} {i : Nat}
theorem carry_bad (hi : i < l.length) (h : ldOk n gr cap l i = false) : carryB n gr cap wt l = false := by
 unfold carryB
 rw [allR_bad hi h,Bool.false_and]
theorem ldOk_b (h : ldB n (ldAt l i) = false) : ldOk n gr cap l i = false := by
 unfold ldOk
 rw [h]
 rfl
theorem ldOk_o (h0 : i ≠ 0) (h : ordB (ldAt l (i - 1)) (ldAt l i) = false) : ldOk n gr cap l i = false := by
 unfold ldOk
 rw [h,decide_eq_false h0]
 simp
theorem ldOk_m (h : mayB gr cap (ldAt l i) = false) : ldOk n gr cap l i = false := by
 unfold ldOk
 rw [h,Bool.and_false]
theorem ldOk_good (h1 : ldB n (ldAt l i) = true) (h2 : i = 0 ∨ ordB (ldAt l (i - 1)) (ldAt l i) = true) (h3 : mayB gr cap (ldAt l i) = true) : ldOk n gr cap l i = true := by
 unfold ldOk
 rw [h1,h3]
 rcases h2 with h | h
 ·simp [h]
 ·simp [h]
theorem ldStep_bd {f : Nat → Int} {x : Ld} (hx : ldB n x = true) {lo hi : Int} (h : ∀ v,v < n → lo ≤ f v ∧ f v ≤ hi) : ∀ v,v < n → lo - 1073741824 ≤ ldStep f x v ∧ ldStep f x v ≤ hi + 1073741824 := by
 obtain ⟨h1,h2,h3,h4⟩ := ldB_iff.1 hx
 intro v hv
 have hv' := h v hv
 have hs := h x.src.toNat (by omega)
 unfold ldStep
 split
 ·unfold setN
  split <;> omega
 ·rename_i hd
  have hdd := h x.dst.toNat (by omega)
  have hne : x.dst.toNat ≠ x.src.toNat := by omega
  unfold setN
  rw [if_neg hne]
  split
  ·omega
  ·split <;> omega
theorem sums_bd (hw : ∀ v,v < n → 0 ≤ wt v ∧ wt v ≤ 100) : ∀ k,(∀ i,i < k → ldB n (ldAt l i) = true) → ∀ v,v < n → -(1073741824 * (k : Int)) ≤ sumsK wt l k v ∧ sumsK wt l k v ≤ 100 + 1073741824 * (k : Int)
 | 0,_,v,hv => by
  have := hw v hv
  unfold sumsK
  omega
 | k + 1,h,v,hv => by
  have := ldStep_bd (h k (by omega)) (sums_bd hw k fun i hi => h i (by omega)) v hv
  unfold sumsK
  omega
end
end Go.Proofs.YtjacbhomhjoolaaGreat
