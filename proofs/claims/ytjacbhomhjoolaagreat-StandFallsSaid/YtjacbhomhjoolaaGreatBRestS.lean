
/- Rests, plain: errors, and which bricks are on the ground. -/
import Derived.Test.YtjacbhomhjoolaaGreatBStandS
import Derived.Test.YtjacbhomhjoolaaGreatBChosen
namespace Go.Proofs.YtjacbhomhjoolaaGreat
open Go.RowKit

def lowZ (ks : List Knd) (bs : List Brk) (i : Nat) : Int := (ptAt (bcells ks (brkAt bs i)) 0).z
def tabOk (tab : Int) : Bool := inB (-2000) 2000 tab
def restErr (ks : List Knd) (bs : List Brk) (tab : Int) (hands : List Int) : Int :=
 if checkErr ks bs = 0 then (if (tabOk tab && chosenB hands bs.length) = true then (if allR bs.length (fun i => decide (tab ≤ lowZ ks bs i)) = true then 0 else 30) else 30) else checkErr ks bs
def grdB (ks : List Knd) (bs : List Brk) (tab : Int) (hands : List Int) (i : Nat) : Bool := lowZ ks bs i == tab || hasZ hands i
def grdL (ks : List Knd) (bs : List Brk) (tab : Int) (hands : List Int) (n : Nat) : List Bool := (List.range n).map (grdB ks bs tab hands)
theorem grdL_succ (ks : List Knd) (bs : List Brk) (tab : Int) (hands : List Int) (n : Nat) : grdL ks bs tab hands (n + 1) = grdL ks bs tab hands n ++ [grdB ks bs tab hands n] := by
 unfold grdL
 rw [List.range_succ,List.map_append]
 rfl
theorem grdL_len (ks : List Knd) (bs : List Brk) (tab : Int) (hands : List Int) (n : Nat) : (grdL ks bs tab hands n).length = n := by simp [grdL]
section
variable {ks : List Knd} {bs : List Brk} {tab : Int} {hands : List Int}
theorem restErr_check {r : Int} (h : checkErr ks bs = r) (h0 : r ≠ 0) : restErr ks bs tab hands = r := by rw [restErr,h,if_neg h0]
theorem restErr_arg (h : checkErr ks bs = 0) (h0 : (tabOk tab && chosenB hands bs.length) = false) : restErr ks bs tab hands = 30 := by rw [restErr,if_pos h,if_neg (by rw [h0]; decide)]
theorem restErr_low (h : checkErr ks bs = 0) (h0 : (tabOk tab && chosenB hands bs.length) = true) {i : Nat} (hi : i < bs.length) (hl : ¬ tab ≤ lowZ ks bs i) : restErr ks bs tab hands = 30 := by
 rw [restErr,if_pos h,if_pos h0,if_neg]
 rw [allR_bad hi (decide_eq_false hl)]
 decide
theorem restErr_ok (h : checkErr ks bs = 0) (h0 : (tabOk tab && chosenB hands bs.length) = true) (hl : ∀ i,i < bs.length → tab ≤ lowZ ks bs i) : restErr ks bs tab hands = 0 := by
 rw [restErr,if_pos h,if_pos h0,if_pos]
 exact allR_good fun j hj => decide_eq_true (hl j hj)
theorem restErr_zero (h : restErr ks bs tab hands = 0) : checkErr ks bs = 0 ∧ tabOk tab = true ∧ chosenB hands bs.length = true ∧ ∀ i,i < bs.length → tab ≤ lowZ ks bs i := by
 unfold restErr at h
 split at h
 ·rename_i h1
  split at h
  ·rename_i h2
   rw [Bool.and_eq_true] at h2
   split at h
   ·rename_i h3
    exact ⟨h1,h2.1,h2.2,fun i hi => of_decide_eq_true (allR_at h3 hi)⟩
   ·cases h
  ·cases h
 ·rename_i h1
  exact absurd h h1
end
theorem BuiltAt.addr {w : World} {X : Nat} {qs : List (Knd × KAt)} {QA : Option Addr} {qc : Nat} {bs : List Brk} {B : Option Addr} {cb : Nat} {CA : Option Addr} {cc M : Nat} {JA : Option Addr} {jc : Nat} {gs cp : Nat → Nat} {mm : List (Pt × Int)} (h : BuiltAt w X qs QA qc bs B cb CA cc M JA jc gs cp mm) (h0 : 0 < bs.length) : ∃ g off,CA = some ⟨g,off,none⟩ := by
 obtain ⟨g,off,hA, -, -⟩ := SliceIs.cells h.c h0
 exact ⟨g,off,hA⟩
theorem BuiltAt.row {w : World} {X : Nat} {qs : List (Knd × KAt)} {QA : Option Addr} {qc : Nat} {bs : List Brk} {B : Option Addr} {cb : Nat} {CA : Option Addr} {cc M : Nat} {JA : Option Addr} {jc : Nat} {gs cp : Nat → Nat} {mm : List (Pt × Int)} (h : BuiltAt w X qs QA qc bs B cb CA cc M JA jc gs cp mm) {j g off : Nat} (hj : j < bs.length) (hA : CA = some ⟨g,off,none⟩) : w.cell? ⟨g,off + j,none⟩ = some (.slice (some ⟨gs j,0,none⟩) (clen (qs.map (·.1)) bs j) (cp j)) := by
 obtain ⟨g',off',hA', -,hc⟩ := SliceIs.cells h.c (by omega)
 rw [hA'] at hA
 cases hA
 have hr : ((clC gs (clen (qs.map (·.1)) bs) cp bs.length).map fun v => [v])[j]? = some [.slice (some ⟨gs j,0,none⟩) (clen (qs.map (·.1)) bs j) (cp j)] := by rw [List.getElem?_map,clC_at hj]; rfl
 have := hc j _ hr 0 _ rfl
 rwa [Nat.mul_one,Nat.add_zero] at this
theorem CBl.cell {ks : List Knd} {bs : List Brk} {w : World} {gs cp : Nat → Nat} {n j q : Nat} (h : CBl ks bs w gs cp n) (hj : j < n) (hq : q < clen ks bs j) : w.cell? ⟨gs j,q * 3,none⟩ = some (.int .i64 (ptAt (bcells ks (brkAt bs j)) q).x) ∧ w.cell? ⟨gs j,q * 3 + 1,none⟩ = some (.int .i64 (ptAt (bcells ks (brkAt bs j)) q).y) ∧ w.cell? ⟨gs j,q * 3 + 2,none⟩ = some (.int .i64 (ptAt (bcells ks (brkAt bs j)) q).z) := by
 have hR := (h j hj).2.2
 have hg : (bcells ks (brkAt bs j))[q]? = some (bcells ks (brkAt bs j))[q] := List.getElem?_eq_getElem hq
 have hr : ((bcells ks (brkAt bs j)).map Pt.cs)[q]? = some (Pt.cs (ptAt (bcells ks (brkAt bs j)) q)) := by
  rw [ptAt_eq hg,List.getElem?_map,hg]
  rfl
 exact ⟨hR.cell (pts_wide _) (j := 0) hr rfl,hR.cell (pts_wide _) (j := 1) hr rfl,hR.cell (pts_wide _) (j := 2) hr rfl⟩
theorem clen_pos {w : World} {QA : Option Addr} {qc : Nat} {qs : List (Knd × KAt)} {bs : List Brk} (hk : Kinds w QA qc qs) (hb : ∀ b ∈ bs,b.byte) (h0 : modelErr (qs.map (·.1)) bs = 0) {j : Nat} (hj : j < bs.length) : 0 < clen (qs.map (·.1)) bs j ∧ clen (qs.map (·.1)) bs j ≤ 24 := by
 obtain ⟨i,t,x,y,z,c,k,p, -, -, -,hf, -, -, -,h, -⟩ := brk_parts hk hb h0 hj
 unfold clen
 rw [h,sortP_len,placeP_len]
 exact ⟨hf.pos,hf.len⟩
def BoolsZ (w : World) (A : Option Addr) (cap : Nat) (l : List Bool) : Prop := SliceIs w A l.length cap 1 (l.map fun b => [.bool b])
theorem BoolsZ.ext {w w' : World} {A : Option Addr} {cap : Nat} {l : List Bool} (h : BoolsZ w A cap l) (e : Ext w w') : BoolsZ w' A cap l := SliceIs.ext h e
theorem BoolsZ.len {w : World} {A : Option Addr} {cap : Nat} {l : List Bool} (h : BoolsZ w A cap l) : l.length ≤ maxLen := Nat.le_trans h.le h.small
theorem BoolsZ.at_ {w : World} {A : Option Addr} {cap : Nat} {l : List Bool} (h : BoolsZ w A cap l) {k : Nat} (hk : k < l.length) :
  ∃ b off p,A = some ⟨b,off,none⟩ ∧ l[k]? = some p ∧ b < w.heap.size ∧ w.cell? ⟨b,off + k,none⟩ = some (.bool p) := by
 obtain ⟨b,off,hA,hb,hc⟩ := SliceIs.cells h (by omega)
 have hget : l[k]? = some l[k] := List.getElem?_eq_getElem hk
 have hr : (l.map fun n => [Value.bool n])[k]? = some [.bool l[k]] := by rw [List.getElem?_map,hget]; rfl
 have := hc k _ hr 0 _ rfl
 rw [Nat.mul_one,Nat.add_zero] at this
 exact ⟨b,off,l[k],hA,hget,hb,this⟩
theorem bools_own {w : World} {b : Nat} {e : TypeId} {v : Value} {n : Nat} {l : List Bool} (hn : l.length = n) (h : w.ownsRow b e 1 v n (l.map Value.bool)) : ∃ A cap,v = .slice A n cap ∧ BoolsZ w A cap l ∧ (∀ q,A = some q → b ≤ q.block) := by
 obtain ⟨A,cap,e1,h1,h2⟩ := own_slice0 (rows := l.map fun b => [.bool b]) (sz := 1) (n := n) (fun r hr => by obtain ⟨v, -,rfl⟩ := List.mem_map.1 hr; rfl) (by rw [List.length_map]; exact hn) (by
  have : ((l.map fun b => [Value.bool b]).flatten) = l.map Value.bool := by
   rw [show (l.map fun b => [Value.bool b]) = (l.map Value.bool).map fun v => [v] by rw [List.map_map]; rfl,flat_ones]
  rw [this]
  exact h)
 exact ⟨A,cap,e1,by unfold BoolsZ; rw [hn]; exact h1,h2⟩
def RestPost (qs : List (Knd × KAt)) (QA : Option Addr) (qc : Nat) (bs : List Brk) (B : Option Addr) (cb : Nat) (tab : Int) (hands : List Int) (w : World) (e : Ending) (w' : World) : Prop :=
 ∃ X CA cc M JA jc gs cp mm GA gc,e = .returned (.tuple #[.pointer (some ⟨X,0,none⟩),.slice GA bs.length gc,.int .i64 0]) ∧ w.heap.size ≤ X ∧ BuiltAt w' X qs QA qc bs B cb CA cc M JA jc gs cp mm ∧ BoolsZ w' GA gc (grdL (qs.map (·.1)) bs tab hands bs.length) ∧ Ext w w'
end Go.Proofs.YtjacbhomhjoolaaGreat
