
/- Opening a law's arguments: slices of whatever element type as rows of cells; the law's last step. Opening the arguments of chapter 1's laws: cells, knobs, kinds, bricks. Opening a model, a number, a cell of a law's arguments. -/
import Derived.Test.YtjacbhomhjoolaaGreatBLib
import Derived.ProofKit
import Derived.Deep.Slices
import Derived.Carry
import Derived.Test.YtjacbhomhjoolaaGreatBSort
import Derived.OpenShut
import Derived.Lib.SmallJoins
namespace Go.Proofs.YtjacbhomhjoolaaGreat
open Go.RowKit Go.ChangeShapes Go.WideShapes Go.ChangeAt Go.Deep

theorem Tryz.own : ownKnob Tryz.prog.godebug = none := by kernel_rfl
theorem Tryz.laidOut : laidOutB Tryz.prog = true := by kernel_rfl

theorem list_of {α : Type} (p : Nat → α → Prop) (n : Nat) (h : ∀ i,i < n → ∃ x,p i x) : ∃ l : List α,l.length = n ∧ ∀ i x,l[i]? = some x → p i x := by
 induction n with
 | zero => exact ⟨[],rfl,fun i x hx => by simp at hx⟩
 | succ n ih =>
  obtain ⟨l,hl,hp⟩ := ih (fun i hi => h i (by omega))
  obtain ⟨x,hx⟩ := h n (by omega)
  refine ⟨l ++ [x],by simp [hl],fun i y hy => ?_⟩
  rcases Nat.lt_or_ge i n with hi | hi
  ·rw [List.getElem?_append_left (by omega)] at hy
   exact hp i y hy
  ·rw [List.getElem?_append_right (by omega),hl] at hy
   obtain rfl : i = n := by
    rcases Nat.eq_or_lt_of_le hi with h' | h'
    ·exact h'.symm
    ·rw [List.getElem?_eq_none (by simp; omega)] at hy; cases hy
   simp at hy
   subst hy
   exact hx

section
variable {H : Type} {enc : TypeId × Value → H} {P : Program} {w : World} {base : Nat} {spare : Nat → Bool} {held : Bool}

theorem rows_of_trod {t e : TypeId} {fuel sz : Nat} {A : Option Addr} {n cap : Nat} {x : DataW H × List MemPlace} (ht : P.underlying t = some (.slice e)) (hC : P.cellsOf e = sz) (hsz : 0 < sz)
  (h : DataW.trod enc P w base spare held fuel t [.slice A n cap] = some x) :
  ∃ rows : List (List Value),SliceIs w A n cap sz rows ∧ ∀ r ∈ rows, ∃ (m : Nat) (y : DataW H × List MemPlace),DataW.trod enc P w base spare held m e r = some y := by
 rcases open_slice ht h with ⟨h0,_⟩ | ⟨a,len,cap',m,fl,D,Pl,hcs,_,hl,hm,hmm,_,hi⟩
 ·simp only [List.cons.injEq,Value.slice.injEq,and_true] at h0
  obtain ⟨rfl,rfl,rfl⟩ := h0
  exact ⟨[],⟨rfl,Nat.le_refl _,by unfold maxLen; omega,by simp,fun h => by omega⟩,by simp⟩
 ·simp only [List.cons.injEq,Value.slice.injEq,and_true] at hcs
  obtain ⟨rfl,rfl,rfl⟩ := hcs
  rw [hC] at hi
  have hnm : n ≤ m := by rw [hmm]; split <;> omega
  obtain ⟨rows,hlen,hrow⟩ := list_of (fun i r => w.cells? base (a.add (i * sz)) sz = some r ∧ DataW.trod enc P w base spare held fl e r = some (D i,Pl i)) n (fun i hin => hi i (by omega))
  refine ⟨rows,⟨hlen,hl,hm,?_,fun hn => ?_⟩,?_⟩
  ·intro r hr
   obtain ⟨i,hir⟩ := List.getElem?_of_mem hr
   exact (World.cells?_some (hrow i r hir).1).2.1
  ·have h0 := hi 0 (by omega)
   obtain ⟨cs0,hc0,_⟩ := h0
   obtain ⟨_,hl0,hat0⟩ := World.cells?_some hc0
   have hcell0 := hat0 0 hsz
   have hsome : (w.cell? a).isSome = true := by
    have : (a.add (0 * sz)).add 0 = a := by simp [Addr.add]
    rw [this] at hcell0
    rw [hcell0,List.getElem?_eq_getElem (by omega)]
    rfl
   obtain ⟨b,off,spot⟩ := a
   have hspot : spot = none := by
    cases spot with
    | none => rfl
    | some q =>
     exfalso
     unfold World.cell? at hsome
     simp only at hsome
     split at hsome <;> simp at hsome
   subst hspot
   obtain ⟨u,hu⟩ := Option.isSome_iff_exists.1 hsome
   refine ⟨b,off,rfl,World.block_lt_of_cell? w _ hu,fun i r hr j u hu => ?_⟩
   obtain ⟨_,hlr,hat⟩ := World.cells?_some (hrow i r hr).1
   have hj : j < sz := by
    rcases Nat.lt_or_ge j r.length with h' | h'
    ·omega
    ·rw [List.getElem?_eq_none h'] at hu; cases hu
   have hadd : ((⟨b,off,none⟩ : Addr).add (i * sz)).add j = ⟨b,off + i * sz + j,none⟩ := by
    unfold Addr.add
    by_cases h1 : i * sz = 0 <;> by_cases h2 : j = 0 <;> simp [h1,h2]
   rw [← hadd,hat j hj]
   exact hu
  ·intro r hr
   obtain ⟨i,hir⟩ := List.getElem?_of_mem hr
   exact ⟨_,_,(hrow i r hir).2⟩

theorem trodAll_ext {ts : List TypeId} (hl : laidOutB P = true) {W W' : World} (hb : Ext W W') :
  ∀ {vs : List Value} {ds : List (DataW H)} {ps : List MemPlace},(∀ t ∈ ts,P.readableRec t = true ∧ t < P.types.size) → DataW.TrodAll enc P W 0 (fun _ => true) true ts vs ds ps → (∀ x ∈ ps,x.block < W.heap.size) →
   DataW.TrodAll enc P W' 0 (fun b => decide (b < W.heap.size)) true ts vs ds ps := by
 induction ts with
 | nil =>
  intro vs ds ps _ h _
  obtain ⟨rfl,rfl,rfl⟩ := trodAll_nil h
  exact trodAll_mk0
 | cons t ts ih =>
  intro vs ds ps hr h hlt
  obtain ⟨v,vs',d,ds',p,q,rfl,rfl,rfl,hd,hrest⟩ := trodAll_cons h
  exact ⟨p,q,Below.trod hl (hr t (by simp)).1 (hr t (by simp)).2 hd hb (fun x hx => hlt x (by simp [hx])),ih (fun t' ht' => hr t' (by simp [ht'])) hrest (fun x hx => hlt x (by simp [hx])),rfl⟩
end
open Go.Joins

theorem cells_u8 : Tryz.prog.cellsOf 5 = 1 := by kernel_rfl
theorem cells_int : Tryz.prog.cellsOf 3 = 1 := by kernel_rfl
theorem cells_cell : Tryz.prog.cellsOf 27 = 3 := by kernel_rfl
theorem cells_knob : Tryz.prog.cellsOf 109 = 5 := by kernel_rfl
theorem cells_kind : Tryz.prog.cellsOf 72 = 3 := by kernel_rfl
theorem cells_brick : Tryz.prog.cellsOf 51 = 6 := by kernel_rfl
theorem cells_scell : Tryz.prog.cellsOf 47 = 1 := by kernel_rfl
theorem cells_sknob : Tryz.prog.cellsOf 70 = 1 := by kernel_rfl
theorem rows_map {α : Type} (f : α → List Value) {rows : List (List Value)} {xs : List α} (hl : xs.length = rows.length) (h : ∀ (i : Nat) (x : α),xs[i]? = some x → rows[i]? = some (f x)) : rows = xs.map f := by
 apply List.ext_getElem?
 intro i
 rw [List.getElem?_map]
 rcases Nat.lt_or_ge i rows.length with hi | hi
 ·have : xs[i]? = some xs[i] := List.getElem?_eq_getElem (by omega)
  rw [this,h i _ this]
  rfl
 ·rw [List.getElem?_eq_none hi,List.getElem?_eq_none (by omega)]
  rfl
section
variable {H : Type} {enc : TypeId × Value → H} {w : World} {base : Nat} {spare : Nat → Bool} {held : Bool}

set_option maxRecDepth 100000 in
theorem pt_of_trod {fuel : Nat} {c0 c1 c2 : Value} {x : DataW H × List MemPlace} (h : DataW.trod enc Tryz.prog w base spare held fuel 27 [c0,c1,c2] = some x) : ∃ p : Pt, [c0,c1,c2] = p.cs := by
 obtain ⟨zs,m'',_,_,_,hzl,hg⟩ := DataW.trod_struct Tryz.underlying27 h
 have g0 := hg 0 _ rfl
 have g1 := hg 1 _ rfl
 have g2 := hg 2 _ rfl
 match zs,hzl with
 | [z0,z1,z2],_ =>
  obtain ⟨x,h1,_,_⟩ := DataW.trod_int Tryz.underlying3 g0
  obtain ⟨y,h2,_,_⟩ := DataW.trod_int Tryz.underlying3 g1
  obtain ⟨z,h3,_,_⟩ := DataW.trod_int Tryz.underlying3 g2
  change List.take (Tryz.prog.cellsOf 3) [c0,c1,c2] = _ at h1
  change List.take (Tryz.prog.cellsOf 3) [c1,c2] = _ at h2
  change List.take (Tryz.prog.cellsOf 3) [c2] = _ at h3
  rw [cells_int] at h1 h2 h3
  simp at h1 h2 h3
  subst h1 h2 h3
  exact ⟨⟨x,y,z⟩,rfl⟩
set_option maxRecDepth 100000 in
theorem cells_of_trod {fuel n cap : Nat} {A : Option Addr} {x : DataW H × List MemPlace}
  (h : DataW.trod enc Tryz.prog w base spare held fuel 47 [.slice A n cap] = some x) : ∃ l : List Pt,l.length = n ∧ Cells w A cap l := by
 obtain ⟨rows,hS,hr⟩ := rows_of_trod Tryz.underlying47 cells_cell (by omega) h
 obtain ⟨l,hl,hp⟩ := list_of (fun i (p : Pt) => rows[i]? = some p.cs) n (fun i hi => by
  have hi' : i < rows.length := by rw [hS.len]; exact hi
  have hget : rows[i]? = some rows[i] := List.getElem?_eq_getElem hi'
  obtain ⟨m,y,hy⟩ := hr _ (List.mem_of_getElem? hget)
  have hlen := hS.wide _ (List.mem_of_getElem? hget)
  generalize rows[i] = r at hget hy hlen
  match r,hlen with
  | [c0,c1,c2],_ =>
   obtain ⟨p,hp⟩ := pt_of_trod hy
   exact ⟨p,by rw [hget,hp]⟩)
 refine ⟨l,hl,?_⟩
 have := rows_map Pt.cs (hl.trans hS.len.symm) hp
 unfold Cells
 rw [← this,hl]
 exact hS
set_option maxRecDepth 100000 in
theorem knobs_of_trod {fuel n cap : Nat} {A : Option Addr} {x : DataW H × List MemPlace}
  (h : DataW.trod enc Tryz.prog w base spare held fuel 70 [.slice A n cap] = some x) : ∃ l : List Knb,l.length = n ∧ Knobs w A cap l := by
 obtain ⟨rows,hS,hr⟩ := rows_of_trod Tryz.underlying70 cells_knob (by omega) h
 obtain ⟨l,hl,hp⟩ := list_of (fun i (p : Knb) => rows[i]? = some p.cs ∧ p.byte) n (fun i hi => by
  have hi' : i < rows.length := by rw [hS.len]; exact hi
  have hget : rows[i]? = some rows[i] := List.getElem?_eq_getElem hi'
  obtain ⟨m,y,hy⟩ := hr _ (List.mem_of_getElem? hget)
  obtain ⟨xs,m',_,_,hlen,hxl,hf⟩ := DataW.trod_struct Tryz.underlying109 hy
  rw [cells_knob] at hlen
  generalize rows[i] = r at hget hy hlen hf
  match r,hlen with
  | [c0,c1,c2,c3,c4],_ =>
   have f0 := hf 0 _ rfl
   have f1 := hf 1 _ rfl
   have f2 := hf 2 _ rfl
   match xs,hxl with
   | [y0,y1,y2],_ =>
    change DataW.trod enc _ _ _ _ _ _ _ (List.take (Tryz.prog.cellsOf 27) [c0,c1,c2,c3,c4]) = _ at f0
    rw [cells_cell] at f0
    obtain ⟨p,hp⟩ := pt_of_trod f0
    obtain ⟨d,e1,_,wd⟩ := DataW.trod_int Tryz.underlying5 f1
    obtain ⟨s,e2,_,ws⟩ := DataW.trod_int Tryz.underlying5 f2
    change List.take (Tryz.prog.cellsOf 5) [c3,c4] = _ at e1
    change List.take (Tryz.prog.cellsOf 5) [c4] = _ at e2
    rw [cells_u8] at e1 e2
    simp at e1 e2
    subst e1 e2
    unfold Pt.cs at hp
    simp only [List.cons.injEq,and_true] at hp
    obtain ⟨rfl,rfl,rfl⟩ := hp
    exact ⟨⟨p,d,s⟩,hget,bounds_u8 wd,bounds_u8 ws⟩)
 refine ⟨l,hl,?_,fun x hm => ?_⟩
 ·have := rows_map Knb.cs (hl.trans hS.len.symm) fun i x hx => (hp i x hx).1
  rw [← this,hl]
  exact hS
 ·obtain ⟨i,hi⟩ := List.getElem?_of_mem hm
  exact (hp i x hi).2
theorem slice_form' {t e : TypeId} (ht : Tryz.prog.underlying t = some (.slice e)) {fuel : Nat} {c : Value} {x : DataW H × List MemPlace} (h : DataW.trod enc Tryz.prog w base spare held fuel t [c] = some x) : ∃ A n ca,c = .slice A n ca ∧ (A = none → ca = 0) := by
 rcases open_slice ht h with ⟨h,_⟩ | ⟨a,len,cap',_,_,_,_,h,_⟩
 ·exact ⟨none,0,0,by simpa using h,fun _ => rfl⟩
 ·exact ⟨some a,len,cap',by simpa using h,fun h => by cases h⟩
set_option maxRecDepth 100000 in
theorem kind_of_trod {fuel : Nat} {c0 c1 c2 : Value} {x : DataW H × List MemPlace} (h : DataW.trod enc Tryz.prog w base spare held fuel 72 [c0,c1,c2] = some x) :
  ∃ (k : Knd) (p : KAt), [c0,c1,c2] = k.cs p ∧ KindAt w p k ∧ (p.A = none → p.ca = 0) ∧ (p.B = none → p.cb = 0) := by
 obtain ⟨zs,m'',_,_,_,hzl,hg⟩ := DataW.trod_struct Tryz.underlying72 h
 have g0 := hg 0 _ rfl
 have g1 := hg 1 _ rfl
 have g2 := hg 2 _ rfl
 match zs,hzl with
 | [z0,z1,z2],_ =>
  change DataW.trod enc _ _ _ _ _ _ _ (List.take (Tryz.prog.cellsOf 47) [c0,c1,c2]) = _ at g0
  change DataW.trod enc _ _ _ _ _ _ _ (List.take (Tryz.prog.cellsOf 70) [c1,c2]) = _ at g1
  rw [cells_scell] at g0
  rw [cells_sknob] at g1
  change DataW.trod enc _ _ _ _ _ _ _ [c0] = _ at g0
  change DataW.trod enc _ _ _ _ _ _ _ [c1] = _ at g1
  obtain ⟨A,n,ca,rfl,hA⟩ := slice_form' Tryz.underlying47 g0
  obtain ⟨B,m,cb,rfl,hB⟩ := slice_form' Tryz.underlying70 g1
  obtain ⟨cells,rfl,hc⟩ := cells_of_trod g0
  obtain ⟨knobs,rfl,hn⟩ := knobs_of_trod g1
  obtain ⟨wt,h3,_,_⟩ := DataW.trod_int Tryz.underlying3 g2
  change List.take (Tryz.prog.cellsOf 3) [c2] = _ at h3
  rw [cells_int] at h3
  simp at h3
  subst h3
  exact ⟨⟨cells,knobs,wt⟩,⟨A,ca,B,cb⟩,rfl,⟨hc,hn⟩,hA,hB⟩
set_option maxRecDepth 100000 in
theorem kinds_of_trod {fuel n cap : Nat} {A : Option Addr} {x : DataW H × List MemPlace}
  (h : DataW.trod enc Tryz.prog w base spare held fuel 22 [.slice A n cap] = some x) : ∃ qs : List (Knd × KAt),qs.length = n ∧ Kinds w A cap qs ∧ ∀ q ∈ qs,(q.2.A = none → q.2.ca = 0) ∧ (q.2.B = none → q.2.cb = 0) := by
 obtain ⟨rows,hS,hr⟩ := rows_of_trod Tryz.underlying22 cells_kind (by omega) h
 obtain ⟨l,hl,hp⟩ := list_of (fun i (q : Knd × KAt) => rows[i]? = some (q.1.cs q.2) ∧ KindAt w q.2 q.1 ∧ (q.2.A = none → q.2.ca = 0) ∧ (q.2.B = none → q.2.cb = 0)) n (fun i hi => by
  have hi' : i < rows.length := by rw [hS.len]; exact hi
  have hget : rows[i]? = some rows[i] := List.getElem?_eq_getElem hi'
  obtain ⟨m,y,hy⟩ := hr _ (List.mem_of_getElem? hget)
  have hlen := hS.wide _ (List.mem_of_getElem? hget)
  generalize rows[i] = r at hget hy hlen
  match r,hlen with
  | [c0,c1,c2],_ =>
   obtain ⟨k,p,hp,hk⟩ := kind_of_trod hy
   exact ⟨(k,p),by rw [hget,hp],hk⟩)
 refine ⟨l,hl,⟨?_,fun q hm => ?_⟩,fun q hm => ?_⟩
 ·have := rows_map (fun q : Knd × KAt => q.1.cs q.2) (hl.trans hS.len.symm) fun i x hx => (hp i x hx).1
  rw [← this,hl]
  exact hS
 ·obtain ⟨i,hi⟩ := List.getElem?_of_mem hm
  exact (hp i q hi).2.1
 ·obtain ⟨i,hi⟩ := List.getElem?_of_mem hm
  exact (hp i q hi).2.2
set_option maxRecDepth 100000 in
theorem brick_of_trod {fuel : Nat} {c0 c1 c2 c3 c4 c5 : Value} {x : DataW H × List MemPlace} (h : DataW.trod enc Tryz.prog w base spare held fuel 51 [c0,c1,c2,c3,c4,c5] = some x) :
  ∃ b : Brk, [c0,c1,c2,c3,c4,c5] = b.cs ∧ b.byte := by
 obtain ⟨zs,m'',_,_,_,hzl,hg⟩ := DataW.trod_struct Tryz.underlying51 h
 have g0 := hg 0 _ rfl
 have g1 := hg 1 _ rfl
 have g2 := hg 2 _ rfl
 have g3 := hg 3 _ rfl
 match zs,hzl with
 | [z0,z1,z2,z3],_ =>
  change DataW.trod enc _ _ _ _ _ _ _ (List.take (Tryz.prog.cellsOf 27) [c1,c2,c3,c4,c5]) = _ at g1
  rw [cells_cell] at g1
  obtain ⟨p,hp⟩ := pt_of_trod g1
  obtain ⟨k,h1,_,_⟩ := DataW.trod_int Tryz.underlying3 g0
  obtain ⟨t,h2,_,wt⟩ := DataW.trod_int Tryz.underlying5 g2
  obtain ⟨c,h3,_,wc⟩ := DataW.trod_int Tryz.underlying5 g3
  change List.take (Tryz.prog.cellsOf 3) [c0,c1,c2,c3,c4,c5] = _ at h1
  change List.take (Tryz.prog.cellsOf 5) [c4,c5] = _ at h2
  change List.take (Tryz.prog.cellsOf 5) [c5] = _ at h3
  rw [cells_int] at h1
  rw [cells_u8] at h2 h3
  simp at h1 h2 h3
  subst h1 h2 h3
  unfold Pt.cs at hp
  simp only [List.cons.injEq,and_true] at hp
  obtain ⟨rfl,rfl,rfl⟩ := hp
  exact ⟨⟨k,p,t,c⟩,rfl,bounds_u8 wt,bounds_u8 wc⟩
set_option maxRecDepth 100000 in
theorem bricks_of_trod {fuel n cap : Nat} {A : Option Addr} {x : DataW H × List MemPlace}
  (h : DataW.trod enc Tryz.prog w base spare held fuel 23 [.slice A n cap] = some x) : ∃ l : List Brk,l.length = n ∧ Bricks w A cap l := by
 obtain ⟨rows,hS,hr⟩ := rows_of_trod Tryz.underlying23 cells_brick (by omega) h
 obtain ⟨l,hl,hp⟩ := list_of (fun i (p : Brk) => rows[i]? = some p.cs ∧ p.byte) n (fun i hi => by
  have hi' : i < rows.length := by rw [hS.len]; exact hi
  have hget : rows[i]? = some rows[i] := List.getElem?_eq_getElem hi'
  obtain ⟨m,y,hy⟩ := hr _ (List.mem_of_getElem? hget)
  have hlen := hS.wide _ (List.mem_of_getElem? hget)
  generalize rows[i] = r at hget hy hlen
  match r,hlen with
  | [c0,c1,c2,c3,c4,c5],_ =>
   obtain ⟨b,hb,hbb⟩ := brick_of_trod hy
   exact ⟨b,by rw [hget,hb],hbb⟩)
 refine ⟨l,hl,?_,fun x hm => ?_⟩
 ·have := rows_map Brk.cs (hl.trans hS.len.symm) fun i x hx => (hp i x hx).1
  rw [← this,hl]
  exact hS
 ·obtain ⟨i,hi⟩ := List.getElem?_of_mem hm
  exact (hp i x hi).2
end

theorem cells_sbrick : Tryz.prog.cellsOf 23 = 1 := by kernel_rfl
section
variable {H : Type} {enc : TypeId × Value → H} {w : World} {base : Nat} {spare : Nat → Bool} {held : Bool}
set_option maxRecDepth 100000 in
theorem model_open {r : Reach} {b0 : Nat} {v : Value} {d : DataW H} {p : List MemPlace} (hv : Value.okWide Tryz.prog w r b0 25 v) (h : DataW.Trod enc Tryz.prog w base spare held 25 v d p) :
  ∃ A cap bs,v = .agg #[.slice A bs.length cap] ∧ Bricks w A cap bs ∧ (A = none → cap = 0) := by
 obtain ⟨cs,rfl,hsz⟩ := okWide_struct Tryz.underlying25 hv
 rw [show Tryz.prog.cellsOf 25 = 1 by kernel_rfl] at hsz
 obtain ⟨l⟩ := cs
 simp only [List.size_toArray] at hsz
 match l,hsz with
 | [c0],_ =>
  obtain ⟨fuel,hf⟩ := h
  have hf' : DataW.trod enc Tryz.prog w base spare held fuel 25 [c0] = some (d,p) := by simpa [Value.cells] using hf
  obtain ⟨zs,m'',_,_,_,hzl,hg⟩ := DataW.trod_struct Tryz.underlying25 hf'
  have g0 := hg 0 _ rfl
  match zs,hzl with
  | [z0],_ =>
   change DataW.trod enc _ _ _ _ _ _ _ (List.take (Tryz.prog.cellsOf 23) [c0]) = _ at g0
   rw [cells_sbrick] at g0
   change DataW.trod enc _ _ _ _ _ _ _ [c0] = _ at g0
   obtain ⟨A,n,ca,rfl,hA⟩ := slice_form' Tryz.underlying23 g0
   obtain ⟨bs,rfl,hb⟩ := bricks_of_trod g0
   exact ⟨A,ca,bs,rfl,hb,hA⟩
end
end Go.Proofs.YtjacbhomhjoolaaGreat
