
/- Opening a rest (a table and chosen hands) of a law's arguments. -/
import Derived.Test.YtjacbhomhjoolaaGreatBOpen
import Derived.Test.YtjacbhomhjoolaaGreatBChosen
namespace Go.Proofs.YtjacbhomhjoolaaGreat
open Go.RowKit Go.ChangeShapes Go.WideShapes Go.ChangeAt Go.Deep Go.Joins

theorem cells_sint : Tryz.prog.cellsOf 39 = 1 := by kernel_rfl
section
variable {H : Type} {enc : TypeId × Value → H} {w : World} {base : Nat} {spare : Nat → Bool} {held : Bool}
set_option maxRecDepth 100000 in
theorem ints_of_trod {fuel n cap : Nat} {A : Option Addr} {x : DataW H × List MemPlace}
  (h : DataW.trod enc Tryz.prog w base spare held fuel 39 [.slice A n cap] = some x) : ∃ l : List Int,l.length = n ∧ IntsZ w A cap l := by
 obtain ⟨rows,hS,hr⟩ := rows_of_trod Tryz.underlying39 cells_int (by omega) h
 obtain ⟨l,hl,hp⟩ := list_of (fun i (p : Int) => rows[i]? = some [Value.int .i64 p]) n (fun i hi => by
  have hi' : i < rows.length := by rw [hS.len]; exact hi
  have hget : rows[i]? = some rows[i] := List.getElem?_eq_getElem hi'
  obtain ⟨m,y,hy⟩ := hr _ (List.mem_of_getElem? hget)
  obtain ⟨k,h1,_,_⟩ := DataW.trod_int Tryz.underlying3 hy
  exact ⟨k,by rw [hget,h1]⟩)
 refine ⟨l,hl,?_⟩
 have := rows_map (fun p : Int => [Value.int .i64 p]) (hl.trans hS.len.symm) hp
 unfold IntsZ
 rw [← this,hl]
 exact hS
set_option maxRecDepth 100000 in
theorem rest_open {r : Reach} {b0 : Nat} {v : Value} {d : DataW H} {p : List MemPlace} (hv : Value.okWide Tryz.prog w r b0 75 v) (h : DataW.Trod enc Tryz.prog w base spare held 75 v d p) :
  ∃ tab A cap hs,v = .agg #[.int .i64 tab,.slice A hs.length cap] ∧ IntsZ w A cap hs := by
 obtain ⟨cs,rfl,hsz⟩ := okWide_struct Tryz.underlying75 hv
 rw [show Tryz.prog.cellsOf 75 = 2 by kernel_rfl] at hsz
 obtain ⟨l⟩ := cs
 simp only [List.size_toArray] at hsz
 match l,hsz with
 | [c0,c1],_ =>
  obtain ⟨fuel,hf⟩ := h
  have hf' : DataW.trod enc Tryz.prog w base spare held fuel 75 [c0,c1] = some (d,p) := by simpa [Value.cells] using hf
  obtain ⟨zs,m'',_,_,_,hzl,hg⟩ := DataW.trod_struct Tryz.underlying75 hf'
  have g0 := hg 0 _ rfl
  have g1 := hg 1 _ rfl
  match zs,hzl with
  | [z0,z1],_ =>
   obtain ⟨tab,h1,_,_⟩ := DataW.trod_int Tryz.underlying3 g0
   change List.take (Tryz.prog.cellsOf 3) [c0,c1] = _ at h1
   rw [cells_int] at h1
   simp at h1
   subst h1
   change DataW.trod enc _ _ _ _ _ _ _ (List.take (Tryz.prog.cellsOf 39) [c1]) = _ at g1
   rw [cells_sint] at g1
   change DataW.trod enc _ _ _ _ _ _ _ [c1] = _ at g1
   obtain ⟨A,n,ca,rfl,hA⟩ := slice_form' Tryz.underlying39 g1
   obtain ⟨hs,rfl,hb⟩ := ints_of_trod g1
   exact ⟨tab,A,ca,hs,rfl,hb⟩
end
section
variable {H : Type} {enc : TypeId × Value → H} {P : Program} {w : World} {base : Nat} {spare : Nat → Bool} {held : Bool}
theorem trodAll_five {t t' t'' t3 t4 : TypeId} {args : Array Value} {ds : List (DataW H)} {ps : List MemPlace} (h : DataW.TrodAll enc P w base spare held [t,t',t'',t3,t4] args.toList ds ps) :
  ∃ v v' v'' v3 v4 d d' d'' d3 d4 p p' p'' p3 p4,args = #[v,v',v'',v3,v4] ∧ ds = [d,d',d'',d3,d4] ∧ ps = p ++ p' ++ p'' ++ p3 ++ p4 ∧ DataW.Trod enc P w base spare held t v d p ∧ DataW.Trod enc P w base spare held t' v' d' p' ∧ DataW.Trod enc P w base spare held t'' v'' d'' p'' ∧ DataW.Trod enc P w base spare held t3 v3 d3 p3 ∧ DataW.Trod enc P w base spare held t4 v4 d4 p4 := by
 obtain ⟨v,vs,d,ds',p,q,hargs,rfl,rfl,hd,hrest⟩ := trodAll_cons h
 obtain ⟨v',vs',d',ds'',p',q',rfl,rfl,rfl,hd',hrest'⟩ := trodAll_cons hrest
 obtain ⟨v'',vs'',d'',ds''',p'',q'',rfl,rfl,rfl,hd'',hrest''⟩ := trodAll_cons hrest'
 obtain ⟨v3,vs3,d3,ds3,p3,q3,rfl,rfl,rfl,hd3,hrest3⟩ := trodAll_cons hrest''
 obtain ⟨v4,vs4,d4,ds4,p4,q4,rfl,rfl,rfl,hd4,hrest4⟩ := trodAll_cons hrest3
 obtain ⟨rfl,rfl,rfl⟩ := trodAll_nil hrest4
 exact ⟨v,v',v'',v3,v4,d,d',d'',d3,d4,p,p',p'',p3,p4,by cases args; simp_all,rfl,by simp,hd,hd',hd'',hd3,hd4⟩
end
end Go.Proofs.YtjacbhomhjoolaaGreat
