
/- Sorted of the reference: the cells in order, in new memory. Placed and Knobbed of the reference: the cells, in order, and the knobs of a placed brick, in new memory. Conditions: the brick is valid. Knobbed of the reference: the knobs of a placed brick, in new memory. Conditions: the brick is valid. -/
import Derived.Test.YtjacbhomhjoolaaGreatBSort
import Derived.Test.YtjacbhomhjoolaaGreatBLib
import Derived.BigRegion
import Derived.ChangeAlike
import Derived.Test.YtjacbhomhjoolaaGreatBTurnB
namespace Go.Proofs.YtjacbhomhjoolaaGreat
open Go.RowKit

theorem sortP_pairs (l : List Pt) : (sortP l).Pairwise fun p q => ltP q p = false := by
 have h := List.pairwise_mergeSort (le := fun x y => !ltP y x) (fun a b c h k => by
  simp only [Bool.not_eq_true',ltP_not] at *
  omega) (fun a b => by
  cases h : ltP b a
  ·rfl
  ·rw [ltP_anti h]
   rfl) l
 exact h.imp fun h => by simpa using h
theorem sortP_perm (l : List Pt) : (sortP l).Perm l := List.mergeSort_perm _ _
theorem sortP_len (l : List Pt) : (sortP l).length = l.length := List.length_mergeSort _
theorem sortP_is {l l' : List Pt} (hp : l'.Perm l) (hs : l'.Pairwise fun p q => ltP q p = false) : l' = sortP l :=
 List.Perm.eq_of_pairwise (fun a b _ _ h k => ltP_total a b k h) hs (sortP_pairs l) (hp.trans (sortP_perm l).symm)
structure Ins (l : List Pt) (j k : Nat) (A : List Pt) (x : Pt) (B C : List Pt) : Prop where
 k : A.length = k
 j : A.length + B.length = j
 perm : (A ++ x :: (B ++ C)).Perm l
 sorted : (A ++ B).Pairwise fun p q => ltP q p = false
 less : ∀ b ∈ B,ltP x b = true
theorem Ins.step {l : List Pt} {j k : Nat} {A : List Pt} {a x : Pt} {B C : List Pt} (h : Ins l j (k + 1) (A ++ [a]) x B C) (hx : ltP x a = true) : Ins l j k A x (a :: B) C := by
 obtain ⟨h1,h2,h3,h4,h5⟩ := h
 simp only [List.length_append,List.length_cons,List.length_nil] at h1 h2
 refine ⟨by omega,by simp only [List.length_cons]; omega,?_,?_,fun b hb => ?_⟩
 ·refine List.Perm.trans ?_ h3
  rw [List.append_assoc]
  exact List.Perm.append_left _ (List.Perm.swap _ _ _)
 ·rw [List.append_assoc] at h4
  exact h4
 ·rcases List.mem_cons.1 hb with rfl | hb
  ·exact hx
  ·exact h5 b hb
theorem Ins.stop {l : List Pt} {j k : Nat} {A : List Pt} {x : Pt} {B C : List Pt} (h : Ins l j k A x B C) (hx : ∀ a A',A = A' ++ [a] → ltP x a = false) : ((A ++ x :: (B ++ C)).take (j + 1)).Pairwise fun p q => ltP q p = false := by
 obtain ⟨h1,h2,h3,h4,h5⟩ := h
 have e : (A ++ x :: (B ++ C)).take (j + 1) = A ++ x :: B := by
  rw [show A ++ x :: (B ++ C) = (A ++ x :: B) ++ C by simp,List.take_append_of_le_length (by simp; omega),List.take_of_length_le (by simp; omega)]
 rw [e]
 rw [List.pairwise_append] at h4 ⊢
 obtain ⟨p1,p2,p3⟩ := h4
 refine ⟨p1,List.pairwise_cons.2 ⟨fun b hb => ltP_anti (h5 b hb),p2⟩,fun a ha b hb => ?_⟩
 rcases List.mem_cons.1 hb with rfl | hb
 ·rcases List.eq_nil_or_concat A with rfl | ⟨A',a',hA⟩
  ·cases ha
  ·rw [List.concat_eq_append] at hA
   have q := hx a' A' hA
   subst hA
   rcases List.mem_append.1 ha with h | h
   ·have r := (List.pairwise_append.1 p1).2.2 a h a' (List.mem_singleton_self _)
    rw [ltP_not] at *
    omega
   ·rw [List.mem_singleton.1 h]
    exact q
 ·exact p3 a ha b hb
theorem Ins.start {l L : List Pt} {j : Nat} {x : Pt} (hp : L.Perm l) (hs : (L.take j).Pairwise fun p q => ltP q p = false) (hx : L[j]? = some x) : Ins l j j (L.take j) x [] (L.drop (j + 1)) ∧ L = L.take j ++ x :: ([] ++ L.drop (j + 1)) := by
 obtain ⟨hj,hxj⟩ := List.getElem?_eq_some_iff.1 hx
 have e : L = L.take j ++ x :: ([] ++ L.drop (j + 1)) := by
  rw [List.nil_append,← hxj,← List.drop_eq_getElem_cons hj,List.take_append_drop]
 exact ⟨⟨by rw [List.length_take]; omega,by rw [List.length_take]; simp; omega,by rw [← e]; exact hp,by rw [List.append_nil]; exact hs,fun b hb => by cases hb⟩,e⟩
theorem pt_one {c : List Pt} : ∀ u ∈ (c.map Pt.cs).flatten,u.oneCell' = true := by
 intro u hu
 rw [List.mem_flatten] at hu
 obtain ⟨r,hr,hu⟩ := hu
 obtain ⟨x,_,rfl⟩ := List.mem_map.1 hr
 unfold Pt.cs at hu
 simp only [List.mem_cons,List.not_mem_nil,or_false] at hu
 rcases hu with rfl | rfl | rfl <;> rfl
theorem infoPt3 : (Tryz.prog.info? 27).map (fun i => (i.zero,i.size,i.bytes)) = some (some (.agg #[.int .i64 0,.int .i64 0,.int .i64 0]),3,24) := by kernel_rfl
def RCellsPost (l : List Pt) (n : Nat) (w : World) (e : Ending) (w' : World) : Prop := ∃ g cap,w.heap.size ≤ g ∧ e = .returned (.slice (some ⟨g,0,none⟩) n cap) ∧ n ≤ cap ∧ cap ≤ maxLen ∧ RowX w' g 27 (l.map Pt.cs) ∧ Ext w w'
theorem RowX.swap3 {w : World} {g : Nat} {t : TypeId} {rows : List (List Value)} (h : RowX w g t rows) (hw : ∀ r ∈ rows,r.length = 3) {k m : Nat} (hk : k < rows.length) (hm : m < rows.length) (a b c d e f : Value) :
  ∃ w2,(((((w.setCell ⟨g,k * 3,none⟩ a).setCell ⟨g,k * 3 + 1,none⟩ b).setCell ⟨g,k * 3 + 2,none⟩ c).setCell ⟨g,m * 3,none⟩ d).setCell ⟨g,m * 3 + 1,none⟩ e).setCell ⟨g,m * 3 + 2,none⟩ f = w2 ∧ RowX w2 g t ((rows.set k [a,b,c]).set m [d,e,f]) ∧ (∀ w0,Ext w0 w → w0.heap.size ≤ g → Ext w0 w2) := by
 refine ⟨_,rfl,?_,fun w0 hE hg => setsW_ext [d,e,f] (m * 3) (setsW_ext [a,b,c] (k * 3) hE hg) hg⟩
 exact (h.store hw hk [a,b,c] rfl).store (fun r hr => by
  rcases List.mem_or_eq_of_mem_set hr with h | h
  ·exact hw r h
  ·rw [h]
   rfl) (by rw [List.length_set]; exact hm) [d,e,f] rfl
set_option maxRecDepth 100000 in
set_option maxHeartbeats 16000000 in
theorem rSorted_c (l : List Pt) (A : Option Addr) (cap : Nat) (w : World) (hs : Cells w A cap l) (hn : 0 < l.length) (hl : l.length ≤ 1000) :
  Calls Tryz.prog 117 #[.slice A l.length cap] w (RCellsPost (sortP l) l.length w) := by
 obtain ⟨b,off,rfl,hcells⟩ := SliceIs.adds hs hn (by decide)
 obtain ⟨iL,hiL,zL0,zL1,zL2⟩ := info_parts infoPt3
 have hfl : (l.map Pt.cs).flatten.length = l.length * 3 := by rw [rowsF_len (pts_wide l),List.length_map]
 obtain ⟨xs,hxs⟩ : ∃ xs,(l.map Pt.cs).flatten = xs := ⟨_,rfl⟩
 have hone : ∀ u ∈ xs,u.oneCell' = true := by rw [← hxs]; exact pt_one
 obtain ⟨n,hnn⟩ : ∃ n,l.length = n := ⟨_,rfl⟩
 rw [hxs] at hcells hfl
 rw [hnn] at hfl hn hl ⊢
 have Hnn := Lib.hid hnn
 have Hxs := Lib.hid hxs
 have Hcells := Lib.hid hcells
 have Hone := Lib.hid hone
 have Hfl := Lib.hid hfl
 have m1 : 0 + n ≤ maxLen := by unfold maxLen; omega
 have m2 : (0 + n) * 24 ≤ 140737488355328 := by omega
 clear hxs hone hcells hfl hs hnn
 go_enter Tryz.func117,Tryz.ntmps117
 go_wp2_with (at_builtin; refine wpList_append_own _ rfl (.tmp 6) (.tmp 7) 47 rfl w.heap.size 27 iL _ 3 24 Tryz.underlying47 hiL zL0 zL1 zL2 rfl (by decide) _ 0 [] rfl (World.ownsRow_made w #[] 0 (Nat.le_refl _) (by unfold maxLen; omega) rfl) ⟨b,off,none⟩ n cap xs rfl Hfl.out (fun j u hu => ((Ext.refl w).alloc _).cell (Hcells.out j u hu)) Hone.out m1 m2 (by simp) ?_; intro v' w4 own4 hg4 h4; obtain ⟨g,cp,rfl⟩ := own_form own4 (by omega))
 have E4 := ((Ext.refl w).alloc (.cells #[] 27)).grown hg4 (fun r e => by cases e; exact Nat.le_refl _)
 rw [Nat.zero_add,List.nil_append,← Hxs.out] at own4
 obtain ⟨X4,hg,q1,q2⟩ := RowX.of_own own4
 clear own4 hg4 h4 zL0 zL1 zL2 hiL m1 m2
 go_loopw [4] (fun i wr => ∃ (j : Nat) (L : List Pt),j ≤ n ∧ i = .int .i64 j ∧ Ext w wr ∧ RowX wr g 27 (L.map Pt.cs) ∧ L.Perm l ∧ Hid ((L.take j).Pairwise fun p q => ltP q p = false)) (fun i _ => n - (intOf i).toNat)
 case atStart => exact ⟨0,l,by omega,rfl,E4,X4,List.Perm.refl _,Lib.hid List.Pairwise.nil⟩
 case round =>
  clear E4 X4
  obtain ⟨j,L,hj,rfl,E,X,hp,Hs⟩ := hrel
  have hLn : L.length = n := hp.length_eq.trans Hnn.out
  have Hp := Lib.hid hp
  have HLn := Lib.hid hLn
  clear hp hLn
  by_cases hlt : j < n
  ·obtain ⟨x,hx⟩ : ∃ x,L[j]? = some x := ⟨_,List.getElem?_eq_getElem (by rw [HLn.out]; exact hlt)⟩
   obtain ⟨hI,hL⟩ := Ins.start Hp.out Hs.out hx
   rw [hL] at X
   clear hx hL
   go_wp2_with fail
   obtain ⟨wo,hwo⟩ : ∃ wo : World,wo = wr := ⟨_,rfl⟩
   clear hwo
   go_loopw [5] (fun i wr => ∃ (k : Nat) (A : List Pt) (x : Pt) (B C : List Pt),k ≤ j ∧ i = .int .i64 k ∧ Ext w wr ∧ RowX wr g 27 ((A ++ x :: (B ++ C)).map Pt.cs) ∧ Ins l j k A x B C) (fun i _ => (intOf i).toNat)
   case atStart => exact ⟨j,_,_,_,_,Nat.le_refl _,rfl,E,X,hI⟩
   case round =>
    clear E X hI Hs Hp HLn
    obtain ⟨k,A,x,B,C,hkj,rfl,E,X,hI⟩ := hrel
    have hlen : (A ++ x :: (B ++ C)).length = n := hI.perm.length_eq.trans Hnn.out
    have hAk := hI.k
    have hxk : ((A ++ x :: (B ++ C)).map Pt.cs)[k]? = some (Pt.cs x) := by
     rw [List.getElem?_map,List.getElem?_append_right (by omega),hAk,Nat.sub_self]
     rfl
    have x0 := X.cell (pts_wide _) hxk (j := 0) rfl
    have x1 := X.cell (pts_wide _) hxk (j := 1) rfl
    have x2 := X.cell (pts_wide _) hxk (j := 2) rfl
    simp only [Nat.add_zero] at x0
    have HAk := Lib.hid hAk
    have Hlen := Lib.hid hlen
    clear hxk hAk hlen
    by_cases hk0 : k = 0
    ·have z1 : decide ((0 : Int) < (k : Int)) = false := by simp; omega
     have z2 : decide (0 < k) = false := by simp; omega
     have hstop : ∀ a A',A = A' ++ [a] → ltP x a = false := fun a A' h => by
      have := HAk.out
      rw [h] at this
      simp at this
      omega
     have Hstop := Lib.hid hstop
     clear hstop hk0
     go_upto_region 6 with (fail)
     refine wp_region_grow (by kernel_rfl) (by kernel_rfl) ?_
     repeat (go_big_quiet_step (fail))
     refine wpQuiet_nil ?_
     intro W5 hW5
     have E5 : Ext wr W5 := by
      obtain ⟨x,rfl⟩ := hW5
      exact (Ext.refl _).grow x
     clear hW5
     obtain ⟨hcW5,hfW5,hzW5⟩ := ext_facts E5
     have EZ := E.trans E5
     have XZ := X.ext E5
     have hstop := Hstop.out
     clear hcW5 hfW5 hzW5 x0 x1 x2
     go_wp2_with fail
     go_roundw
     case rel => exact ⟨j + 1,_,by omega,by go_num,EZ,XZ,hI.perm,Lib.hid (hI.stop hstop)⟩
     case measure => simp only [intOf]; omega
    ·obtain ⟨A',a,rfl⟩ : ∃ A' a,A = A' ++ [a] := by
      rcases List.eq_nil_or_concat A with h | ⟨A',a,h⟩
      ·have := HAk.out
       rw [h] at this
       simp at this
       omega
      ·exact ⟨A',a,by rw [h,List.concat_eq_append]⟩
     have hA' : A'.length = k - 1 := by
      have := HAk.out
      simp at this
      omega
     have hak : (((A' ++ [a]) ++ x :: (B ++ C)).map Pt.cs)[k - 1]? = some (Pt.cs a) := by
      rw [List.getElem?_map,List.append_assoc,List.getElem?_append_right (by omega),hA',Nat.sub_self]
      rfl
     have a0 := X.cell (pts_wide _) hak (j := 0) rfl
     have a1 := X.cell (pts_wide _) hak (j := 1) rfl
     have a2 := X.cell (pts_wide _) hak (j := 2) rfl
     simp only [Nat.add_zero] at a0
     have HA' := Lib.hid hA'
     clear hak hA'
     have z1 : decide ((0 : Int) < (k : Int)) = true := by simp; omega
     have z2 : decide (0 < k) = true := by simp; omega
     have hkc : (((k - 1 : Nat) : Nat) : Int) = (k : Int) - 1 := by omega
     have ht : ((k : Int) - 1).toNat = k - 1 := by omega
     have hk1 : (1 : Int) ≤ k := by omega
     have hkn : (k : Int) < n := by omega
     go_upto_region 6 with (fail)
     refine wp_region_grow (by kernel_rfl) (by kernel_rfl) ?_
     repeat (go_big_quiet_step (((go_at_call 154; exact quiet_ext (rBefore_c x.x x.y x.z a.x a.y a.z _)))))
     refine wpQuiet_nil ?_
     intro W5 hW5
     have E5 : Ext wr W5 := by
      obtain ⟨x,rfl⟩ := hW5
      exact (Ext.refl _).grow x
     clear hW5
     obtain ⟨hcW5,hfW5,hzW5⟩ := ext_facts E5
     obtain ⟨r,hr⟩ : ∃ r,ltP ⟨x.x,x.y,x.z⟩ ⟨a.x,a.y,a.z⟩ = r := ⟨_,rfl⟩
     rw [hr]
     have Hr := Lib.hid hr
     clear hr
     have EZ := E.trans E5
     have XZ := X.ext E5
     clear hcW5 hfW5 hzW5 x0 x1 x2 a0 a1 a2
     cases r
     ·have hstop : ∀ a' A'',A' ++ [a] = A'' ++ [a'] → ltP x a' = false := fun a' A'' h => by
       have := (List.append_inj' h rfl).2
       cases this
       exact Hr.out
      have Hstop := Lib.hid hstop
      clear hstop
      go_wp2_with fail
      go_roundw
      case rel => exact ⟨j + 1,_,by omega,by go_num,EZ,XZ,hI.perm,Lib.hid (hI.stop Hstop.out)⟩
      case measure => simp only [intOf]; omega
     ·have hlen6 : (((A' ++ [a]) ++ x :: (B ++ C)).map Pt.cs).length = n := by rw [List.length_map]; exact Hlen.out
      have hxk : (((A' ++ [a]) ++ x :: (B ++ C)).map Pt.cs)[k]? = some (Pt.cs x) := by
       rw [List.getElem?_map,List.getElem?_append_right (by have := HAk.out; omega),HAk.out,Nat.sub_self]
       rfl
      have hak : (((A' ++ [a]) ++ x :: (B ++ C)).map Pt.cs)[k - 1]? = some (Pt.cs a) := by
       rw [List.getElem?_map,List.append_assoc,List.getElem?_append_right (by have := HA'.out; omega),HA'.out,Nat.sub_self]
       rfl
      have x0 := XZ.cell (pts_wide _) hxk (j := 0) rfl
      have x1 := XZ.cell (pts_wide _) hxk (j := 1) rfl
      have x2 := XZ.cell (pts_wide _) hxk (j := 2) rfl
      have a0 := XZ.cell (pts_wide _) hak (j := 0) rfl
      have a1 := XZ.cell (pts_wide _) hak (j := 1) rfl
      have a2 := XZ.cell (pts_wide _) hak (j := 2) rfl
      simp only [Nat.add_zero] at x0 a0
      have fz := XZ.frozen
      obtain ⟨W6,hW6,X6,ext6⟩ := XZ.swap3 (pts_wide _) (k := k) (m := k - 1) (by omega) (by omega) (.int .i64 a.x) (.int .i64 a.y) (.int .i64 a.z) (.int .i64 x.x) (.int .i64 x.y) (.int .i64 x.z)
      have hrows : ((((A' ++ [a]) ++ x :: (B ++ C)).map Pt.cs).set k [.int .i64 a.x,.int .i64 a.y,.int .i64 a.z]).set (k - 1) [.int .i64 x.x,.int .i64 x.y,.int .i64 x.z] = (A' ++ x :: ((a :: B) ++ C)).map Pt.cs := by
       have e1 : (((A' ++ [a]) ++ x :: (B ++ C)).map Pt.cs).set k (Pt.cs a) = ((A' ++ [a]) ++ a :: (B ++ C)).map Pt.cs := by
        rw [← List.map_set,List.set_append_right _ _ (by have := HAk.out; omega),HAk.out,Nat.sub_self]
        rfl
       have e2 : (((A' ++ [a]) ++ a :: (B ++ C)).map Pt.cs).set (k - 1) (Pt.cs x) = (A' ++ x :: ((a :: B) ++ C)).map Pt.cs := by
        rw [← List.map_set,List.append_assoc,List.set_append_right _ _ (by have := HA'.out; omega),HA'.out,Nat.sub_self]
        rfl
       show ((((A' ++ [a]) ++ x :: (B ++ C)).map Pt.cs).set k (Pt.cs a)).set (k - 1) (Pt.cs x) = _
       rw [e1,e2]
      rw [hrows] at X6
      have hI' : Ins l j (k - 1) A' x (a :: B) C := by
       have := hI
       rw [show k = (k - 1) + 1 by omega] at this
       exact this.step Hr.out
      clear hrows hxk hak hlen6
      go_upto_region 8 with (fail)
      go_region
      go_wp2_with fail
      go_roundw
      case rel => exact ⟨k - 1,A',x,a :: B,C,by omega,by rw [hkc],(ext6 _ EZ hg).drew,X6.drew,hI'⟩
      case measure => simp only [intOf]; omega
  ·obtain rfl : n = j := by omega
   have hfin : L = sortP l := sortP_is Hp.out (by
    have := Hs.out
    rwa [List.take_of_length_le (by rw [HLn.out]; exact Nat.le_refl _)] at this)
   subst hfin
   go_wp2_with fail
   go_ret
   exact ⟨g,cp,hg,rfl,q1,q2,X,E⟩

theorem flat_snoc (rows : List (List Value)) (r : List Value) : (rows ++ [r]).flatten = rows.flatten ++ r := by simp
theorem take_map_snoc {α : Type} {f : α → List Value} {l : List α} {j : Nat} {x : α} (h : l[j]? = some x) : ((l.take (j + 1)).map f).flatten = ((l.take j).map f).flatten ++ f x := by
 rw [List.take_add_one,h,Option.toList_some,List.map_append,List.map_cons,List.map_nil,flat_snoc]
set_option maxRecDepth 100000 in
set_option maxHeartbeats 8000000 in
theorem rPlaced_c (qs : List (Knd × KAt)) (QA : Option Addr) (qc : Nat) (i : Nat) (cells : List Pt) (knobs : List Knb) (wt : Int) (A : Option Addr) (ca : Nat) (B : Option Addr) (cb : Nat) (hi : qs[i]? = some (⟨cells,knobs,wt⟩,⟨A,ca,B,cb⟩)) (n : Nat) (x y z c : Int) (w : World) (hk : Kinds w QA qc qs)
  (hpos : 0 < cells.length) (hl : cells.length ≤ 1000) (hok : ∀ p ∈ cells,p.ok) (hn : n < 24) (hp : Pt.ok ⟨x,y,z⟩) :
  Calls Tryz.prog 89 #[.slice QA qs.length qc,.agg #[.int .i64 i,.int .i64 x,.int .i64 y,.int .i64 z,.int .u8 n,.int .u8 c]] w (RCellsPost (sortP (placeP cells n ⟨x,y,z⟩)) cells.length w) := by
 have hil : i < qs.length := (List.getElem?_eq_some_iff.1 hi).1
 have hql : qs.length ≤ 9223372036854775807 := by have := hk.len; unfold maxLen at this; omega
 obtain ⟨W1,hW1,E1,B1,hz1⟩ := mk_ w #[.int .i64 i,.int .i64 x,.int .i64 y,.int .i64 z,.int .u8 n,.int .u8 c] 51
 obtain ⟨W2,hW2,E2,B2,hz2⟩ := mk_ W1 #[.slice A cells.length ca,.slice B knobs.length cb,.int .i64 wt] 72
 obtain ⟨kg,koff,k',p',rfl,hq,hka,hkg,c0,c1,c2⟩ := (hk.ext E1).at_ hil
 rw [hi] at hq
 cases hq
 simp only at c0 c1 c2
 have hc : Cells w A ca cells := (hk.k _ (List.mem_of_getElem? hi)).c
 rw [hz1] at B2
 have b1 := B1.cell
 have B1' := B1.ext E2
 have b2' := B1'.cell
 have b2 := B2.cell
 have i1 : (0 : Int) ≤ i := by omega
 have i2 : (i : Int) < qs.length := by omega
 go_enter Tryz.func89,Tryz.ntmps89
 go_wp2_with fail
 have E12 := E1.trans E2
 clear hW1 hW2 hz1 hz2 b1 b2 b2' B1 c0 c1 c2 hka hkg E1 E2
 have Hpl := Lib.hid (placeP_len cells n ⟨x,y,z⟩)
 obtain ⟨S,hS⟩ : ∃ S,w.heap.size = S := ⟨_,rfl⟩
 rw [hS] at B1' B2 ⊢
 have HS := Lib.hid hS
 clear hS
 obtain ⟨i0,hi0,hz0,hz1,hz2⟩ := info_parts infoPt3
 go_loopw [6,7] (fun v ii wr => ∃ (j : Nat) (u : Value),j ≤ cells.length ∧ ii = .int .i64 j ∧ u = v ∧ Ext w wr ∧ Blk wr S 51 #[.int .i64 i,.int .i64 x,.int .i64 y,.int .i64 z,.int .u8 n,.int .u8 c] ∧ Blk wr (S + 1) 72 #[.slice A cells.length ca,.slice B knobs.length cb,.int .i64 wt] ∧ wr.ownsRow (S + 1 + 1) 27 3 u j (((placeP cells n ⟨x,y,z⟩).take j).map Pt.cs).flatten) (fun _ ii _ => cells.length - (intOf ii).toNat)
 case atStart => exact ⟨0,_,by omega,rfl,rfl,E12,B1',B2,World.ownsRow_nil _ _ _ _⟩
 case round =>
  clear E12 B1' B2
  obtain ⟨j,v,hj,rfl,rfl,E,BB,BK,own⟩ := hrel
  have hSr := BK.lt
  by_cases hlt : j < cells.length
  ·obtain ⟨g,off,⟨qx,qy,qz⟩,rfl,hq,hg,c0,c1,c2⟩ := hc.at_ hlt
   simp only at c0 c1 c2
   have hqo := hok _ (List.mem_of_getElem? hq)
   have hset : (placeP cells n ⟨x,y,z⟩)[j]? = some (addP (turnS ⟨qx,qy,qz⟩ n) ⟨x,y,z⟩) := by
    unfold placeP
    rw [List.getElem?_map,hq]
    rfl
   have Hset := Lib.hid hset
   clear hq hset
   have j1 : (0 : Int) ≤ j := by omega
   have j2 : (j : Int) < cells.length := by omega
   have f1 : IntKind.i64.wrap (n : Int) = n := IntWalk.i64_in _ (by omega)
   have d0 := E.cell c0
   have d1 := E.cell c1
   have d2 := E.cell c2
   have C0 := Lib.hid c0
   have C1 := Lib.hid c1
   have C2 := Lib.hid c2
   clear c0 c1 c2
   have k0 := BK.cell 0
   have k1 := BB.cell 1
   have k2 := BB.cell 2
   have k3 := BB.cell 3
   have k4 := BB.cell 4
   have hml : j + 1 ≤ maxLen := by unfold maxLen; omega
   have bk := BK.cell
   go_upto_region 6 with (fail)
   clear bk
   have own' : wr.drew.ownsRow _ _ _ _ _ _ := own.drew
   go_region_held3 (fun w' => w'.cell? ⟨S + 1,0,none⟩ = some (.slice (some ⟨g,off,none⟩) cells.length ca) ∧ w'.cell? ⟨g,off + j * 3,none⟩ = some (.int .i64 qx) ∧ w'.cell? ⟨g,off + j * 3 + 1,none⟩ = some (.int .i64 qy) ∧ w'.cell? ⟨g,off + j * 3 + 2,none⟩ = some (.int .i64 qz) ∧
     w'.cell? ⟨S,1,none⟩ = some (.int .i64 x) ∧ w'.cell? ⟨S,2,none⟩ = some (.int .i64 y) ∧ w'.cell? ⟨S,3,none⟩ = some (.int .i64 z) ∧ w'.cell? ⟨S,4,none⟩ = some (.int .u8 n))
    (first
     | exact ⟨BK4.cell 0,EE4.cell C0.out,EE4.cell C1.out,EE4.cell C2.out,BB4.cell 1,BB4.cell 2,BB4.cell 3,BB4.cell 4⟩
     | (go_split_ands; exact ⟨((Ext.refl _).alloc _).cell (by assumption),((Ext.refl _).alloc _).cell (by assumption),((Ext.refl _).alloc _).cell (by assumption),((Ext.refl _).alloc _).cell (by assumption),((Ext.refl _).alloc _).cell (by assumption),((Ext.refl _).alloc _).cell (by assumption),((Ext.refl _).alloc _).cell (by assumption),((Ext.refl _).alloc _).cell (by assumption)⟩)
     | (go_split_ands; exact ⟨E6.cell (by assumption),E6.cell (by assumption),E6.cell (by assumption),E6.cell (by assumption),E6.cell (by assumption),E6.cell (by assumption),E6.cell (by assumption),E6.cell (by assumption)⟩)
     | (go_split_ands; exact ⟨E5.cell (by assumption),E5.cell (by assumption),E5.cell (by assumption),E5.cell (by assumption),E5.cell (by assumption),E5.cell (by assumption),E5.cell (by assumption),E5.cell (by assumption)⟩)
     | go_keep)
    (first
     | (go_at_call 116; refine (turned_c qx qy qz n _ hn hqo).mono ?_; rintro e w5 ⟨rfl,E5⟩)
     | (go_at_call 115; refine (rPlus_c (turnS ⟨qx,qy,qz⟩ n).x (turnS ⟨qx,qy,qz⟩ n).y (turnS ⟨qx,qy,qz⟩ n).z x y z _ (turnS_ok hqo n) hp).mono ?_; rintro e w6 ⟨rfl,E6⟩)
     | (refine step_append_one #[.int .i64 ((turnS ⟨qx,qy,qz⟩ n).x + x),.int .i64 ((turnS ⟨qx,qy,qz⟩ n).y + y),.int .i64 ((turnS ⟨qx,qy,qz⟩ n).z + z)] rfl (.tmp 20) (.tmp 33) 47 rfl (S + 1 + 1) 27 27 i0 _ 3 24 Tryz.underlying47 hi0 hz0 hz1 hz2 rfl (by decide) v j _ _ rfl (own_ext (own_ext own' E5) E6) rfl rfl (by simp [Value.oneCell']) hml (by omega) (Nat.le_trans hSr (Nat.le_trans E5.size E6.size)) ?_; intro g4 cap4 w4 own4 hg4; have BB4 := (((BB.drew.ext E5).ext E6).alloc (.cells #[.int .i64 ((turnS ⟨qx,qy,qz⟩ n).x + x),.int .i64 ((turnS ⟨qx,qy,qz⟩ n).y + y),.int .i64 ((turnS ⟨qx,qy,qz⟩ n).z + z)] 27)).grown hg4 (own_ne own (by omega)); have BK4 := (((BK.drew.ext E5).ext E6).alloc (.cells #[.int .i64 ((turnS ⟨qx,qy,qz⟩ n).x + x),.int .i64 ((turnS ⟨qx,qy,qz⟩ n).y + y),.int .i64 ((turnS ⟨qx,qy,qz⟩ n).z + z)] 27)).grown hg4 (own_ne own (by omega)); have EE4 := (((E.drew.trans E5).trans E6).alloc (.cells #[.int .i64 ((turnS ⟨qx,qy,qz⟩ n).x + x),.int .i64 ((turnS ⟨qx,qy,qz⟩ n).y + y),.int .i64 ((turnS ⟨qx,qy,qz⟩ n).z + z)] 27)).grown hg4 (fun q hq => by have := (own.lt q hq).1; have := HS.out; omega)))
   go_wp2_with fail
   go_roundw
   case rel => exact ⟨j + 1,_,by omega,by go_num,rfl,EE4,BB4,BK4,by
    rw [take_map_snoc Hset.out]
    exact own4⟩
   case measure => simp only [intOf]; omega
  ·obtain rfl : cells.length = j := by omega
   obtain ⟨g,cap,rfl⟩ := own_form own hpos
   have hta : (placeP cells n ⟨x,y,z⟩).take cells.length = placeP cells n ⟨x,y,z⟩ := List.take_of_length_le (by rw [Hpl.out]; exact Nat.le_refl _)
   rw [hta] at own
   obtain ⟨X,hg,q1,q2⟩ := RowX.of_own own
   have hcs : Cells wr (some ⟨g,0,none⟩) cap (placeP cells n ⟨x,y,z⟩) := X.slice (pts_wide _) (by rw [List.length_map]) (by rw [Hpl.out]; exact q1) q2
   have RS := rSorted_c (placeP cells n ⟨x,y,z⟩) (some ⟨g,0,none⟩) cap wr hcs (by rw [Hpl.out]; exact hpos) (by rw [Hpl.out]; exact hl)
   rw [Hpl.out] at RS
   have bk := BK.cell
   clear hta
   go_wp2_with fail
   refine RS.mono ?_
   rintro v w2 ⟨g2,c2,hg2,rfl,r1,r2,X2,E2⟩
   go_wp2_with fail
   go_ret
   exact ⟨g2,c2,Nat.le_trans E.size hg2,rfl,r1,r2,X2,E.trans E2⟩

theorem infoKnb5 : (Tryz.prog.info? 109).map (fun i => (i.zero,i.size,i.bytes)) = some (some (.agg #[.int .i64 0,.int .i64 0,.int .i64 0,.int .u8 0,.int .u8 0]),5,32) := by kernel_rfl
def RKnobsPost (l : List Knb) (n : Nat) (w : World) (e : Ending) (w' : World) : Prop := ∃ A cap,e = .returned (.slice A n cap) ∧ SliceIs w' A n cap 5 (l.map Knb.cs) ∧ (∀ q,A = some q → w.heap.size ≤ q.block) ∧ Ext w w'
def RKnobsOwn (l : List Knb) (n : Nat) (w : World) (e : Ending) (w' : World) : Prop := ∃ v,e = .returned v ∧ ∃ b,w.heap.size ≤ b ∧ w'.ownsRow b 109 5 v n (l.map Knb.cs).flatten ∧ Ext w w'
theorem own_slice0 {w : World} {b : Nat} {e : TypeId} {sz : Nat} {v : Value} {n : Nat} {rows : List (List Value)} (hw : ∀ r ∈ rows,r.length = sz) (hn : rows.length = n) (h : w.ownsRow b e sz v n rows.flatten) : ∃ A cap,v = .slice A n cap ∧ SliceIs w A n cap sz rows ∧ (∀ q,A = some q → b ≤ q.block) := by
 rcases h.2 with ⟨hv,h0⟩ | ⟨g,cap,cur,hv,hg,hb,h1,h2,_,_⟩
 ·subst h0
  exact ⟨none,0,hv,⟨hn,Nat.le_refl _,Nat.zero_le _,hw,fun h => by omega⟩,fun q hq => by cases hq⟩
 ·subst hv
  obtain ⟨X,q0,q1,q2⟩ := RowX.of_own h
  exact ⟨_,_,rfl,X.slice hw hn q1 q2,fun q hq => by cases hq; exact q0⟩
set_option maxRecDepth 100000 in
set_option maxHeartbeats 8000000 in
theorem rKnobbedO_c (qs : List (Knd × KAt)) (QA : Option Addr) (qc : Nat) (i : Nat) (cells : List Pt) (knobs : List Knb) (wt : Int) (A : Option Addr) (ca : Nat) (B : Option Addr) (cb : Nat) (hi : qs[i]? = some (⟨cells,knobs,wt⟩,⟨A,ca,B,cb⟩)) (n : Nat) (x y z c : Int) (w : World) (hk : Kinds w QA qc qs)
  (hl : knobs.length ≤ 1000) (hok : ∀ p ∈ knobs,p.fine) (hn : n < 24) (hp : Pt.ok ⟨x,y,z⟩) :
  Calls Tryz.prog 171 #[.slice QA qs.length qc,.agg #[.int .i64 i,.int .i64 x,.int .i64 y,.int .i64 z,.int .u8 n,.int .u8 c]] w (RKnobsOwn (placeK knobs n ⟨x,y,z⟩) knobs.length w) := by
 have hil : i < qs.length := (List.getElem?_eq_some_iff.1 hi).1
 have hql : qs.length ≤ 9223372036854775807 := by have := hk.len; unfold maxLen at this; omega
 obtain ⟨W1,hW1,E1,B1,hz1⟩ := mk_ w #[.int .i64 i,.int .i64 x,.int .i64 y,.int .i64 z,.int .u8 n,.int .u8 c] 51
 obtain ⟨W2,hW2,E2,B2,hz2⟩ := mk_ W1 #[.slice A cells.length ca,.slice B knobs.length cb,.int .i64 wt] 72
 obtain ⟨kg,koff,k',p',rfl,hq,hka,hkg,c0,c1,c2⟩ := (hk.ext E1).at_ hil
 rw [hi] at hq
 cases hq
 simp only at c0 c1 c2
 have hc : Knobs w B cb knobs := (hk.k _ (List.mem_of_getElem? hi)).n
 rw [hz1] at B2
 have b1 := B1.cell
 have B1' := B1.ext E2
 have b2' := B1'.cell
 have b2 := B2.cell
 have i1 : (0 : Int) ≤ i := by omega
 have i2 : (i : Int) < qs.length := by omega
 go_enter Tryz.func171,Tryz.ntmps171
 go_wp2_with fail
 have E12 := E1.trans E2
 clear hW1 hW2 hz1 hz2 b1 b2 b2' B1 c0 c1 c2 hka hkg E1 E2
 have Hpl := Lib.hid (placeK_len knobs n ⟨x,y,z⟩)
 obtain ⟨S,hS⟩ : ∃ S,w.heap.size = S := ⟨_,rfl⟩
 rw [hS] at B1' B2 ⊢
 have HS := Lib.hid hS
 clear hS
 obtain ⟨i0,hi0,hz0,hz1,hz2⟩ := info_parts infoKnb5
 go_loopw [6,7] (fun v ii wr => ∃ (j : Nat) (u : Value),j ≤ knobs.length ∧ ii = .int .i64 j ∧ u = v ∧ Ext w wr ∧ Blk wr S 51 #[.int .i64 i,.int .i64 x,.int .i64 y,.int .i64 z,.int .u8 n,.int .u8 c] ∧ Blk wr (S + 1) 72 #[.slice A cells.length ca,.slice B knobs.length cb,.int .i64 wt] ∧ wr.ownsRow (S + 1 + 1) 109 5 u j (((placeK knobs n ⟨x,y,z⟩).take j).map Knb.cs).flatten) (fun _ ii _ => knobs.length - (intOf ii).toNat)
 case atStart => exact ⟨0,_,by omega,rfl,rfl,E12,B1',B2,World.ownsRow_nil _ _ _ _⟩
 case round =>
  clear E12 B1' B2
  obtain ⟨j,v,hj,rfl,rfl,E,BB,BK,own⟩ := hrel
  have hSr := BK.lt
  by_cases hlt : j < knobs.length
  ·obtain ⟨g,off,⟨⟨qx,qy,qz⟩,dir,sort⟩,rfl,hq, -,hg,c0,c1,c2,c3,c4⟩ := hc.at_ hlt
   simp only at c0 c1 c2 c3 c4
   obtain ⟨hqo,hd0,hd5⟩ := hok _ (List.mem_of_getElem? hq)
   simp only at hqo hd0 hd5
   obtain ⟨d,rfl⟩ : ∃ d : Nat,dir = d := ⟨dir.toNat,by omega⟩
   have hd6 : d < 6 := by omega
   have hset : (placeK knobs n ⟨x,y,z⟩)[j]? = some ⟨addP (turnS ⟨qx,qy,qz⟩ n) ⟨x,y,z⟩,dirT d n,sort⟩ := by
    unfold placeK
    rw [List.getElem?_map,hq]
    rfl
   have Hset := Lib.hid hset
   clear hq hset
   have j1 : (0 : Int) ≤ j := by omega
   have j2 : (j : Int) < knobs.length := by omega
   have hdl := dirT_lt hd6 hn
   have f1 : IntKind.i64.wrap (n : Int) = n := IntWalk.i64_in _ (by omega)
   have f2 : IntKind.i64.wrap (d : Int) = d := IntWalk.i64_in _ (by omega)
   have f3 : IntKind.u8.wrap (dirT d n : Int) = dirT d n := IntWalk.u8_in _ (by omega)
   have d0 := E.cell c0
   have d1 := E.cell c1
   have d2 := E.cell c2
   have d3 := E.cell c3
   have d4 := E.cell c4
   clear c0 c1 c2 c3 c4
   have bk := BK.cell
   obtain ⟨W4,hW4,E4,B4,hz4⟩ := mk_ wr #[.int .i64 qx,.int .i64 qy,.int .i64 qz,.int .u8 d,.int .u8 sort] 109
   obtain ⟨KB,hKB⟩ : ∃ KB,wr.heap.size = KB := ⟨_,rfl⟩
   rw [hKB] at B4
   have k0 := B4.cell 0
   have k1 := B4.cell 1
   have k2 := B4.cell 2
   have k3 := B4.cell 3
   have k4 := B4.cell 4
   have l1 := (BB.ext E4).cell 1
   have l2 := (BB.ext E4).cell 2
   have l3 := (BB.ext E4).cell 3
   have l4 := (BB.ext E4).cell 4
   have hml : j + 1 ≤ maxLen := by unfold maxLen; omega
   go_upto_region 7 with (fail)
   have HKB := Lib.hid hKB
   clear bk d0 d1 d2 d3 d4 hW4 hz4 hKB
   have own' : W4.drew.ownsRow _ _ _ _ _ _ := (own_ext own E4).drew
   have EX : Ext W4 W4.drew := (Ext.refl _).drew
   have BBx := BB.ext E4
   have BKx := BK.ext E4
   have EEx := E.trans E4
   clear BB BK E
   go_region_held3 (fun w' => w'.cell? ⟨KB,0,none⟩ = some (.int .i64 qx) ∧ w'.cell? ⟨KB,1,none⟩ = some (.int .i64 qy) ∧ w'.cell? ⟨KB,2,none⟩ = some (.int .i64 qz) ∧ w'.cell? ⟨KB,3,none⟩ = some (.int .u8 d) ∧ w'.cell? ⟨KB,4,none⟩ = some (.int .u8 sort) ∧
     w'.cell? ⟨S,1,none⟩ = some (.int .i64 x) ∧ w'.cell? ⟨S,2,none⟩ = some (.int .i64 y) ∧ w'.cell? ⟨S,3,none⟩ = some (.int .i64 z) ∧ w'.cell? ⟨S,4,none⟩ = some (.int .u8 n))
    (first
     | exact ⟨KB4.cell 0,KB4.cell 1,KB4.cell 2,KB4.cell 3,KB4.cell 4,BB4.cell 1,BB4.cell 2,BB4.cell 3,BB4.cell 4⟩
     | exact ⟨EX.cell k0,EX.cell k1,EX.cell k2,EX.cell k3,EX.cell k4,EX.cell l1,EX.cell l2,EX.cell l3,EX.cell l4⟩
     | exact ⟨(EX.alloc _).cell k0,(EX.alloc _).cell k1,(EX.alloc _).cell k2,(EX.alloc _).cell k3,(EX.alloc _).cell k4,(EX.alloc _).cell l1,(EX.alloc _).cell l2,(EX.alloc _).cell l3,(EX.alloc _).cell l4⟩
     | go_keep)
    (first
     | (go_at_call 116; refine (turned_c qx qy qz n _ hn hqo).mono ?_; rintro e wn ⟨rfl,En⟩; replace EX := EX.trans En; clear En)
     | (go_at_call 180; refine (pointed_c d n hd6 hn _).mono ?_; rintro e wn ⟨rfl,En⟩; replace EX := EX.trans En; clear En)
     | (go_at_call 115; refine (rPlus_c (turnS ⟨qx,qy,qz⟩ n).x (turnS ⟨qx,qy,qz⟩ n).y (turnS ⟨qx,qy,qz⟩ n).z x y z _ (turnS_ok hqo n) hp).mono ?_; rintro e wn ⟨rfl,En⟩; replace EX := EX.trans En; clear En)
     | (refine step_append_one #[.int .i64 ((turnS ⟨qx,qy,qz⟩ n).x + x),.int .i64 ((turnS ⟨qx,qy,qz⟩ n).y + y),.int .i64 ((turnS ⟨qx,qy,qz⟩ n).z + z),.int .u8 (dirT d n),.int .u8 sort] rfl (.tmp 26) (.tmp 47) 70 rfl (S + 1 + 1) 109 109 i0 _ 5 32 Tryz.underlying70 hi0 hz0 hz1 hz2 rfl (by decide) v j _ _ rfl (own_ext (own_ext own E4) EX) rfl rfl (by simp [Value.oneCell']) hml (by omega) (Nat.le_trans hSr (Nat.le_trans E4.size EX.size)) ?_; intro g4 cap4 w4 own4 hg4; have BB4 := ((BBx.ext EX).alloc (.cells #[.int .i64 ((turnS ⟨qx,qy,qz⟩ n).x + x),.int .i64 ((turnS ⟨qx,qy,qz⟩ n).y + y),.int .i64 ((turnS ⟨qx,qy,qz⟩ n).z + z),.int .u8 (dirT d n),.int .u8 sort] 109)).grown hg4 (own_ne own (by omega)); have BK4 := ((BKx.ext EX).alloc (.cells #[.int .i64 ((turnS ⟨qx,qy,qz⟩ n).x + x),.int .i64 ((turnS ⟨qx,qy,qz⟩ n).y + y),.int .i64 ((turnS ⟨qx,qy,qz⟩ n).z + z),.int .u8 (dirT d n),.int .u8 sort] 109)).grown hg4 (own_ne own (by omega)); have KB4 := ((B4.ext EX).alloc (.cells #[.int .i64 ((turnS ⟨qx,qy,qz⟩ n).x + x),.int .i64 ((turnS ⟨qx,qy,qz⟩ n).y + y),.int .i64 ((turnS ⟨qx,qy,qz⟩ n).z + z),.int .u8 (dirT d n),.int .u8 sort] 109)).grown hg4 (fun h => by have := (own.lt KB h.symm).2; have := HKB.out; omega); have EE4 := ((EEx.trans EX).alloc (.cells #[.int .i64 ((turnS ⟨qx,qy,qz⟩ n).x + x),.int .i64 ((turnS ⟨qx,qy,qz⟩ n).y + y),.int .i64 ((turnS ⟨qx,qy,qz⟩ n).z + z),.int .u8 (dirT d n),.int .u8 sort] 109)).grown hg4 (fun q hq => by have := (own.lt q hq).1; have := HS.out; omega)))
   all_goals
    go_wp2_with fail
    go_roundw
    case rel => exact ⟨j + 1,_,by omega,by go_num,rfl,EE4,BB4,BK4,by
     rw [take_map_snoc Hset.out]
     exact own4⟩
    case measure => simp only [intOf]; omega
  ·obtain rfl : knobs.length = j := by omega
   have hta : (placeK knobs n ⟨x,y,z⟩).take knobs.length = placeK knobs n ⟨x,y,z⟩ := List.take_of_length_le (by rw [Hpl.out]; exact Nat.le_refl _)
   rw [hta] at own
   clear hta
   obtain ⟨RA,rc,rfl, -, -⟩ := own_slice0 (knbs_wide _) (by rw [List.length_map]; exact Hpl.out) own
   have Hown := Lib.hid own
   clear own
   have bk := BK.cell
   go_wp2_with fail
   go_ret
   exact ⟨_,rfl,S + 1 + 1,by have := HS.out; omega,Hown.out,E⟩
end Go.Proofs.YtjacbhomhjoolaaGreat
