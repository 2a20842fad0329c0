/- slices.SortFunc on cells by the program's order: the block holds the sorted cells. Sorted of the reference: the cells in order, in new memory. Kinds, in memory and by themselves: which are valid. CheckKind of the program: the error of a kind. No conditions. -/
import Derived.Test.YtenigkngmdofiaaLk2
import Derived.Shelf.SlSortCmp.WholeK
import Derived.Sort.LotA
import Derived.Shelf.SlSortCmp.QuietGrown
import Derived.BigRegion
import Derived.ChangeAlike

namespace Go.Proofs.Ytenigkngmdofiaa
open Go.RowKit

instance : Inhabited Pt := ⟨⟨0, 0, 0⟩⟩
theorem wp_region_tailG {P : Program} {id : Nat} {Q : Exit → Act → World → Prop} {a : Act} {w : World} {l : List Oper} (n : Nat) (hm : P.follows .mixedOrders = true) (hB : Region.lexTailB .any l.toArray n = true)
    (h : wpQuiet P l.toArray (fun w' => ∃ p : Go.GrownBy, w' = Go.Sort.grow (w.drewN p.n) p.os) (fun a' => ∀ w', (∃ p : Go.GrownBy, w' = Go.Sort.grow (w.drewN p.n) p.os) → wpList P l.toArray Q (l.drop n) a' w') (l.take n) a) : (Code.region id l.toArray true).wp P Q a w := by
  simp only [Region.lexTailB, Bool.and_eq_true, decide_eq_true_eq] at hB
  obtain ⟨⟨⟨⟨hsel, hn⟩, hs⟩, hc⟩, hlex⟩ := hB
  have hn' : n < l.length := by simpa using hn
  have htl : (l.take n).length = n := by simp; omega
  have hdl : (l.drop n).length = l.toArray.size - n := by simp
  have inv0 : HeadInv .any l.toArray n (Array.replicate l.toArray.size false) :=
    ⟨by simp, fun j oj _ hl => (by rw [getD_replicate_false] at hl; cases hl), fun t _ ht => getD_in (by simpa using ht) (getD_replicate_false _ _)⟩
  have H := headQ_lex (P := P) (C := fun w' => ∃ p : Go.GrownBy, w' = Go.Sort.grow (w.drewN p.n) p.os) (md := .any) (g := l.toArray.size - n) hsel hs hc hn (l.take n) 0 _ a (fun j hj => by
    rw [htl] at hj
    simp [hj]) (by simpa using htl) inv0 (by rw [htl]; exact hlex) h
  refine wp_region_any hm ?_
  have H2 := any_of_headQ (Q' := Q) (g := l.toArray.size - n) (fun listed a' hL w' hw' => by
    have := wpAny_of_seq (md := .any) (Q' := Q) (l.drop n) n listed a' w' (fun j => by simp [List.getElem?_drop]) (by rw [hdl]; exact hL.1) (hL.2 w' hw')
    rwa [hdl] at this) _ _ _ H { w with drawn := w.drawn + 1 } ⟨⟨1, #[]⟩, by rw [Go.Sort.grow_empty]; rfl⟩
  rw [htl, show n + (l.toArray.size - n) = l.toArray.size from by omega] at H2
  exact H2
/-- New blocks and draws, counted. -/
def Grn (w w' : World) : Prop := ∃ q os, w' = Go.Sort.grow (w.drewN q) os
theorem Grn.refl (w : World) : Grn w w := ⟨0, #[], by rw [Go.Sort.grow_empty]; rfl⟩
theorem Grn.trans {a b c : World} (h : Grn a b) (k : Grn b c) : Grn a c := by
  obtain ⟨q, os, rfl⟩ := h
  obtain ⟨q', os', rfl⟩ := k
  exact ⟨q + q', os ++ os', by
    show Go.Sort.grow (Go.Sort.grow ((a.drewN q).drewN q') os) os' = _
    rw [Go.Sort.grow_grow, World.drewN_drewN]⟩
theorem Grn.alloc {a b : World} (h : Grn a b) (o : Obj) : Grn a (b.alloc o) := h.trans ⟨0, #[o], by
  show b.alloc o = Go.Sort.grow b #[o]
  unfold World.alloc Go.Sort.grow
  rw [Array.push_eq_append]⟩
theorem Grn.ext {a b : World} (h : Grn a b) : Ext a b := by
  obtain ⟨q, os, rfl⟩ := h
  exact grow_below a ⟨os, a.drawn + q⟩
set_option maxHeartbeats 1600000 in
theorem order_g (a b c d e f : Int) (w : World) :
    Calls Try.prog 55 #[.agg #[.int .i64 a, .int .i64 b, .int .i64 c], .agg #[.int .i64 d, .int .i64 e, .int .i64 f]] w fun v w' => v = .returned (.int .i64 (ordP ⟨a, b, c⟩ ⟨d, e, f⟩)) ∧ Grn w w' := by
  have hG := ((Grn.refl w).alloc (.cells #[.int .i64 a, .int .i64 b, .int .i64 c] 23)).alloc (.cells #[.int .i64 d, .int .i64 e, .int .i64 f] 23)
  obtain ⟨W1, hW1, E1, B1, hz1⟩ := mk_ w #[.int .i64 a, .int .i64 b, .int .i64 c] 23
  obtain ⟨W2, hW2, E2, B2, hz2⟩ := mk_ W1 #[.int .i64 d, .int .i64 e, .int .i64 f] 23
  rw [hW1, hW2] at hG
  have B1' := B1.ext E2
  rw [hz1] at B2
  have a0 := Go.cell_grown B1'.lt (B1'.cell 0)
  have a1 := Go.cell_grown B1'.lt (B1'.cell 1)
  have a2 := Go.cell_grown B1'.lt (B1'.cell 2)
  have c0 := Go.cell_grown B2.lt (B2.cell 0)
  have c1 := Go.cell_grown B2.lt (B2.cell 1)
  have c2 := Go.cell_grown B2.lt (B2.cell 2)
  go_enter Try.func55, Try.ntmps55
  go_upto_region 1 with (fail)
  clear hW1 hW2 hz1 hz2 B1 E1 E2 B1' B2
  refine wp_region_tailG 15 (by kernel_rfl) (by kernel_rfl) ?_
  simp only [List.take_succ_cons, List.take_zero, List.drop_succ_cons, List.drop_zero]
  repeat (go_big_quiet_step ((go_at_call 83; exact (cmpZ_c _ _ _).mono fun _ _ ⟨he, hw⟩ => ⟨he, _, hw.symm⟩)))
  refine wpQuiet_nil ?_
  intro W3 hW3
  have hG3 : Grn w W3 := by
    obtain ⟨p, rfl⟩ := hW3
    exact hG.trans ⟨p.n, p.os, rfl⟩
  clear hW3 hG a0 a1 a2 c0 c1 c2
  go_wp2_with fail
  refine (or3_c _ _ _ _ _).mono ?_
  rintro v w4 ⟨rfl, rfl⟩
  go_wp2_with fail
  go_ret
  exact ⟨rfl, hG3.alloc _⟩

/-! The sort. -/
def sortP (l : List Pt) : List Pt := l.mergeSort fun x y => !ltP y x
def ptsA (l : List Pt) : Array Value := rowsA (l.map Pt.cs)
theorem pts_wide (l : List Pt) : ∀ r ∈ l.map Pt.cs, r.length = 3 := fun r h => by
  obtain ⟨p, _, rfl⟩ := List.mem_map.1 h
  rfl
theorem ltOf_ordP : ltOf ordP = ltP := by
  funext x y
  unfold ltOf
  rw [Bool.eq_iff_iff, decide_eq_true_eq, ordP_neg]
theorem swoP : Go.Sort.SWO ltP where
  irrefl := ltP_irrefl
  trans _ _ _ := ltP_trans
  ntrans x y z h k := by
    rw [ltP_not] at *
    omega
theorem ltP_total (x y : Pt) (h : ltP x y = false) (k : ltP y x = false) : x = y := by
  rcases ordP_cases x y with ⟨e, _⟩ | ⟨e, _⟩ | ⟨e, _⟩
  · rw [h] at e
    cases e
  · exact e
  · rw [k] at e
    cases e
theorem flatK_pts (l : List Pt) : Go.Sort.flatK Pt.cs 3 l.toArray = ptsA l := by
  refine rowsA_ext (pts_wide l) (by simp) fun i j r u hr hu => ?_
  rw [List.getElem?_map] at hr
  obtain ⟨p, hp, rfl⟩ := Option.map_eq_some_iff.1 hr
  obtain ⟨hi, hpi⟩ := List.getElem?_eq_some_iff.1 hp
  have hj : j < 3 := (List.getElem?_eq_some_iff.1 hu).1
  have hlt : i * 3 + j < l.toArray.size * 3 := by simp; omega
  rw [Array.getElem?_eq_getElem (by simpa using hlt), ← getElem!_pos, Go.Sort.get_flatK _ _ _ _ hlt, show (i * 3 + j) / 3 = i by omega, show (i * 3 + j) % 3 = j by omega, getElem!_pos l.toArray i (by simpa using hi)]
  have e1 : l.toArray[i]'(by simpa using hi) = p := by simpa using hpi
  rw [e1, ← hu]
  rw [List.getElem!_eq_getElem?_getD, hu]
  rfl
theorem putPts {w : World} {g n : Nat} {os : Array Obj} {l l' : List Pt} {t : TypeId} (hl : l'.length = l.length) (hb : Blk w g t (ptsA l)) :
    Blk (sortWorldK Pt.cs 3 w g 0 n l'.toArray os) g t (ptsA l') ∧ w.grownBy (sortWorldK Pt.cs 3 w g 0 n l'.toArray os) (some g) := by
  have hg := hb.lt
  constructor
  · unfold sortWorldK Go.Sort.putRowK
    rw [flatK_pts]
    show (Go.Sort.grow _ _).heap[g]? = _
    rw [Go.Sort.heap_grow_old _ _ (by simpa using hg)]
    have hb' : w.heap[g]? = some (.cells (ptsA l) t (0, 0)) := hb
    have e : Go.Sort.putCells id 0 (ptsA l') (ptsA l) = ptsA l' := by
      apply Array.ext_getElem?
      intro k
      have hs : (ptsA l').size = (ptsA l).size := by unfold ptsA; rw [rowsA_size (pts_wide l), rowsA_size (pts_wide l')]; simp [hl]
      rcases Nat.lt_or_ge k (ptsA l).size with hk | hk
      · have hk' : k < (ptsA l').size := by omega
        simp [Go.Sort.putCells, hk, hk']
      · rw [Array.getElem?_eq_none (by simpa [Go.Sort.putCells] using hk), Array.getElem?_eq_none (by omega)]
    simp [Go.Sort.putRow, Go.Sort.mapBlock, Go.Sort.ahead, Array.getElem?_modify, hb', Go.Sort.onCells, e]
  · refine ⟨rfl, rfl, rfl, by simp [sortWorldK, Go.Sort.putRowK], fun k hk hne => ?_⟩
    unfold sortWorldK Go.Sort.putRowK
    rw [Go.Sort.heap_grow_old _ _ (by simpa using hk)]
    have : g ≠ k := fun e => hne (by rw [e])
    simp [Go.Sort.putRow, Go.Sort.mapBlock, Go.Sort.ahead, Array.getElem?_modify, this]
theorem sortFunc_c (l : List Pt) (g : Nat) (w : World) (hB : Blk w g 23 (ptsA l)) (hn : l.length ≤ 100000) :
    Calls Try.prog 92 #[.slice (some ⟨g, 0, none⟩) l.length l.length, .func (.func 55) #[] #[]] w fun e w' => e = .returned (.tuple #[]) ∧ Blk w' g 23 (ptsA (sortP l)) ∧ w.grownBy w' (some g) := by
  have hH : Go.Sort.HoldsK Pt.cs 3 w g 0 l.toArray := by
    unfold Go.Sort.HoldsK
    rw [flatK_pts]
    intro j hj
    refine ⟨?_, by rw [Nat.zero_add]; exact hB.frozen j⟩
    rw [Nat.zero_add, hB.cell, Array.getElem?_eq_getElem hj, getElem!_pos (ptsA l) j hj]
    rfl
  have hcmp : CmpLays Try.prog 55 #[] Pt.cs 3 ordP g 0 l.toArray.size w := fun m os dk _ x y => (order_g x.x x.y x.z y.x y.y y.z _).mono fun _ _ ⟨he, q, os', hw⟩ => ⟨he, q, os', hw⟩
  have h := AnyQ.slices_SortFunc sortCells 3 Try.isAgg23 Try.sizeOf23 Pt.cs (fun _ => rfl) (fun x v hv => by
      simp only [Pt.cs, List.mem_cons, List.not_mem_nil, or_false] at hv
      rcases hv with rfl | rfl | rfl <;> rfl) ordP (by rw [ltOf_ordP]; exact swoP) 55 #[] g 0 l.length l.toArray w (enters_of Try.func55 (by kernel_rfl) rfl) hcmp hH hB.lt (by simp; omega)
  rw [ltOf_ordP] at h
  refine (show Calls Try.prog 92 _ _ _ from h).mono ?_
  rintro e w' ⟨rfl, d', n, os, hp, hs, rfl⟩
  obtain rfl : d' = (sortP l).toArray := Array.ext' (Go.Sort.sorted_unique_holds swoP ltP_total l.toArray d' hp hs)
  exact ⟨rfl, putPts (List.length_mergeSort l) hB⟩
end Go.Proofs.Ytenigkngmdofiaa

namespace Go.Proofs.Ytenigkngmdofiaa
open Go.RowKit

theorem sortP_pairs (l : List Pt) : (sortP l).Pairwise fun p q => ltP q p = false := by
  have h := List.pairwise_mergeSort (le := fun x y => !ltP y x) (fun a b c h k => by
    simp only [Bool.not_eq_true', ltP_not] at *
    omega) (fun a b => by
    cases h : ltP b a
    · rfl
    · rw [ltP_anti h]
      rfl) l
  exact h.imp fun h => by simpa using h
theorem sortP_perm (l : List Pt) : (sortP l).Perm l := List.mergeSort_perm _ _
theorem sortP_len (l : List Pt) : (sortP l).length = l.length := List.length_mergeSort _
theorem sortP_is {l l' : List Pt} (hp : l'.Perm l) (hs : l'.Pairwise fun p q => ltP q p = false) : l' = sortP l :=
  List.Perm.eq_of_pairwise (fun a b _ _ h k => ltP_total a b k h) hs (sortP_pairs l) (hp.trans (sortP_perm l).symm)
/-- The state of an insertion: the first cells are in order but for x, which is before all of B. -/
structure Ins (l : List Pt) (j k : Nat) (A : List Pt) (x : Pt) (B C : List Pt) : Prop where
  k : A.length = k
  j : A.length + B.length = j
  perm : (A ++ x :: (B ++ C)).Perm l
  sorted : (A ++ B).Pairwise fun p q => ltP q p = false
  less : ∀ b ∈ B, ltP x b = true
theorem Ins.step {l : List Pt} {j k : Nat} {A : List Pt} {a x : Pt} {B C : List Pt} (h : Ins l j (k + 1) (A ++ [a]) x B C) (hx : ltP x a = true) : Ins l j k A x (a :: B) C := by
  obtain ⟨h1, h2, h3, h4, h5⟩ := h
  simp only [List.length_append, List.length_cons, List.length_nil] at h1 h2
  refine ⟨by omega, by simp only [List.length_cons]; omega, ?_, ?_, fun b hb => ?_⟩
  · refine List.Perm.trans ?_ h3
    rw [List.append_assoc]
    exact List.Perm.append_left _ (List.Perm.swap _ _ _)
  · rw [List.append_assoc] at h4
    exact h4
  · rcases List.mem_cons.1 hb with rfl | hb
    · exact hx
    · exact h5 b hb
theorem Ins.stop {l : List Pt} {j k : Nat} {A : List Pt} {x : Pt} {B C : List Pt} (h : Ins l j k A x B C) (hx : ∀ a A', A = A' ++ [a] → ltP x a = false) : ((A ++ x :: (B ++ C)).take (j + 1)).Pairwise fun p q => ltP q p = false := by
  obtain ⟨h1, h2, h3, h4, h5⟩ := h
  have e : (A ++ x :: (B ++ C)).take (j + 1) = A ++ x :: B := by
    rw [show A ++ x :: (B ++ C) = (A ++ x :: B) ++ C by simp, List.take_append_of_le_length (by simp; omega), List.take_of_length_le (by simp; omega)]
  rw [e]
  rw [List.pairwise_append] at h4 ⊢
  obtain ⟨p1, p2, p3⟩ := h4
  refine ⟨p1, List.pairwise_cons.2 ⟨fun b hb => ltP_anti (h5 b hb), p2⟩, fun a ha b hb => ?_⟩
  rcases List.mem_cons.1 hb with rfl | hb
  · rcases List.eq_nil_or_concat A with rfl | ⟨A', a', hA⟩
    · cases ha
    · rw [List.concat_eq_append] at hA
      have q := hx a' A' hA
      subst hA
      rcases List.mem_append.1 ha with h | h
      · have r := (List.pairwise_append.1 p1).2.2 a h a' (List.mem_singleton_self _)
        rw [ltP_not] at *
        omega
      · rw [List.mem_singleton.1 h]
        exact q
  · exact p3 a ha b hb
theorem Ins.start {l L : List Pt} {j : Nat} {x : Pt} (hp : L.Perm l) (hs : (L.take j).Pairwise fun p q => ltP q p = false) (hx : L[j]? = some x) : Ins l j j (L.take j) x [] (L.drop (j + 1)) ∧ L = L.take j ++ x :: ([] ++ L.drop (j + 1)) := by
  obtain ⟨hj, hxj⟩ := List.getElem?_eq_some_iff.1 hx
  have e : L = L.take j ++ x :: ([] ++ L.drop (j + 1)) := by
    rw [List.nil_append, ← hxj, ← List.drop_eq_getElem_cons hj, List.take_append_drop]
  exact ⟨⟨by rw [List.length_take]; omega, by rw [List.length_take]; simp; omega, by rw [← e]; exact hp, by rw [List.append_nil]; exact hs, fun b hb => by cases hb⟩, e⟩
theorem pt_one {c : List Pt} : ∀ u ∈ (c.map Pt.cs).flatten, u.oneCell' = true := by
  intro u hu
  rw [List.mem_flatten] at hu
  obtain ⟨r, hr, hu⟩ := hu
  obtain ⟨x, _, rfl⟩ := List.mem_map.1 hr
  unfold Pt.cs at hu
  simp only [List.mem_cons, List.not_mem_nil, or_false] at hu
  rcases hu with rfl | rfl | rfl <;> rfl
theorem infoPt3 : (Try.prog.info? 23).map (fun i => (i.zero, i.size, i.bytes)) = some (some (.agg #[.int .i64 0, .int .i64 0, .int .i64 0]), 3, 24) := by kernel_rfl
def RCellsPost (l : List Pt) (n : Nat) (w : World) (e : Ending) (w' : World) : Prop := ∃ g cap, w.heap.size ≤ g ∧ e = .returned (.slice (some ⟨g, 0, none⟩) n cap) ∧ n ≤ cap ∧ cap ≤ maxLen ∧ RowX w' g 23 (l.map Pt.cs) ∧ Ext w w'
/-- Two rows exchanged: the new world under one name. -/
theorem RowX.swap3 {w : World} {g : Nat} {t : TypeId} {rows : List (List Value)} (h : RowX w g t rows) (hw : ∀ r ∈ rows, r.length = 3) {k m : Nat} (hk : k < rows.length) (hm : m < rows.length) (a b c d e f : Value) :
    ∃ w2, (((((w.setCell ⟨g, k * 3, none⟩ a).setCell ⟨g, k * 3 + 1, none⟩ b).setCell ⟨g, k * 3 + 2, none⟩ c).setCell ⟨g, m * 3, none⟩ d).setCell ⟨g, m * 3 + 1, none⟩ e).setCell ⟨g, m * 3 + 2, none⟩ f = w2 ∧ RowX w2 g t ((rows.set k [a, b, c]).set m [d, e, f]) ∧ (∀ w0, Ext w0 w → w0.heap.size ≤ g → Ext w0 w2) := by
  refine ⟨_, rfl, ?_, fun w0 hE hg => setsW_ext [d, e, f] (m * 3) (setsW_ext [a, b, c] (k * 3) hE hg) hg⟩
  exact (h.store hw hk [a, b, c] rfl).store (fun r hr => by
    rcases List.mem_or_eq_of_mem_set hr with h | h
    · exact hw r h
    · rw [h]
      rfl) (by rw [List.length_set]; exact hm) [d, e, f] rfl
set_option maxRecDepth 100000 in
set_option maxHeartbeats 16000000 in
theorem rSorted_c (l : List Pt) (A : Option Addr) (cap : Nat) (w : World) (hs : Cells w A cap l) (hn : 0 < l.length) (hl : l.length ≤ 1000) :
    Calls Try.prog 93 #[.slice A l.length cap] w (RCellsPost (sortP l) l.length w) := by
  obtain ⟨b, off, rfl, hcells⟩ := SliceIs.adds hs hn (by decide)
  obtain ⟨iL, hiL, zL0, zL1, zL2⟩ := info_parts infoPt3
  have hfl : (l.map Pt.cs).flatten.length = l.length * 3 := by rw [rowsF_len (pts_wide l), List.length_map]
  obtain ⟨xs, hxs⟩ : ∃ xs, (l.map Pt.cs).flatten = xs := ⟨_, rfl⟩
  have hone : ∀ u ∈ xs, u.oneCell' = true := by rw [← hxs]; exact pt_one
  obtain ⟨n, hnn⟩ : ∃ n, l.length = n := ⟨_, rfl⟩
  rw [hxs] at hcells hfl
  rw [hnn] at hfl hn hl ⊢
  have Hnn := Lib.hid hnn
  have Hxs := Lib.hid hxs
  have Hcells := Lib.hid hcells
  have Hone := Lib.hid hone
  have Hfl := Lib.hid hfl
  have m1 : 0 + n ≤ maxLen := by unfold maxLen; omega
  have m2 : (0 + n) * 24 ≤ 140737488355328 := by omega
  clear hxs hone hcells hfl hs hnn
  go_enter Try.func93, Try.ntmps93
  go_wp2_with (at_builtin; refine wpList_append_own _ rfl (.tmp 6) (.tmp 7) 36 rfl w.heap.size 23 iL _ 3 24 Try.underlying36 hiL zL0 zL1 zL2 rfl (by decide) _ 0 [] rfl (World.ownsRow_made w #[] 0 (Nat.le_refl _) (by unfold maxLen; omega) rfl) ⟨b, off, none⟩ n cap xs rfl Hfl.out (fun j u hu => ((Ext.refl w).alloc _).cell (Hcells.out j u hu)) Hone.out m1 m2 (by simp) ?_; intro v' w4 own4 hg4 h4; obtain ⟨g, cp, rfl⟩ := own_form own4 (by omega))
  have E4 := ((Ext.refl w).alloc (.cells #[] 23)).grown hg4 (fun r e => by cases e; exact Nat.le_refl _)
  rw [Nat.zero_add, List.nil_append, ← Hxs.out] at own4
  obtain ⟨X4, hg, q1, q2⟩ := RowX.of_own own4
  clear own4 hg4 h4 zL0 zL1 zL2 hiL m1 m2
  go_loopw [4] (fun i wr => ∃ (j : Nat) (L : List Pt), j ≤ n ∧ i = .int .i64 j ∧ Ext w wr ∧ RowX wr g 23 (L.map Pt.cs) ∧ L.Perm l ∧ Hid ((L.take j).Pairwise fun p q => ltP q p = false)) (fun i _ => n - (intOf i).toNat)
  case atStart => exact ⟨0, l, by omega, rfl, E4, X4, List.Perm.refl _, Lib.hid List.Pairwise.nil⟩
  case round =>
    clear E4 X4
    obtain ⟨j, L, hj, rfl, E, X, hp, Hs⟩ := hrel
    have hLn : L.length = n := hp.length_eq.trans Hnn.out
    have Hp := Lib.hid hp
    have HLn := Lib.hid hLn
    clear hp hLn
    by_cases hlt : j < n
    · obtain ⟨x, hx⟩ : ∃ x, L[j]? = some x := ⟨_, List.getElem?_eq_getElem (by rw [HLn.out]; exact hlt)⟩
      obtain ⟨hI, hL⟩ := Ins.start Hp.out Hs.out hx
      rw [hL] at X
      clear hx hL
      go_wp2_with fail
      obtain ⟨wo, hwo⟩ : ∃ wo : World, wo = wr := ⟨_, rfl⟩
      clear hwo
      go_loopw [5] (fun i wr => ∃ (k : Nat) (A : List Pt) (x : Pt) (B C : List Pt), k ≤ j ∧ i = .int .i64 k ∧ Ext w wr ∧ RowX wr g 23 ((A ++ x :: (B ++ C)).map Pt.cs) ∧ Ins l j k A x B C) (fun i _ => (intOf i).toNat)
      case atStart => exact ⟨j, _, _, _, _, Nat.le_refl _, rfl, E, X, hI⟩
      case round =>
        clear E X hI Hs Hp HLn
        obtain ⟨k, A, x, B, C, hkj, rfl, E, X, hI⟩ := hrel
        have hlen : (A ++ x :: (B ++ C)).length = n := hI.perm.length_eq.trans Hnn.out
        have hAk := hI.k
        have hxk : ((A ++ x :: (B ++ C)).map Pt.cs)[k]? = some (Pt.cs x) := by
          rw [List.getElem?_map, List.getElem?_append_right (by omega), hAk, Nat.sub_self]
          rfl
        have x0 := X.cell (pts_wide _) hxk (j := 0) rfl
        have x1 := X.cell (pts_wide _) hxk (j := 1) rfl
        have x2 := X.cell (pts_wide _) hxk (j := 2) rfl
        simp only [Nat.add_zero] at x0
        have HAk := Lib.hid hAk
        have Hlen := Lib.hid hlen
        clear hxk hAk hlen
        by_cases hk0 : k = 0
        · have z1 : decide ((0 : Int) < (k : Int)) = false := by simp; omega
          have z2 : decide (0 < k) = false := by simp; omega
          have hstop : ∀ a A', A = A' ++ [a] → ltP x a = false := fun a A' h => by
            have := HAk.out
            rw [h] at this
            simp at this
            omega
          have Hstop := Lib.hid hstop
          clear hstop hk0
          go_upto_region 6 with (fail)
          refine wp_region_grow (by kernel_rfl) (by kernel_rfl) ?_
          repeat (go_big_quiet_step (fail))
          refine wpQuiet_nil ?_
          intro W5 hW5
          have E5 : Ext wr W5 := by
            obtain ⟨x, rfl⟩ := hW5
            exact (Ext.refl _).grow x
          clear hW5
          obtain ⟨hcW5, hfW5, hzW5⟩ := ext_facts E5
          have EZ := E.trans E5
          have XZ := X.ext E5
          have hstop := Hstop.out
          clear hcW5 hfW5 hzW5 x0 x1 x2
          go_wp2_with fail
          go_roundw
          case rel => exact ⟨j + 1, _, by omega, by go_num, EZ, XZ, hI.perm, Lib.hid (hI.stop hstop)⟩
          case measure => simp only [intOf]; omega
        · obtain ⟨A', a, rfl⟩ : ∃ A' a, A = A' ++ [a] := by
            rcases List.eq_nil_or_concat A with h | ⟨A', a, h⟩
            · have := HAk.out
              rw [h] at this
              simp at this
              omega
            · exact ⟨A', a, by rw [h, List.concat_eq_append]⟩
          have hA' : A'.length = k - 1 := by
            have := HAk.out
            simp at this
            omega
          have hak : (((A' ++ [a]) ++ x :: (B ++ C)).map Pt.cs)[k - 1]? = some (Pt.cs a) := by
            rw [List.getElem?_map, List.append_assoc, List.getElem?_append_right (by omega), hA', Nat.sub_self]
            rfl
          have a0 := X.cell (pts_wide _) hak (j := 0) rfl
          have a1 := X.cell (pts_wide _) hak (j := 1) rfl
          have a2 := X.cell (pts_wide _) hak (j := 2) rfl
          simp only [Nat.add_zero] at a0
          have HA' := Lib.hid hA'
          clear hak hA'
          have z1 : decide ((0 : Int) < (k : Int)) = true := by simp; omega
          have z2 : decide (0 < k) = true := by simp; omega
          have hkc : (((k - 1 : Nat) : Nat) : Int) = (k : Int) - 1 := by omega
          have ht : ((k : Int) - 1).toNat = k - 1 := by omega
          have hk1 : (1 : Int) ≤ k := by omega
          have hkn : (k : Int) < n := by omega
          go_upto_region 6 with (fail)
          refine wp_region_grow (by kernel_rfl) (by kernel_rfl) ?_
          repeat (go_big_quiet_step (((go_at_call 86; exact quiet_ext (rBefore_c x.x x.y x.z a.x a.y a.z _)))))
          refine wpQuiet_nil ?_
          intro W5 hW5
          have E5 : Ext wr W5 := by
            obtain ⟨x, rfl⟩ := hW5
            exact (Ext.refl _).grow x
          clear hW5
          obtain ⟨hcW5, hfW5, hzW5⟩ := ext_facts E5
          obtain ⟨r, hr⟩ : ∃ r, ltP ⟨x.x, x.y, x.z⟩ ⟨a.x, a.y, a.z⟩ = r := ⟨_, rfl⟩
          rw [hr]
          have Hr := Lib.hid hr
          clear hr
          have EZ := E.trans E5
          have XZ := X.ext E5
          clear hcW5 hfW5 hzW5 x0 x1 x2 a0 a1 a2
          cases r
          · have hstop : ∀ a' A'', A' ++ [a] = A'' ++ [a'] → ltP x a' = false := fun a' A'' h => by
              have := (List.append_inj' h rfl).2
              cases this
              exact Hr.out
            have Hstop := Lib.hid hstop
            clear hstop
            go_wp2_with fail
            go_roundw
            case rel => exact ⟨j + 1, _, by omega, by go_num, EZ, XZ, hI.perm, Lib.hid (hI.stop Hstop.out)⟩
            case measure => simp only [intOf]; omega
          · have hlen6 : (((A' ++ [a]) ++ x :: (B ++ C)).map Pt.cs).length = n := by rw [List.length_map]; exact Hlen.out
            have hxk : (((A' ++ [a]) ++ x :: (B ++ C)).map Pt.cs)[k]? = some (Pt.cs x) := by
              rw [List.getElem?_map, List.getElem?_append_right (by have := HAk.out; omega), HAk.out, Nat.sub_self]
              rfl
            have hak : (((A' ++ [a]) ++ x :: (B ++ C)).map Pt.cs)[k - 1]? = some (Pt.cs a) := by
              rw [List.getElem?_map, List.append_assoc, List.getElem?_append_right (by have := HA'.out; omega), HA'.out, Nat.sub_self]
              rfl
            have x0 := XZ.cell (pts_wide _) hxk (j := 0) rfl
            have x1 := XZ.cell (pts_wide _) hxk (j := 1) rfl
            have x2 := XZ.cell (pts_wide _) hxk (j := 2) rfl
            have a0 := XZ.cell (pts_wide _) hak (j := 0) rfl
            have a1 := XZ.cell (pts_wide _) hak (j := 1) rfl
            have a2 := XZ.cell (pts_wide _) hak (j := 2) rfl
            simp only [Nat.add_zero] at x0 a0
            have fz := XZ.frozen
            obtain ⟨W6, hW6, X6, ext6⟩ := XZ.swap3 (pts_wide _) (k := k) (m := k - 1) (by omega) (by omega) (.int .i64 a.x) (.int .i64 a.y) (.int .i64 a.z) (.int .i64 x.x) (.int .i64 x.y) (.int .i64 x.z)
            have hrows : ((((A' ++ [a]) ++ x :: (B ++ C)).map Pt.cs).set k [.int .i64 a.x, .int .i64 a.y, .int .i64 a.z]).set (k - 1) [.int .i64 x.x, .int .i64 x.y, .int .i64 x.z] = (A' ++ x :: ((a :: B) ++ C)).map Pt.cs := by
              have e1 : (((A' ++ [a]) ++ x :: (B ++ C)).map Pt.cs).set k (Pt.cs a) = ((A' ++ [a]) ++ a :: (B ++ C)).map Pt.cs := by
                rw [← List.map_set, List.set_append_right _ _ (by have := HAk.out; omega), HAk.out, Nat.sub_self]
                rfl
              have e2 : (((A' ++ [a]) ++ a :: (B ++ C)).map Pt.cs).set (k - 1) (Pt.cs x) = (A' ++ x :: ((a :: B) ++ C)).map Pt.cs := by
                rw [← List.map_set, List.append_assoc, List.set_append_right _ _ (by have := HA'.out; omega), HA'.out, Nat.sub_self]
                rfl
              show ((((A' ++ [a]) ++ x :: (B ++ C)).map Pt.cs).set k (Pt.cs a)).set (k - 1) (Pt.cs x) = _
              rw [e1, e2]
            rw [hrows] at X6
            have hI' : Ins l j (k - 1) A' x (a :: B) C := by
              have := hI
              rw [show k = (k - 1) + 1 by omega] at this
              exact this.step Hr.out
            clear hrows hxk hak hlen6
            go_upto_region 8 with (fail)
            go_region
            go_wp2_with fail
            go_roundw
            case rel => exact ⟨k - 1, A', x, a :: B, C, by omega, by rw [hkc], (ext6 _ EZ hg).drew, X6.drew, hI'⟩
            case measure => simp only [intOf]; omega
    · obtain rfl : n = j := by omega
      have hfin : L = sortP l := sortP_is Hp.out (by
        have := Hs.out
        rwa [List.take_of_length_le (by rw [HLn.out]; exact Nat.le_refl _)] at this)
      subst hfin
      go_wp2_with fail
      go_ret
      exact ⟨g, cp, hg, rfl, q1, q2, X, E⟩
end Go.Proofs.Ytenigkngmdofiaa

namespace Go.Proofs.Ytenigkngmdofiaa
open Go.RowKit

structure Knb where
  at_ : Pt
  dir : Int
  sort : Int
def Knb.cs (x : Knb) : List Value := [.int .i64 x.at_.x, .int .i64 x.at_.y, .int .i64 x.at_.z, .int .u8 x.dir, .int .u8 x.sort]
def Knb.byte (x : Knb) : Prop := (0 ≤ x.dir ∧ x.dir ≤ 255) ∧ 0 ≤ x.sort ∧ x.sort ≤ 255
def Knobs (w : World) (A : Option Addr) (cap : Nat) (l : List Knb) : Prop := SliceIs w A l.length cap 5 (l.map Knb.cs) ∧ ∀ x ∈ l, x.byte
theorem Knobs.ext {w w' : World} {A : Option Addr} {cap : Nat} {l : List Knb} (h : Knobs w A cap l) (e : Ext w w') : Knobs w' A cap l := ⟨SliceIs.ext h.1 e, h.2⟩
theorem Knobs.len {w : World} {A : Option Addr} {cap : Nat} {l : List Knb} (h : Knobs w A cap l) : l.length ≤ maxLen := Nat.le_trans h.1.le h.1.small
theorem Knobs.at_ {w : World} {A : Option Addr} {cap : Nat} {l : List Knb} (h : Knobs w A cap l) {k : Nat} (hk : k < l.length) :
    ∃ b off p, A = some ⟨b, off, none⟩ ∧ l[k]? = some p ∧ p.byte ∧ b < w.heap.size ∧ w.cell? ⟨b, off + k * 5, none⟩ = some (.int .i64 p.at_.x) ∧ w.cell? ⟨b, off + k * 5 + 1, none⟩ = some (.int .i64 p.at_.y) ∧
      w.cell? ⟨b, off + k * 5 + 2, none⟩ = some (.int .i64 p.at_.z) ∧ w.cell? ⟨b, off + k * 5 + 3, none⟩ = some (.int .u8 p.dir) ∧ w.cell? ⟨b, off + k * 5 + 4, none⟩ = some (.int .u8 p.sort) := by
  obtain ⟨b, off, hA, hb, hc⟩ := SliceIs.cells h.1 (by omega)
  have hget : l[k]? = some l[k] := List.getElem?_eq_getElem hk
  have hr : (l.map Knb.cs)[k]? = some l[k].cs := by rw [List.getElem?_map, hget]; rfl
  exact ⟨b, off, l[k], hA, hget, h.2 _ (List.getElem_mem hk), hb, hc k _ hr 0 _ rfl, hc k _ hr 1 _ rfl, hc k _ hr 2 _ rfl, hc k _ hr 3 _ rfl, hc k _ hr 4 _ rfl⟩
structure Knd where
  cells : List Pt
  knobs : List Knb
  weight : Int
/-- Where a kind's two lists lie. -/
structure KAt where
  A : Option Addr
  ca : Nat
  B : Option Addr
  cb : Nat
def Knd.cs (k : Knd) (p : KAt) : List Value := [.slice p.A k.cells.length p.ca, .slice p.B k.knobs.length p.cb, .int .i64 k.weight]
/-- A kind, its lists lying in w where p says. -/
structure KindAt (w : World) (p : KAt) (k : Knd) : Prop where
  c : Cells w p.A p.ca k.cells
  n : Knobs w p.B p.cb k.knobs
theorem KindAt.ext {w w' : World} {p : KAt} {k : Knd} (h : KindAt w p k) (e : Ext w w') : KindAt w' p k := ⟨h.c.ext e, h.n.ext e⟩
/-- A list of kinds. -/
structure Kinds (w : World) (A : Option Addr) (cap : Nat) (qs : List (Knd × KAt)) : Prop where
  s : SliceIs w A qs.length cap 3 (qs.map fun q => q.1.cs q.2)
  k : ∀ q ∈ qs, KindAt w q.2 q.1
theorem Kinds.ext {w w' : World} {A : Option Addr} {cap : Nat} {qs : List (Knd × KAt)} (h : Kinds w A cap qs) (e : Ext w w') : Kinds w' A cap qs := ⟨h.s.ext e, fun q hq => (h.k q hq).ext e⟩
theorem Kinds.len {w : World} {A : Option Addr} {cap : Nat} {qs : List (Knd × KAt)} (h : Kinds w A cap qs) : qs.length ≤ maxLen := Nat.le_trans h.s.le h.s.small
theorem Kinds.at_ {w : World} {A : Option Addr} {cap : Nat} {qs : List (Knd × KAt)} (h : Kinds w A cap qs) {i : Nat} (hi : i < qs.length) :
    ∃ b off k p, A = some ⟨b, off, none⟩ ∧ qs[i]? = some (k, p) ∧ KindAt w p k ∧ b < w.heap.size ∧ w.cell? ⟨b, off + i * 3, none⟩ = some (.slice p.A k.cells.length p.ca) ∧ w.cell? ⟨b, off + i * 3 + 1, none⟩ = some (.slice p.B k.knobs.length p.cb) ∧
      w.cell? ⟨b, off + i * 3 + 2, none⟩ = some (.int .i64 k.weight) := by
  obtain ⟨b, off, hA, hb, hc⟩ := SliceIs.cells h.s (by omega)
  have hget : qs[i]? = some qs[i] := List.getElem?_eq_getElem hi
  have hr : (qs.map fun q => q.1.cs q.2)[i]? = some (qs[i].1.cs qs[i].2) := by rw [List.getElem?_map, hget]; rfl
  exact ⟨b, off, qs[i].1, qs[i].2, hA, hget, h.k _ (List.getElem_mem hi), hb, hc i _ hr 0 _ rfl, hc i _ hr 1 _ rfl, hc i _ hr 2 _ rfl⟩

/-! What holds at each of the first n places. -/
def allR (n : Nat) (f : Nat → Bool) : Bool := (List.range n).all f
theorem allR_bad {n k : Nat} {f : Nat → Bool} (hk : k < n) (h : f k = false) : allR n f = false := by
  rw [allR, List.all_eq_false]
  exact ⟨k, List.mem_range.2 hk, by simp [h]⟩
theorem allR_good {n : Nat} {f : Nat → Bool} (h : ∀ j, j < n → f j = true) : allR n f = true := by
  rw [allR, List.all_eq_true]
  exact fun j hj => h j (List.mem_range.1 hj)
theorem allR_at {n k : Nat} {f : Nat → Bool} (h : allR n f = true) (hk : k < n) : f k = true := by
  rw [allR, List.all_eq_true] at h
  exact h k (List.mem_range.2 hk)

/-! Valid kinds. -/
def ptAt (l : List Pt) (k : Nat) : Pt := l.getD k ⟨0, 0, 0⟩
def knbAt (l : List Knb) (k : Nat) : Knb := l.getD k ⟨⟨0, 0, 0⟩, 0, 0⟩
theorem ptAt_eq {l : List Pt} {k : Nat} {p : Pt} (h : l[k]? = some p) : ptAt l k = p := by simp [ptAt, h]
theorem knbAt_eq {l : List Knb} {k : Nat} {p : Knb} (h : l[k]? = some p) : knbAt l k = p := by simp [knbAt, h]
def cellOk (l : List Pt) (i : Nat) : Bool := nearB (ptAt l i) 0 15 && (decide (i = 0) || ltP (ptAt l (i - 1)) (ptAt l i))
def cellsB (l : List Pt) : Bool := allR l.length (cellOk l)
def Knb.lt (y x : Knb) : Bool := ltP y.at_ x.at_ || (y.at_.eqB x.at_ && decide (y.dir < x.dir))
def Knb.one (cs : List Pt) (x : Knb) : Bool := decide (x.dir ≤ 5) && (inB 1 6 x.sort && (hasP cs x.at_ && !hasP cs (addP x.at_ (stepS x.dir.toNat))))
def knobOk (cs : List Pt) (l : List Knb) (i : Nat) : Bool := (knbAt l i).one cs && (decide (i = 0) || (knbAt l (i - 1)).lt (knbAt l i))
def knobsB (cs : List Pt) (l : List Knb) : Bool := allR l.length (knobOk cs l)
def Knd.sized (k : Knd) : Bool := inB 1 24 k.cells.length && (decide (k.knobs.length ≤ 48) && inB 1 100 k.weight)
def Knd.valid (k : Knd) : Bool := k.sized && (cellsB k.cells && knobsB k.cells k.knobs)
def kindErr (k : Knd) : Int := if k.valid then 0 else 10
theorem kindErr_good {k : Knd} (h : k.valid = true) : kindErr k = 0 := if_pos h
theorem kindErr_bad {k : Knd} (h : k.valid = false) : kindErr k = 10 := by rw [kindErr, h]; rfl
theorem valid_bad0 {k : Knd} (h : k.sized = false) : k.valid = false := by rw [Knd.valid, h]; rfl
theorem valid_bad1 {k : Knd} (h : cellsB k.cells = false) : k.valid = false := by rw [Knd.valid, h, Bool.false_and, Bool.and_false]
theorem valid_bad2 {k : Knd} (h : knobsB k.cells k.knobs = false) : k.valid = false := by rw [Knd.valid, h, Bool.and_false, Bool.and_false]
theorem valid_good {k : Knd} (h0 : k.sized = true) (h1 : cellsB k.cells = true) (h2 : knobsB k.cells k.knobs = true) : k.valid = true := by rw [Knd.valid, h0, h1, h2]; rfl
theorem sized_iff {k : Knd} : k.sized = true ↔ (1 ≤ k.cells.length ∧ k.cells.length ≤ 24) ∧ k.knobs.length ≤ 48 ∧ 1 ≤ k.weight ∧ k.weight ≤ 100 := by
  rw [Knd.sized, Bool.and_eq_true, Bool.and_eq_true, inB_iff, inB_iff, decide_eq_true_eq]
  omega
/-- The comparison of knobs as the program makes it. -/
theorem knobLt_or (y x : Knb) : decide (0 ≤ orL [ordP y.at_ x.at_, ordZ y.dir x.dir]) = !y.lt x := by
  unfold Knb.lt orL
  rcases ordP_cases y.at_ x.at_ with ⟨h, e⟩ | ⟨h, e⟩ | ⟨h, e⟩
  · rw [e, h]
    rfl
  · rw [e, if_pos rfl, h, ltP_irrefl, Pt.eqB_iff.2 rfl]
    unfold orL orL
    rcases Int.lt_trichotomy y.dir x.dir with h3 | h3 | h3
    · rw [ordZ_lt h3]; simp [h3]
    · rw [ordZ_eq h3]; simp [h3]
    · rw [ordZ_gt h3]; simp; omega
  · rw [e, ltP_anti h]
    have : y.at_.eqB x.at_ = false := by
      cases hq : y.at_.eqB x.at_
      · rfl
      · rw [Pt.eqB_iff.1 hq, ltP_irrefl] at h
        cases h
    rw [this]
    rfl
def kindAt (l : List Knd) (i : Nat) : Knd := l.getD i ⟨[], [], 0⟩
def kindsErr (l : List Knd) : Int := if 16 < l.length then 4 else if allR l.length (fun i => (kindAt l i).valid) then 0 else 10
end Go.Proofs.Ytenigkngmdofiaa

namespace Go.Proofs.Ytenigkngmdofiaa
open Go.RowKit

theorem near_is {x y z lo hi : Int} {r : Bool} (h : nearB ⟨x, y, z⟩ lo hi = r) (w : World) :
    Calls Try.prog 41 #[.agg #[.int .i64 x, .int .i64 y, .int .i64 z], .int .i64 lo, .int .i64 hi] w fun e w' => e = .returned (.bool r) ∧ Ext w w' := by
  subst h
  exact near_c _ _ _ _ _ _
theorem order_is {a b c d e f n : Int} (h : ordP ⟨a, b, c⟩ ⟨d, e, f⟩ = n) (w : World) :
    Calls Try.prog 55 #[.agg #[.int .i64 a, .int .i64 b, .int .i64 c], .agg #[.int .i64 d, .int .i64 e, .int .i64 f]] w fun v w' => v = .returned (.int .i64 n) ∧ Ext w w' := by
  subst h
  exact order_c _ _ _ _ _ _ _
theorem contains_is {A : Option Addr} {cap : Nat} {l : List Pt} {a b c : Int} {r : Bool} (h : hasP l ⟨a, b, c⟩ = r) {w : World} (hs : Cells w A cap l) :
    Calls Try.prog 56 #[.slice A l.length cap, .agg #[.int .i64 a, .int .i64 b, .int .i64 c]] w fun e w' => e = .returned (.bool r) ∧ Ext w w' := by
  subst h
  exact contains_c _ _ _ _ _ _ _ hs
theorem cellOk_near {l : List Pt} {j : Nat} {q : Pt} (hq : l[j]? = some q) (h : nearB q 0 15 = false) : cellOk l j = false := by
  rw [cellOk, ptAt_eq hq, h]
  rfl
theorem cellOk_zero {l : List Pt} {q : Pt} (hq : l[0]? = some q) (h : nearB q 0 15 = true) : cellOk l 0 = true := by
  rw [cellOk, ptAt_eq hq, h]
  rfl
theorem cellOk_next {l : List Pt} {j : Nat} {q r : Pt} (hq : l[j]? = some q) (h : nearB q 0 15 = true) (hj : j ≠ 0) (hr : l[j - 1]? = some r) : cellOk l j = ltP r q := by
  rw [cellOk, ptAt_eq hq, ptAt_eq hr, h, decide_eq_false hj]
  rfl
theorem pt_near {q : Pt} (h : nearB q 0 15 = true) : q.ok := by
  rw [nearB_iff] at h
  exact ⟨⟨by omega, by omega⟩, ⟨by omega, by omega⟩, ⟨by omega, by omega⟩⟩
theorem knobOk_zero {cs : List Pt} {l : List Knb} {q : Knb} (hq : l[0]? = some q) : knobOk cs l 0 = q.one cs := by
  rw [knobOk, knbAt_eq hq]
  simp
theorem knobOk_next {cs : List Pt} {l : List Knb} {j : Nat} {q r : Knb} (hq : l[j]? = some q) (hj : j ≠ 0) (hr : l[j - 1]? = some r) : knobOk cs l j = (q.one cs && r.lt q) := by
  rw [knobOk, knbAt_eq hq, knbAt_eq hr, decide_eq_false hj]
  rfl
theorem knobOk_bad {cs : List Pt} {l : List Knb} {j : Nat} {q : Knb} (hq : l[j]? = some q) (h : q.one cs = false) : knobOk cs l j = false := by
  rw [knobOk, knbAt_eq hq, h]
  rfl
theorem Knb.one_iff {cs : List Pt} {x : Knb} : x.one cs = true ↔ x.dir ≤ 5 ∧ (1 ≤ x.sort ∧ x.sort ≤ 6) ∧ hasP cs x.at_ = true ∧ hasP cs (addP x.at_ (stepS x.dir.toNat)) = false := by
  simp only [Knb.one, Bool.and_eq_true, decide_eq_true_eq, inB_iff, Bool.not_eq_true']
set_option maxRecDepth 100000 in
set_option maxHeartbeats 16000000 in
theorem checkKind_c (cells : List Pt) (knobs : List Knb) (wt : Int) (A : Option Addr) (ca : Nat) (B : Option Addr) (cb : Nat) (w : World) (hc : Cells w A ca cells) (hn : Knobs w B cb knobs) :
    Calls Try.prog 16 #[.agg #[.slice A cells.length ca, .slice B knobs.length cb, .int .i64 wt]] w fun e w' => e = .returned (.int .i64 (kindErr ⟨cells, knobs, wt⟩)) ∧ Ext w w' := by
  have hl1 : cells.length ≤ 9223372036854775807 := by have := hc.len; unfold maxLen at this; omega
  have hl2 : knobs.length ≤ 9223372036854775807 := by have := hn.len; unfold maxLen at this; omega
  obtain ⟨W1, hW1, E1, B1, hz1⟩ := mk_ w #[.slice A cells.length ca, .slice B knobs.length cb, .int .i64 wt] 39
  have b1 := B1.cell
  by_cases a1 : (cells.length : Int) < 1
  · have Hb := Lib.hid (kindErr_bad (k := ⟨cells, knobs, wt⟩) (valid_bad0 (by
      rw [← Bool.not_eq_true, sized_iff]
      show ¬ ((1 ≤ cells.length ∧ cells.length ≤ 24) ∧ knobs.length ≤ 48 ∧ 1 ≤ wt ∧ wt ≤ 100)
      omega)))
    go_enter Try.func16, Try.ntmps16
    go_wp2_with fail
    go_ret
    exact ⟨by rw [Hb.out]; rfl, E1⟩
  by_cases a2 : (24 : Int) < cells.length
  · have Hb := Lib.hid (kindErr_bad (k := ⟨cells, knobs, wt⟩) (valid_bad0 (by
      rw [← Bool.not_eq_true, sized_iff]
      show ¬ ((1 ≤ cells.length ∧ cells.length ≤ 24) ∧ knobs.length ≤ 48 ∧ 1 ≤ wt ∧ wt ≤ 100)
      omega)))
    go_enter Try.func16, Try.ntmps16
    go_wp2_with fail
    go_ret
    exact ⟨by rw [Hb.out]; rfl, E1⟩
  by_cases a3 : (48 : Int) < knobs.length
  · have Hb := Lib.hid (kindErr_bad (k := ⟨cells, knobs, wt⟩) (valid_bad0 (by
      rw [← Bool.not_eq_true, sized_iff]
      show ¬ ((1 ≤ cells.length ∧ cells.length ≤ 24) ∧ knobs.length ≤ 48 ∧ 1 ≤ wt ∧ wt ≤ 100)
      omega)))
    go_enter Try.func16, Try.ntmps16
    go_wp2_with fail
    go_ret
    exact ⟨by rw [Hb.out]; rfl, E1⟩
  by_cases a4 : wt < 1
  · have Hb := Lib.hid (kindErr_bad (k := ⟨cells, knobs, wt⟩) (valid_bad0 (by
      rw [← Bool.not_eq_true, sized_iff]
      show ¬ ((1 ≤ cells.length ∧ cells.length ≤ 24) ∧ knobs.length ≤ 48 ∧ 1 ≤ wt ∧ wt ≤ 100)
      omega)))
    go_enter Try.func16, Try.ntmps16
    go_wp2_with fail
    go_ret
    exact ⟨by rw [Hb.out]; rfl, E1⟩
  by_cases a5 : 100 < wt
  · have Hb := Lib.hid (kindErr_bad (k := ⟨cells, knobs, wt⟩) (valid_bad0 (by
      rw [← Bool.not_eq_true, sized_iff]
      show ¬ ((1 ≤ cells.length ∧ cells.length ≤ 24) ∧ knobs.length ≤ 48 ∧ 1 ≤ wt ∧ wt ≤ 100)
      omega)))
    go_enter Try.func16, Try.ntmps16
    go_wp2_with fail
    go_ret
    exact ⟨by rw [Hb.out]; rfl, E1⟩
  have Hs := Lib.hid ((sized_iff (k := ⟨cells, knobs, wt⟩)).2 ⟨⟨by show 1 ≤ cells.length; omega, by show cells.length ≤ 24; omega⟩, by show knobs.length ≤ 48; omega, by show 1 ≤ wt; omega, by show wt ≤ 100; omega⟩)
  go_enter Try.func16, Try.ntmps16
  go_wp2_with fail
  clear hW1 hz1 a1 a4 a5
  go_loopw [36] (fun i wr => ∃ j : Nat, j ≤ cells.length ∧ i = .int .i64 j ∧ Ext w wr ∧ Blk wr w.heap.size 39 #[.slice A cells.length ca, .slice B knobs.length cb, .int .i64 wt] ∧ Hid (∀ i, i < j → cellOk cells i = true)) (fun i _ => cells.length - (intOf i).toNat)
  case atStart => exact ⟨0, by omega, rfl, E1, B1, Lib.hid (fun i hi => by omega)⟩
  case round =>
    obtain ⟨j, hj, rfl, E, BK, Hj⟩ := hrel
    clear b1 B1 E1
    have b1 := BK.cell
    by_cases hlt : j < cells.length
    · obtain ⟨g, off, q, rfl, hq, hg, c0, c1, c2⟩ := hc.at_ hlt
      have d0 := E.cell c0
      have d1 := E.cell c1
      have d2 := E.cell c2
      clear c0 c1 c2
      have Hq := Lib.hid hq
      clear hq
      have i1 : (0 : Int) ≤ j := by omega
      have i2 : (j : Int) < cells.length := by omega
      obtain ⟨W4, hW4, E4, B4, hz4⟩ := mk_ wr #[.int .i64 q.x, .int .i64 q.y, .int .i64 q.z] 23
      have b4 := B4.cell
      cases hnr : nearB ⟨q.x, q.y, q.z⟩ 0 15
      · have Hb := Lib.hid (kindErr_bad (k := ⟨cells, knobs, wt⟩) (valid_bad1 (allR_bad hlt (cellOk_near Hq.out hnr))))
        have N := fun W => near_is hnr W
        clear hnr
        go_upto_region 6 with (fail)
        refine wp_region_grow (by kernel_rfl) (by kernel_rfl) ?_
        repeat (go_big_quiet_step (((go_at_call 41; exact quiet_ext (N _)))))
        refine wpQuiet_nil ?_
        intro W5 hW5
        have E5 : Ext W4 W5 := by
          obtain ⟨x, rfl⟩ := hW5
          exact (Ext.refl _).grow x
        clear hW5
        obtain ⟨hcW5, hfW5, hzW5⟩ := ext_facts E5
        go_wp2_with fail
        go_ret
        exact ⟨by rw [Hb.out]; rfl, (E.trans E4).trans E5⟩
      · have N := fun W => near_is hnr W
        have Hnr := Lib.hid hnr
        clear hnr
        by_cases hj0 : j = 0
        · have z1 : decide ((0 : Int) < (j : Int)) = false := by simp; omega
          have z2 : decide (0 < j) = false := by simp; omega
          have hok : ∀ i, i < j + 1 → cellOk cells i = true := fun i hi => by
            obtain rfl : i = 0 := by omega
            subst hj0
            exact cellOk_zero Hq.out Hnr.out
          have Hok := Lib.hid hok
          clear hok hj0
          go_upto_region 6 with (fail)
          refine wp_region_grow (by kernel_rfl) (by kernel_rfl) ?_
          repeat (go_big_quiet_step (((go_at_call 41; exact quiet_ext (N _)))))
          refine wpQuiet_nil ?_
          intro W5 hW5
          have E5 : Ext W4 W5 := by
            obtain ⟨x, rfl⟩ := hW5
            exact (Ext.refl _).grow x
          clear hW5
          obtain ⟨hcW5, hfW5, hzW5⟩ := ext_facts E5
          go_wp2_with fail
          go_roundw
          case rel => exact ⟨j + 1, by omega, by go_num, (E.trans E4).trans E5, (BK.ext E4).ext E5, Hok⟩
          case measure => simp only [intOf]; omega
        · obtain ⟨g', off', r, hA', hr, hg', p0, p1, p2⟩ := (hc.ext (E.trans E4)).at_ (k := j - 1) (by omega)
          cases hA'
          have Hr := Lib.hid hr
          clear hr
          have z1 : decide ((0 : Int) < (j : Int)) = true := by simp; omega
          have z2 : decide (0 < j) = true := by simp; omega
          have hkc : (((j - 1 : Nat) : Nat) : Int) = (j : Int) - 1 := by omega
          have ht : ((j : Int) - 1).toNat = j - 1 := by omega
          have hk1 : (1 : Int) ≤ j := by omega
          have b1' := (BK.ext E4).cell
          have hok : cellOk cells j = ltP r q := cellOk_next Hq.out Hnr.out hj0 Hr.out
          have Hok := Lib.hid hok
          clear hok
          rcases ordP_cases r q with ⟨hl, ho⟩ | ⟨hl, ho⟩ | ⟨hl, ho⟩
          · have Hl := Lib.hid hl
            clear hl
            have O := fun W => order_is (a := r.x) (b := r.y) (c := r.z) (d := q.x) (e := q.y) (f := q.z) ho W
            clear ho
            go_upto_region 6 with (fail)
            refine wp_region_grow (by kernel_rfl) (by kernel_rfl) ?_
            repeat (go_big_quiet_step ((first | (go_at_call 41; exact quiet_ext (N _)) | (go_at_call 55; exact quiet_ext (O _)))))
            refine wpQuiet_nil ?_
            intro W5 hW5
            have E5 : Ext W4 W5 := by
              obtain ⟨x, rfl⟩ := hW5
              exact (Ext.refl _).grow x
            clear hW5
            obtain ⟨hcW5, hfW5, hzW5⟩ := ext_facts E5
            go_wp2_with fail
            go_roundw
            case rel => exact ⟨j + 1, by omega, by go_num, (E.trans E4).trans E5, (BK.ext E4).ext E5, Lib.hid (fun i hi => by
              rcases Nat.lt_or_ge i j with h' | h'
              · exact Hj.out i h'
              · obtain rfl : i = j := by omega
                rw [Hok.out, Hl.out])⟩
            case measure => simp only [intOf]; omega
          · have Hb := Lib.hid (kindErr_bad (k := ⟨cells, knobs, wt⟩) (valid_bad1 (allR_bad hlt (by rw [Hok.out, hl, ltP_irrefl]))))
            clear hl
            have O := fun W => order_is (a := r.x) (b := r.y) (c := r.z) (d := q.x) (e := q.y) (f := q.z) ho W
            clear ho
            go_upto_region 6 with (fail)
            refine wp_region_grow (by kernel_rfl) (by kernel_rfl) ?_
            repeat (go_big_quiet_step ((first | (go_at_call 41; exact quiet_ext (N _)) | (go_at_call 55; exact quiet_ext (O _)))))
            refine wpQuiet_nil ?_
            intro W5 hW5
            have E5 : Ext W4 W5 := by
              obtain ⟨x, rfl⟩ := hW5
              exact (Ext.refl _).grow x
            clear hW5
            obtain ⟨hcW5, hfW5, hzW5⟩ := ext_facts E5
            go_wp2_with fail
            go_ret
            exact ⟨by rw [Hb.out]; rfl, (E.trans E4).trans E5⟩
          · have Hb := Lib.hid (kindErr_bad (k := ⟨cells, knobs, wt⟩) (valid_bad1 (allR_bad hlt (by rw [Hok.out, ltP_anti hl]))))
            clear hl
            have O := fun W => order_is (a := r.x) (b := r.y) (c := r.z) (d := q.x) (e := q.y) (f := q.z) ho W
            clear ho
            go_upto_region 6 with (fail)
            refine wp_region_grow (by kernel_rfl) (by kernel_rfl) ?_
            repeat (go_big_quiet_step ((first | (go_at_call 41; exact quiet_ext (N _)) | (go_at_call 55; exact quiet_ext (O _)))))
            refine wpQuiet_nil ?_
            intro W5 hW5
            have E5 : Ext W4 W5 := by
              obtain ⟨x, rfl⟩ := hW5
              exact (Ext.refl _).grow x
            clear hW5
            obtain ⟨hcW5, hfW5, hzW5⟩ := ext_facts E5
            go_wp2_with fail
            go_ret
            exact ⟨by rw [Hb.out]; rfl, (E.trans E4).trans E5⟩
    · obtain rfl : cells.length = j := by omega
      have Hcells := Lib.hid (allR_good Hj.out)
      clear Hj
      go_wp2_with fail
      clear hlt b1
      go_loopw [63] (fun i wr => ∃ j : Nat, j ≤ knobs.length ∧ i = .int .i64 j ∧ Ext w wr ∧ Blk wr w.heap.size 39 #[.slice A cells.length ca, .slice B knobs.length cb, .int .i64 wt] ∧ Hid (∀ i, i < j → knobOk cells knobs i = true)) (fun i _ => knobs.length - (intOf i).toNat)
      case atStart => exact ⟨0, by omega, rfl, E, BK, Lib.hid (fun i hi => by omega)⟩
      case round =>
        clear E BK
        obtain ⟨j, hj, rfl, E, BK, Hj⟩ := hrel
        have b1 := BK.cell
        by_cases hlt : j < knobs.length
        · obtain ⟨g, off, ⟨⟨x, y, z⟩, dir, sort⟩, rfl, hq, ⟨⟨hd0, hd1⟩, hs0, hs1⟩, hg, c0, c1, c2, c3, c4⟩ := hn.at_ hlt
          simp only at c0 c1 c2 c3 c4 hd0 hd1 hs0 hs1
          obtain ⟨d, rfl⟩ : ∃ d : Nat, dir = d := ⟨dir.toNat, by omega⟩
          have d0 := E.cell c0
          have d1 := E.cell c1
          have d2 := E.cell c2
          have d3 := E.cell c3
          have d4 := E.cell c4
          clear c0 c1 c2 c3 c4
          have Hq := Lib.hid hq
          clear hq
          have i1 : (0 : Int) ≤ j := by omega
          have i2 : (j : Int) < knobs.length := by omega
          obtain ⟨W4, hW4, E4, B4, hz4⟩ := mk_ wr #[.int .i64 x, .int .i64 y, .int .i64 z, .int .u8 d, .int .u8 sort] 68
          have b4 := B4.cell
          have b1' := (BK.ext E4).cell
          have EE := E.trans E4
          have f1 : IntKind.i64.wrap (d : Int) = d := IntWalk.i64_in _ (by omega)
          have Hok1 : Hid (hasP cells ⟨x, y, z⟩ = true → Pt.ok ⟨x, y, z⟩) := Lib.hid fun h => by
            obtain ⟨i, hi⟩ := List.getElem?_of_mem (hasP_iff.1 h)
            have hil : i < cells.length := (List.getElem?_eq_some_iff.1 hi).1
            have := allR_at Hcells.out hil
            rw [cellOk, ptAt_eq hi, Bool.and_eq_true] at this
            exact pt_near this.1
          by_cases a1 : (5 : Int) < d
          · have Hb := Lib.hid (kindErr_bad (k := ⟨cells, knobs, wt⟩) (valid_bad2 (allR_bad hlt (knobOk_bad Hq.out (by
              rw [← Bool.not_eq_true, Knb.one_iff]
              exact fun h => by have : (d:Int) ≤ 5 := h.1; omega)))))
            go_upto_region 12 with (fail)
            refine wp_region_grow (by kernel_rfl) (by kernel_rfl) ?_
            repeat (go_big_quiet_step (fail))
            refine wpQuiet_nil ?_
            intro W5 hW5
            have E5 : Ext W4 W5 := by
              obtain ⟨x, rfl⟩ := hW5
              exact (Ext.refl _).grow x
            clear hW5
            obtain ⟨hcW5, hfW5, hzW5⟩ := ext_facts E5
            go_wp2_with fail
            go_ret
            exact ⟨by rw [Hb.out]; rfl, EE.trans E5⟩
          by_cases a2 : sort < 1
          · have Hb := Lib.hid (kindErr_bad (k := ⟨cells, knobs, wt⟩) (valid_bad2 (allR_bad hlt (knobOk_bad Hq.out (by
              rw [← Bool.not_eq_true, Knb.one_iff]
              exact fun h => by have : 1 ≤ sort := h.2.1.1; omega)))))
            go_upto_region 12 with (fail)
            refine wp_region_grow (by kernel_rfl) (by kernel_rfl) ?_
            repeat (go_big_quiet_step (fail))
            refine wpQuiet_nil ?_
            intro W5 hW5
            have E5 : Ext W4 W5 := by
              obtain ⟨x, rfl⟩ := hW5
              exact (Ext.refl _).grow x
            clear hW5
            obtain ⟨hcW5, hfW5, hzW5⟩ := ext_facts E5
            go_wp2_with fail
            go_ret
            exact ⟨by rw [Hb.out]; rfl, EE.trans E5⟩
          by_cases a3 : 6 < sort
          · have Hb := Lib.hid (kindErr_bad (k := ⟨cells, knobs, wt⟩) (valid_bad2 (allR_bad hlt (knobOk_bad Hq.out (by
              rw [← Bool.not_eq_true, Knb.one_iff]
              exact fun h => by have : sort ≤ 6 := h.2.1.2; omega)))))
            go_upto_region 12 with (fail)
            refine wp_region_grow (by kernel_rfl) (by kernel_rfl) ?_
            repeat (go_big_quiet_step (fail))
            refine wpQuiet_nil ?_
            intro W5 hW5
            have E5 : Ext W4 W5 := by
              obtain ⟨x, rfl⟩ := hW5
              exact (Ext.refl _).grow x
            clear hW5
            obtain ⟨hcW5, hfW5, hzW5⟩ := ext_facts E5
            go_wp2_with fail
            go_ret
            exact ⟨by rw [Hb.out]; rfl, EE.trans E5⟩
          cases hh : hasP cells ⟨x, y, z⟩
          · have Hb := Lib.hid (kindErr_bad (k := ⟨cells, knobs, wt⟩) (valid_bad2 (allR_bad hlt (knobOk_bad Hq.out (by
              rw [← Bool.not_eq_true, Knb.one_iff]
              exact fun h => by rw [h.2.2.1] at hh; cases hh)))))
            go_upto_region 12 with (fail)
            refine wp_region_grow (by kernel_rfl) (by kernel_rfl) ?_
            repeat (go_big_quiet_step (((go_at_call 56; exact quiet_ext (contains_c A ca cells _ _ _ _ (hc.ext (EE.grow _)))))))
            refine wpQuiet_nil ?_
            intro W5 hW5
            have E5 : Ext W4 W5 := by
              obtain ⟨x, rfl⟩ := hW5
              exact (Ext.refl _).grow x
            clear hW5
            obtain ⟨hcW5, hfW5, hzW5⟩ := ext_facts E5
            go_wp2_with fail
            go_ret
            exact ⟨by rw [Hb.out]; rfl, EE.trans E5⟩
          have hok1 := Hok1.out hh
          have Hok1' := Lib.hid hok1
          clear hok1
          cases hh2 : hasP cells ⟨x + (stepS d).x, y + (stepS d).y, z + (stepS d).z⟩
          rotate_left
          · have Hb := Lib.hid (kindErr_bad (k := ⟨cells, knobs, wt⟩) (valid_bad2 (allR_bad hlt (knobOk_bad Hq.out (by
              rw [← Bool.not_eq_true, Knb.one_iff]
              exact fun h => by rw [show hasP cells (addP ⟨x,y,z⟩ (stepS (d:Int).toNat)) = true from hh2] at h; cases h.2.2.2)))))
            go_upto_region 12 with (fail)
            refine wp_region_grow (by kernel_rfl) (by kernel_rfl) ?_
            repeat (go_big_quiet_step ((first | (go_at_call 56; exact quiet_ext (contains_c A ca cells _ _ _ _ (hc.ext (EE.grow _)))) | (go_at_call 48; exact quiet_ext (step_c d (by omega) _)) | (go_at_call 57; exact quiet_ext (plus_c _ _ _ _ _ _ _ Hok1'.out (stepS_ok d))))))
            refine wpQuiet_nil ?_
            intro W5 hW5
            have E5 : Ext W4 W5 := by
              obtain ⟨x, rfl⟩ := hW5
              exact (Ext.refl _).grow x
            clear hW5
            obtain ⟨hcW5, hfW5, hzW5⟩ := ext_facts E5
            go_wp2_with fail
            go_ret
            exact ⟨by rw [Hb.out]; rfl, EE.trans E5⟩
          have Hone := Lib.hid ((Knb.one_iff (cs := cells) (x := ⟨⟨x, y, z⟩, d, sort⟩)).2 ⟨by show (d : Int) ≤ 5; omega, ⟨by show 1 ≤ sort; omega, by show sort ≤ 6; omega⟩, hh, hh2⟩)
          by_cases hj0 : j = 0
          · have z1 : decide ((0 : Int) < (j : Int)) = false := by simp; omega
            have z2 : decide (0 < j) = false := by simp; omega
            have hok : ∀ i, i < j + 1 → knobOk cells knobs i = true := fun i hi => by
              obtain rfl : i = 0 := by omega
              subst hj0
              rw [knobOk_zero Hq.out]
              exact Hone.out
            have Hok := Lib.hid hok
            clear hok hj0
            go_upto_region 12 with (fail)
            refine wp_region_grow (by kernel_rfl) (by kernel_rfl) ?_
            repeat (go_big_quiet_step ((first | (go_at_call 56; exact quiet_ext (contains_c A ca cells _ _ _ _ (hc.ext (EE.grow _)))) | (go_at_call 48; exact quiet_ext (step_c d (by omega) _)) | (go_at_call 57; exact quiet_ext (plus_c _ _ _ _ _ _ _ Hok1'.out (stepS_ok d))))))
            refine wpQuiet_nil ?_
            intro W5 hW5
            have E5 : Ext W4 W5 := by
              obtain ⟨x, rfl⟩ := hW5
              exact (Ext.refl _).grow x
            clear hW5
            obtain ⟨hcW5, hfW5, hzW5⟩ := ext_facts E5
            go_upto_region 14 with (fail)
            refine wp_region_tail 23 (by kernel_rfl) (by kernel_rfl) ?_
            simp only [List.take_succ_cons, List.take_zero, List.drop_succ_cons, List.drop_zero]
            repeat (go_big_quiet_step (fail))
            refine wpQuiet_nil ?_
            intro W6 hW6
            have E6 : Ext W5 W6 := by
              obtain ⟨x, rfl⟩ := hW6
              exact (Ext.refl _).grow x
            clear hW6
            obtain ⟨hcW6, hfW6, hzW6⟩ := ext_facts E6
            go_wp2_with fail
            go_roundw
            case rel => exact ⟨j + 1, by omega, by go_num, (EE.trans E5).trans E6, ((BK.ext E4).ext E5).ext E6, Hok⟩
            case measure => simp only [intOf]; omega
          · obtain ⟨g', off', ⟨⟨rx, ry, rz⟩, rdir, rsort⟩, hA', hr, -, hg', p0, p1, p2, p3, -⟩ := (hn.ext EE).at_ (k := j - 1) (by omega)
            cases hA'
            simp only at p0 p1 p2 p3
            have Hr := Lib.hid hr
            clear hr
            have z1 : decide ((0 : Int) < (j : Int)) = true := by simp; omega
            have z2 : decide (0 < j) = true := by simp; omega
            have hkc : (((j - 1 : Nat) : Nat) : Int) = (j : Int) - 1 := by omega
            have ht : ((j : Int) - 1).toNat = j - 1 := by omega
            have hk1 : (1 : Int) ≤ j := by omega
            have hok : knobOk cells knobs j = Knb.lt ⟨⟨rx, ry, rz⟩, rdir, rsort⟩ ⟨⟨x, y, z⟩, d, sort⟩ := by rw [knobOk_next Hq.out hj0 Hr.out, Hone.out, Bool.true_and]
            have Hok := Lib.hid hok
            clear hok
            obtain ⟨r, hr⟩ : ∃ r, Knb.lt ⟨⟨rx, ry, rz⟩, rdir, rsort⟩ ⟨⟨x, y, z⟩, d, sort⟩ = r := ⟨_, rfl⟩
            have ho := knobLt_or ⟨⟨rx, ry, rz⟩, rdir, rsort⟩ ⟨⟨x, y, z⟩, d, sort⟩
            rw [hr] at ho
            simp only at ho
            have Hr' := Lib.hid hr
            clear hr
            cases r
            · have Hb := Lib.hid (kindErr_bad (k := ⟨cells, knobs, wt⟩) (valid_bad2 (allR_bad hlt (by rw [Hok.out, Hr'.out]))))
              go_upto_region 12 with (fail)
              refine wp_region_grow (by kernel_rfl) (by kernel_rfl) ?_
              repeat (go_big_quiet_step ((first | (go_at_call 56; exact quiet_ext (contains_c A ca cells _ _ _ _ (hc.ext (EE.grow _)))) | (go_at_call 48; exact quiet_ext (step_c d (by omega) _)) | (go_at_call 57; exact quiet_ext (plus_c _ _ _ _ _ _ _ Hok1'.out (stepS_ok d))))))
              refine wpQuiet_nil ?_
              intro W5 hW5
              have E5 : Ext W4 W5 := by
                obtain ⟨x, rfl⟩ := hW5
                exact (Ext.refl _).grow x
              clear hW5
              obtain ⟨hcW5, hfW5, hzW5⟩ := ext_facts E5
              go_upto_region 14 with (fail)
              refine wp_region_tail 23 (by kernel_rfl) (by kernel_rfl) ?_
              simp only [List.take_succ_cons, List.take_zero, List.drop_succ_cons, List.drop_zero]
              repeat (go_big_quiet_step ((first | (go_at_call 55; exact quiet_ext (order_c _ _ _ _ _ _ _)) | (go_at_call 59; exact quiet_grow_same (cmpU_c _ _ _)))))
              refine wpQuiet_nil ?_
              intro W6 hW6
              have E6 : Ext W5 W6 := by
                obtain ⟨x, rfl⟩ := hW6
                exact (Ext.refl _).grow x
              clear hW6
              obtain ⟨hcW6, hfW6, hzW6⟩ := ext_facts E6
              go_wp2_with fail
              refine (or2_c _ _ _ _).mono ?_
              rintro v w4 ⟨rfl, rfl⟩
              go_wp2_with fail
              go_ret
              exact ⟨by rw [Hb.out]; rfl, ((EE.trans E5).trans E6).alloc _⟩
            · go_upto_region 12 with (fail)
              refine wp_region_grow (by kernel_rfl) (by kernel_rfl) ?_
              repeat (go_big_quiet_step ((first | (go_at_call 56; exact quiet_ext (contains_c A ca cells _ _ _ _ (hc.ext (EE.grow _)))) | (go_at_call 48; exact quiet_ext (step_c d (by omega) _)) | (go_at_call 57; exact quiet_ext (plus_c _ _ _ _ _ _ _ Hok1'.out (stepS_ok d))))))
              refine wpQuiet_nil ?_
              intro W5 hW5
              have E5 : Ext W4 W5 := by
                obtain ⟨x, rfl⟩ := hW5
                exact (Ext.refl _).grow x
              clear hW5
              obtain ⟨hcW5, hfW5, hzW5⟩ := ext_facts E5
              go_upto_region 14 with (fail)
              refine wp_region_tail 23 (by kernel_rfl) (by kernel_rfl) ?_
              simp only [List.take_succ_cons, List.take_zero, List.drop_succ_cons, List.drop_zero]
              repeat (go_big_quiet_step ((first | (go_at_call 55; exact quiet_ext (order_c _ _ _ _ _ _ _)) | (go_at_call 59; exact quiet_grow_same (cmpU_c _ _ _)))))
              refine wpQuiet_nil ?_
              intro W6 hW6
              have E6 : Ext W5 W6 := by
                obtain ⟨x, rfl⟩ := hW6
                exact (Ext.refl _).grow x
              clear hW6
              obtain ⟨hcW6, hfW6, hzW6⟩ := ext_facts E6
              go_wp2_with fail
              refine (or2_c _ _ _ _).mono ?_
              rintro v w4 ⟨rfl, rfl⟩
              go_wp2_with fail
              go_roundw
              case rel => exact ⟨j + 1, by omega, by go_num, ((EE.trans E5).trans E6).alloc _, (((BK.ext E4).ext E5).ext E6).alloc _, Lib.hid (fun i hi => by
                rcases Nat.lt_or_ge i j with h' | h'
                · exact Hj.out i h'
                · obtain rfl : i = j := by omega
                  rw [Hok.out, Hr'.out])⟩
              case measure => simp only [intOf]; omega
        · obtain rfl : knobs.length = j := by omega
          have Hg := Lib.hid (kindErr_good (valid_good (k := ⟨cells, knobs, wt⟩) Hs.out Hcells.out (allR_good Hj.out)))
          go_wp2_with fail
          go_ret
          exact ⟨by rw [Hg.out]; rfl, E⟩
end Go.Proofs.Ytenigkngmdofiaa
