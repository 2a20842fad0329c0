/- Contracts of the shelf, laid at this program in plain declarations (written by program): slices.SortFunc[[]studwork/api.Cell,studwork/api.Cell]. slices.SortFunc on cells by the program's order: the block holds the sorted cells. Sorted of the reference: the cells in order, in new memory. cells of the program: the cells of a placed kind, in order, in new memory. Conditions: the kind's cells are valid, the turn is one, the place is not far. knobs of the program: the knobs of a placed kind, in new memory. Conditions: the kind's knobs are valid, the turn is one, the place is not far. Placed and Knobbed of the reference: the cells, in order, and the knobs of a placed brick, in new memory. Conditions: the brick is valid. Knobbed of the reference: the knobs of a placed brick, in new memory. Conditions: the brick is valid. Kinds that look alike under turns, plain. -/
import Derived.Test.YtenigkngmdofiaaLm6
import Derived.Shelf.SlLaysF0
import Derived.Test.YtenigkngmdofiaaProg
import Derived.Shelf.SlSortCmp.WholeK
import Derived.Sort.LotA
import Derived.Shelf.SlSortCmp.QuietGrown
import Derived.BigRegion
import Derived.ChangeAlike

namespace Go.Proofs.Ytenigkngmdofiaa
open Go.Shelf

def sortCells_ren : Go.Shelf.Ren := ⟨fun | 6 => 92 | 15 => 95 | 14 => 106 | 28 => 115 | 29 => 116 | 20 => 117 | 21 => 118 | 22 => 119 | 23 => 120 | 24 => 121 | 25 => 122 | 26 => 123 | 27 => 124 | 46 => 130 | 47 => 126 | 48 => 127 | 49 => 131 | 50 => 132 | 57 => 134 | n => n, fun | 22 => 36 | 24 => 23 | 25 => 107 | 3 => 3 | 39 => 148 | 0 => 0 | 53 => 160 | 55 => 162 | 4 => 4 | 46 => 153 | 45 => 152 | 50 => 157 | 5 => 5 | 9 => 9 | 66 => 168 | 70 => 172 | 76 => 176 | 77 => 31 | n => n, fun | n => n⟩
theorem sortCells : SlLaysF0.n6 Try.prog sortCells_ren := {
  mixed := by kernel_rfl,
  f6 := ⟨Try.f92.name, by decide, Try.func92.trans (congrArg some (by kernel_rfl))⟩,
  f14 := ⟨Try.f106.name, by decide, Try.func106.trans (congrArg some (by kernel_rfl))⟩,
  f15 := Try.func95.trans (congrArg some (by kernel_rfl)),
  f20 := ⟨Try.f117.name, by decide, Try.func117.trans (congrArg some (by kernel_rfl))⟩,
  f21 := ⟨Try.f118.name, by decide, Try.func118.trans (congrArg some (by kernel_rfl))⟩,
  f22 := ⟨Try.f119.name, by decide, Try.func119.trans (congrArg some (by kernel_rfl))⟩,
  f23 := ⟨Try.f120.name, by decide, Try.func120.trans (congrArg some (by kernel_rfl))⟩,
  f24 := ⟨Try.f121.name, by decide, Try.func121.trans (congrArg some (by kernel_rfl))⟩,
  f25 := ⟨Try.f122.name, by decide, Try.func122.trans (congrArg some (by kernel_rfl))⟩,
  f26 := ⟨Try.f123.name, by decide, Try.func123.trans (congrArg some (by kernel_rfl))⟩,
  f27 := ⟨Try.f124.name, by decide, Try.func124.trans (congrArg some (by kernel_rfl))⟩,
  f28 := Try.func115.trans (congrArg some (by kernel_rfl)),
  f29 := Try.func116.trans (congrArg some (by kernel_rfl)),
  f46 := ⟨Try.f130.name, by decide, Try.func130.trans (congrArg some (by kernel_rfl))⟩,
  f47 := Try.func126.trans (congrArg some (by kernel_rfl)),
  f48 := Try.func127.trans (congrArg some (by kernel_rfl)),
  f49 := ⟨Try.f131.name, by decide, Try.func131.trans (congrArg some (by kernel_rfl))⟩,
  f50 := ⟨Try.f132.name, by decide, Try.func132.trans (congrArg some (by kernel_rfl))⟩,
  f57 := ⟨Try.f134.name, by decide, Try.func134.trans (congrArg some (by kernel_rfl))⟩,
  t0 := Try.underlying0,
  a0 := Try.isAgg0,
  z0 := Try.sizeOf0,
  v0 := Try.zeroValue0,
  t3 := Try.underlying3,
  a3 := Try.isAgg3,
  z3 := Try.sizeOf3,
  v3 := Try.zeroValue3,
  t4 := Try.underlying4,
  a4 := Try.isAgg4,
  z4 := Try.sizeOf4,
  v4 := Try.zeroValue4,
  t5 := Try.underlying5,
  a5 := Try.isAgg5,
  z5 := Try.sizeOf5,
  v5 := Try.zeroValue5,
  t9 := Try.underlying9,
  a9 := Try.isAgg9,
  z9 := Try.sizeOf9,
  v9 := Try.zeroValue9,
  t22 := Try.underlying36,
  a22 := Try.isAgg36,
  z22 := Try.sizeOf36,
  v22 := Try.zeroValue36,
  t25 := Try.underlying107,
  a25 := Try.isAgg107,
  z25 := Try.sizeOf107,
  v25 := Try.zeroValue107,
  t39 := Try.underlying148,
  a39 := Try.isAgg148,
  z39 := Try.sizeOf148,
  v39 := Try.zeroValue148,
  t45 := Try.underlying152,
  a45 := Try.isAgg152,
  z45 := Try.sizeOf152,
  v45 := Try.zeroValue152,
  t46 := Try.underlying153,
  a46 := Try.isAgg153,
  z46 := Try.sizeOf153,
  v46 := Try.zeroValue153,
  t50 := Try.underlying157,
  a50 := Try.isAgg157,
  z50 := Try.sizeOf157,
  v50 := Try.zeroValue157,
  t53 := Try.underlying160,
  a53 := Try.isAgg160,
  z53 := Try.sizeOf160,
  v53 := Try.zeroValue160,
  t55 := Try.underlying162,
  a55 := Try.isAgg162,
  z55 := Try.sizeOf162,
  v55 := Try.zeroValue162,
  t66 := Try.underlying168,
  a66 := Try.isAgg168,
  z66 := Try.sizeOf168,
  v66 := Try.zeroValue168,
  t70 := Try.underlying172,
  a70 := Try.isAgg172,
  z70 := Try.sizeOf172,
  v70 := Try.zeroValue172,
  t76 := Try.underlying176,
  a76 := Try.isAgg176,
  z76 := Try.sizeOf176,
  v76 := Try.zeroValue176,
  t77 := Try.underlying31,
  a77 := Try.isAgg31,
  z77 := Try.sizeOf31,
  v77 := Try.zeroValue31 }
end Go.Proofs.Ytenigkngmdofiaa

namespace Go.Proofs.Ytenigkngmdofiaa
open Go.RowKit

instance : Inhabited Pt := ⟨⟨0, 0, 0⟩⟩
theorem wp_region_tailG {P : Program} {id : Nat} {Q : Exit → Act → World → Prop} {a : Act} {w : World} {l : List Oper} (n : Nat) (hm : P.follows .mixedOrders = true) (hB : Region.lexTailB .any l.toArray n = true)
    (h : wpQuiet P l.toArray (fun w' => ∃ p : Go.GrownBy, w' = Go.Sort.grow (w.drewN p.n) p.os) (fun a' => ∀ w', (∃ p : Go.GrownBy, w' = Go.Sort.grow (w.drewN p.n) p.os) → wpList P l.toArray Q (l.drop n) a' w') (l.take n) a) : (Code.region id l.toArray true).wp P Q a w := by
  simp only [Region.lexTailB, Bool.and_eq_true, decide_eq_true_eq] at hB
  obtain ⟨⟨⟨⟨hsel, hn⟩, hs⟩, hc⟩, hlex⟩ := hB
  have hn' : n < l.length := by simpa using hn
  have htl : (l.take n).length = n := by simp; omega
  have hdl : (l.drop n).length = l.toArray.size - n := by simp
  have inv0 : HeadInv .any l.toArray n (Array.replicate l.toArray.size false) :=
    ⟨by simp, fun j oj _ hl => (by rw [getD_replicate_false] at hl; cases hl), fun t _ ht => getD_in (by simpa using ht) (getD_replicate_false _ _)⟩
  have H := headQ_lex (P := P) (C := fun w' => ∃ p : Go.GrownBy, w' = Go.Sort.grow (w.drewN p.n) p.os) (md := .any) (g := l.toArray.size - n) hsel hs hc hn (l.take n) 0 _ a (fun j hj => by
    rw [htl] at hj
    simp [hj]) (by simpa using htl) inv0 (by rw [htl]; exact hlex) h
  refine wp_region_any hm ?_
  have H2 := any_of_headQ (Q' := Q) (g := l.toArray.size - n) (fun listed a' hL w' hw' => by
    have := wpAny_of_seq (md := .any) (Q' := Q) (l.drop n) n listed a' w' (fun j => by simp [List.getElem?_drop]) (by rw [hdl]; exact hL.1) (hL.2 w' hw')
    rwa [hdl] at this) _ _ _ H { w with drawn := w.drawn + 1 } ⟨⟨1, #[]⟩, by rw [Go.Sort.grow_empty]; rfl⟩
  rw [htl, show n + (l.toArray.size - n) = l.toArray.size from by omega] at H2
  exact H2
/-- New blocks and draws, counted. -/
def Grn (w w' : World) : Prop := ∃ q os, w' = Go.Sort.grow (w.drewN q) os
theorem Grn.refl (w : World) : Grn w w := ⟨0, #[], by rw [Go.Sort.grow_empty]; rfl⟩
theorem Grn.trans {a b c : World} (h : Grn a b) (k : Grn b c) : Grn a c := by
  obtain ⟨q, os, rfl⟩ := h
  obtain ⟨q', os', rfl⟩ := k
  exact ⟨q + q', os ++ os', by
    show Go.Sort.grow (Go.Sort.grow ((a.drewN q).drewN q') os) os' = _
    rw [Go.Sort.grow_grow, World.drewN_drewN]⟩
theorem Grn.alloc {a b : World} (h : Grn a b) (o : Obj) : Grn a (b.alloc o) := h.trans ⟨0, #[o], by
  show b.alloc o = Go.Sort.grow b #[o]
  unfold World.alloc Go.Sort.grow
  rw [Array.push_eq_append]⟩
theorem Grn.ext {a b : World} (h : Grn a b) : Ext a b := by
  obtain ⟨q, os, rfl⟩ := h
  exact grow_below a ⟨os, a.drawn + q⟩
set_option maxHeartbeats 1600000 in
theorem order_g (a b c d e f : Int) (w : World) :
    Calls Try.prog 55 #[.agg #[.int .i64 a, .int .i64 b, .int .i64 c], .agg #[.int .i64 d, .int .i64 e, .int .i64 f]] w fun v w' => v = .returned (.int .i64 (ordP ⟨a, b, c⟩ ⟨d, e, f⟩)) ∧ Grn w w' := by
  have hG := ((Grn.refl w).alloc (.cells #[.int .i64 a, .int .i64 b, .int .i64 c] 23)).alloc (.cells #[.int .i64 d, .int .i64 e, .int .i64 f] 23)
  obtain ⟨W1, hW1, E1, B1, hz1⟩ := mk_ w #[.int .i64 a, .int .i64 b, .int .i64 c] 23
  obtain ⟨W2, hW2, E2, B2, hz2⟩ := mk_ W1 #[.int .i64 d, .int .i64 e, .int .i64 f] 23
  rw [hW1, hW2] at hG
  have B1' := B1.ext E2
  rw [hz1] at B2
  have a0 := Go.cell_grown B1'.lt (B1'.cell 0)
  have a1 := Go.cell_grown B1'.lt (B1'.cell 1)
  have a2 := Go.cell_grown B1'.lt (B1'.cell 2)
  have c0 := Go.cell_grown B2.lt (B2.cell 0)
  have c1 := Go.cell_grown B2.lt (B2.cell 1)
  have c2 := Go.cell_grown B2.lt (B2.cell 2)
  go_enter Try.func55, Try.ntmps55
  go_upto_region 1 with (fail)
  clear hW1 hW2 hz1 hz2 B1 E1 E2 B1' B2
  refine wp_region_tailG 15 (by kernel_rfl) (by kernel_rfl) ?_
  simp only [List.take_succ_cons, List.take_zero, List.drop_succ_cons, List.drop_zero]
  repeat (go_big_quiet_step ((go_at_call 83; exact (cmpZ_c _ _ _).mono fun _ _ ⟨he, hw⟩ => ⟨he, _, hw.symm⟩)))
  refine wpQuiet_nil ?_
  intro W3 hW3
  have hG3 : Grn w W3 := by
    obtain ⟨p, rfl⟩ := hW3
    exact hG.trans ⟨p.n, p.os, rfl⟩
  clear hW3 hG a0 a1 a2 c0 c1 c2
  go_wp2_with fail
  refine (or3_c _ _ _ _ _).mono ?_
  rintro v w4 ⟨rfl, rfl⟩
  go_wp2_with fail
  go_ret
  exact ⟨rfl, hG3.alloc _⟩

/-! The sort. -/
def sortP (l : List Pt) : List Pt := l.mergeSort fun x y => !ltP y x
def ptsA (l : List Pt) : Array Value := rowsA (l.map Pt.cs)
theorem pts_wide (l : List Pt) : ∀ r ∈ l.map Pt.cs, r.length = 3 := fun r h => by
  obtain ⟨p, _, rfl⟩ := List.mem_map.1 h
  rfl
theorem ltOf_ordP : ltOf ordP = ltP := by
  funext x y
  unfold ltOf
  rw [Bool.eq_iff_iff, decide_eq_true_eq, ordP_neg]
theorem swoP : Go.Sort.SWO ltP where
  irrefl := ltP_irrefl
  trans _ _ _ := ltP_trans
  ntrans x y z h k := by
    rw [ltP_not] at *
    omega
theorem ltP_total (x y : Pt) (h : ltP x y = false) (k : ltP y x = false) : x = y := by
  rcases ordP_cases x y with ⟨e, _⟩ | ⟨e, _⟩ | ⟨e, _⟩
  · rw [h] at e
    cases e
  · exact e
  · rw [k] at e
    cases e
theorem flatK_pts (l : List Pt) : Go.Sort.flatK Pt.cs 3 l.toArray = ptsA l := by
  refine rowsA_ext (pts_wide l) (by simp) fun i j r u hr hu => ?_
  rw [List.getElem?_map] at hr
  obtain ⟨p, hp, rfl⟩ := Option.map_eq_some_iff.1 hr
  obtain ⟨hi, hpi⟩ := List.getElem?_eq_some_iff.1 hp
  have hj : j < 3 := (List.getElem?_eq_some_iff.1 hu).1
  have hlt : i * 3 + j < l.toArray.size * 3 := by simp; omega
  rw [Array.getElem?_eq_getElem (by simpa using hlt), ← getElem!_pos, Go.Sort.get_flatK _ _ _ _ hlt, show (i * 3 + j) / 3 = i by omega, show (i * 3 + j) % 3 = j by omega, getElem!_pos l.toArray i (by simpa using hi)]
  have e1 : l.toArray[i]'(by simpa using hi) = p := by simpa using hpi
  rw [e1, ← hu]
  rw [List.getElem!_eq_getElem?_getD, hu]
  rfl
theorem putPts {w : World} {g n : Nat} {os : Array Obj} {l l' : List Pt} {t : TypeId} (hl : l'.length = l.length) (hb : Blk w g t (ptsA l)) :
    Blk (sortWorldK Pt.cs 3 w g 0 n l'.toArray os) g t (ptsA l') ∧ w.grownBy (sortWorldK Pt.cs 3 w g 0 n l'.toArray os) (some g) := by
  have hg := hb.lt
  constructor
  · unfold sortWorldK Go.Sort.putRowK
    rw [flatK_pts]
    show (Go.Sort.grow _ _).heap[g]? = _
    rw [Go.Sort.heap_grow_old _ _ (by simpa using hg)]
    have hb' : w.heap[g]? = some (.cells (ptsA l) t (0, 0)) := hb
    have e : Go.Sort.putCells id 0 (ptsA l') (ptsA l) = ptsA l' := by
      apply Array.ext_getElem?
      intro k
      have hs : (ptsA l').size = (ptsA l).size := by unfold ptsA; rw [rowsA_size (pts_wide l), rowsA_size (pts_wide l')]; simp [hl]
      rcases Nat.lt_or_ge k (ptsA l).size with hk | hk
      · have hk' : k < (ptsA l').size := by omega
        simp [Go.Sort.putCells, hk, hk']
      · rw [Array.getElem?_eq_none (by simpa [Go.Sort.putCells] using hk), Array.getElem?_eq_none (by omega)]
    simp [Go.Sort.putRow, Go.Sort.mapBlock, Go.Sort.ahead, Array.getElem?_modify, hb', Go.Sort.onCells, e]
  · refine ⟨rfl, rfl, rfl, by simp [sortWorldK, Go.Sort.putRowK], fun k hk hne => ?_⟩
    unfold sortWorldK Go.Sort.putRowK
    rw [Go.Sort.heap_grow_old _ _ (by simpa using hk)]
    have : g ≠ k := fun e => hne (by rw [e])
    simp [Go.Sort.putRow, Go.Sort.mapBlock, Go.Sort.ahead, Array.getElem?_modify, this]
theorem sortFunc_c (l : List Pt) (g : Nat) (w : World) (hB : Blk w g 23 (ptsA l)) (hn : l.length ≤ 100000) :
    Calls Try.prog 92 #[.slice (some ⟨g, 0, none⟩) l.length l.length, .func (.func 55) #[] #[]] w fun e w' => e = .returned (.tuple #[]) ∧ Blk w' g 23 (ptsA (sortP l)) ∧ w.grownBy w' (some g) := by
  have hH : Go.Sort.HoldsK Pt.cs 3 w g 0 l.toArray := by
    unfold Go.Sort.HoldsK
    rw [flatK_pts]
    intro j hj
    refine ⟨?_, by rw [Nat.zero_add]; exact hB.frozen j⟩
    rw [Nat.zero_add, hB.cell, Array.getElem?_eq_getElem hj, getElem!_pos (ptsA l) j hj]
    rfl
  have hcmp : CmpLays Try.prog 55 #[] Pt.cs 3 ordP g 0 l.toArray.size w := fun m os dk _ x y => (order_g x.x x.y x.z y.x y.y y.z _).mono fun _ _ ⟨he, q, os', hw⟩ => ⟨he, q, os', hw⟩
  have h := AnyQ.slices_SortFunc sortCells 3 Try.isAgg23 Try.sizeOf23 Pt.cs (fun _ => rfl) (fun x v hv => by
      simp only [Pt.cs, List.mem_cons, List.not_mem_nil, or_false] at hv
      rcases hv with rfl | rfl | rfl <;> rfl) ordP (by rw [ltOf_ordP]; exact swoP) 55 #[] g 0 l.length l.toArray w (enters_of Try.func55 (by kernel_rfl) rfl) hcmp hH hB.lt (by simp; omega)
  rw [ltOf_ordP] at h
  refine (show Calls Try.prog 92 _ _ _ from h).mono ?_
  rintro e w' ⟨rfl, d', n, os, hp, hs, rfl⟩
  obtain rfl : d' = (sortP l).toArray := Array.ext' (Go.Sort.sorted_unique_holds swoP ltP_total l.toArray d' hp hs)
  exact ⟨rfl, putPts (List.length_mergeSort l) hB⟩
end Go.Proofs.Ytenigkngmdofiaa

namespace Go.Proofs.Ytenigkngmdofiaa
open Go.RowKit

theorem sortP_pairs (l : List Pt) : (sortP l).Pairwise fun p q => ltP q p = false := by
  have h := List.pairwise_mergeSort (le := fun x y => !ltP y x) (fun a b c h k => by
    simp only [Bool.not_eq_true', ltP_not] at *
    omega) (fun a b => by
    cases h : ltP b a
    · rfl
    · rw [ltP_anti h]
      rfl) l
  exact h.imp fun h => by simpa using h
theorem sortP_perm (l : List Pt) : (sortP l).Perm l := List.mergeSort_perm _ _
theorem sortP_len (l : List Pt) : (sortP l).length = l.length := List.length_mergeSort _
theorem sortP_is {l l' : List Pt} (hp : l'.Perm l) (hs : l'.Pairwise fun p q => ltP q p = false) : l' = sortP l :=
  List.Perm.eq_of_pairwise (fun a b _ _ h k => ltP_total a b k h) hs (sortP_pairs l) (hp.trans (sortP_perm l).symm)
/-- The state of an insertion: the first cells are in order but for x, which is before all of B. -/
structure Ins (l : List Pt) (j k : Nat) (A : List Pt) (x : Pt) (B C : List Pt) : Prop where
  k : A.length = k
  j : A.length + B.length = j
  perm : (A ++ x :: (B ++ C)).Perm l
  sorted : (A ++ B).Pairwise fun p q => ltP q p = false
  less : ∀ b ∈ B, ltP x b = true
theorem Ins.step {l : List Pt} {j k : Nat} {A : List Pt} {a x : Pt} {B C : List Pt} (h : Ins l j (k + 1) (A ++ [a]) x B C) (hx : ltP x a = true) : Ins l j k A x (a :: B) C := by
  obtain ⟨h1, h2, h3, h4, h5⟩ := h
  simp only [List.length_append, List.length_cons, List.length_nil] at h1 h2
  refine ⟨by omega, by simp only [List.length_cons]; omega, ?_, ?_, fun b hb => ?_⟩
  · refine List.Perm.trans ?_ h3
    rw [List.append_assoc]
    exact List.Perm.append_left _ (List.Perm.swap _ _ _)
  · rw [List.append_assoc] at h4
    exact h4
  · rcases List.mem_cons.1 hb with rfl | hb
    · exact hx
    · exact h5 b hb
theorem Ins.stop {l : List Pt} {j k : Nat} {A : List Pt} {x : Pt} {B C : List Pt} (h : Ins l j k A x B C) (hx : ∀ a A', A = A' ++ [a] → ltP x a = false) : ((A ++ x :: (B ++ C)).take (j + 1)).Pairwise fun p q => ltP q p = false := by
  obtain ⟨h1, h2, h3, h4, h5⟩ := h
  have e : (A ++ x :: (B ++ C)).take (j + 1) = A ++ x :: B := by
    rw [show A ++ x :: (B ++ C) = (A ++ x :: B) ++ C by simp, List.take_append_of_le_length (by simp; omega), List.take_of_length_le (by simp; omega)]
  rw [e]
  rw [List.pairwise_append] at h4 ⊢
  obtain ⟨p1, p2, p3⟩ := h4
  refine ⟨p1, List.pairwise_cons.2 ⟨fun b hb => ltP_anti (h5 b hb), p2⟩, fun a ha b hb => ?_⟩
  rcases List.mem_cons.1 hb with rfl | hb
  · rcases List.eq_nil_or_concat A with rfl | ⟨A', a', hA⟩
    · cases ha
    · rw [List.concat_eq_append] at hA
      have q := hx a' A' hA
      subst hA
      rcases List.mem_append.1 ha with h | h
      · have r := (List.pairwise_append.1 p1).2.2 a h a' (List.mem_singleton_self _)
        rw [ltP_not] at *
        omega
      · rw [List.mem_singleton.1 h]
        exact q
  · exact p3 a ha b hb
theorem Ins.start {l L : List Pt} {j : Nat} {x : Pt} (hp : L.Perm l) (hs : (L.take j).Pairwise fun p q => ltP q p = false) (hx : L[j]? = some x) : Ins l j j (L.take j) x [] (L.drop (j + 1)) ∧ L = L.take j ++ x :: ([] ++ L.drop (j + 1)) := by
  obtain ⟨hj, hxj⟩ := List.getElem?_eq_some_iff.1 hx
  have e : L = L.take j ++ x :: ([] ++ L.drop (j + 1)) := by
    rw [List.nil_append, ← hxj, ← List.drop_eq_getElem_cons hj, List.take_append_drop]
  exact ⟨⟨by rw [List.length_take]; omega, by rw [List.length_take]; simp; omega, by rw [← e]; exact hp, by rw [List.append_nil]; exact hs, fun b hb => by cases hb⟩, e⟩
theorem pt_one {c : List Pt} : ∀ u ∈ (c.map Pt.cs).flatten, u.oneCell' = true := by
  intro u hu
  rw [List.mem_flatten] at hu
  obtain ⟨r, hr, hu⟩ := hu
  obtain ⟨x, _, rfl⟩ := List.mem_map.1 hr
  unfold Pt.cs at hu
  simp only [List.mem_cons, List.not_mem_nil, or_false] at hu
  rcases hu with rfl | rfl | rfl <;> rfl
theorem infoPt3 : (Try.prog.info? 23).map (fun i => (i.zero, i.size, i.bytes)) = some (some (.agg #[.int .i64 0, .int .i64 0, .int .i64 0]), 3, 24) := by kernel_rfl
def RCellsPost (l : List Pt) (n : Nat) (w : World) (e : Ending) (w' : World) : Prop := ∃ g cap, w.heap.size ≤ g ∧ e = .returned (.slice (some ⟨g, 0, none⟩) n cap) ∧ n ≤ cap ∧ cap ≤ maxLen ∧ RowX w' g 23 (l.map Pt.cs) ∧ Ext w w'
/-- Two rows exchanged: the new world under one name. -/
theorem RowX.swap3 {w : World} {g : Nat} {t : TypeId} {rows : List (List Value)} (h : RowX w g t rows) (hw : ∀ r ∈ rows, r.length = 3) {k m : Nat} (hk : k < rows.length) (hm : m < rows.length) (a b c d e f : Value) :
    ∃ w2, (((((w.setCell ⟨g, k * 3, none⟩ a).setCell ⟨g, k * 3 + 1, none⟩ b).setCell ⟨g, k * 3 + 2, none⟩ c).setCell ⟨g, m * 3, none⟩ d).setCell ⟨g, m * 3 + 1, none⟩ e).setCell ⟨g, m * 3 + 2, none⟩ f = w2 ∧ RowX w2 g t ((rows.set k [a, b, c]).set m [d, e, f]) ∧ (∀ w0, Ext w0 w → w0.heap.size ≤ g → Ext w0 w2) := by
  refine ⟨_, rfl, ?_, fun w0 hE hg => setsW_ext [d, e, f] (m * 3) (setsW_ext [a, b, c] (k * 3) hE hg) hg⟩
  exact (h.store hw hk [a, b, c] rfl).store (fun r hr => by
    rcases List.mem_or_eq_of_mem_set hr with h | h
    · exact hw r h
    · rw [h]
      rfl) (by rw [List.length_set]; exact hm) [d, e, f] rfl
set_option maxRecDepth 100000 in
set_option maxHeartbeats 16000000 in
theorem rSorted_c (l : List Pt) (A : Option Addr) (cap : Nat) (w : World) (hs : Cells w A cap l) (hn : 0 < l.length) (hl : l.length ≤ 1000) :
    Calls Try.prog 93 #[.slice A l.length cap] w (RCellsPost (sortP l) l.length w) := by
  obtain ⟨b, off, rfl, hcells⟩ := SliceIs.adds hs hn (by decide)
  obtain ⟨iL, hiL, zL0, zL1, zL2⟩ := info_parts infoPt3
  have hfl : (l.map Pt.cs).flatten.length = l.length * 3 := by rw [rowsF_len (pts_wide l), List.length_map]
  obtain ⟨xs, hxs⟩ : ∃ xs, (l.map Pt.cs).flatten = xs := ⟨_, rfl⟩
  have hone : ∀ u ∈ xs, u.oneCell' = true := by rw [← hxs]; exact pt_one
  obtain ⟨n, hnn⟩ : ∃ n, l.length = n := ⟨_, rfl⟩
  rw [hxs] at hcells hfl
  rw [hnn] at hfl hn hl ⊢
  have Hnn := Lib.hid hnn
  have Hxs := Lib.hid hxs
  have Hcells := Lib.hid hcells
  have Hone := Lib.hid hone
  have Hfl := Lib.hid hfl
  have m1 : 0 + n ≤ maxLen := by unfold maxLen; omega
  have m2 : (0 + n) * 24 ≤ 140737488355328 := by omega
  clear hxs hone hcells hfl hs hnn
  go_enter Try.func93, Try.ntmps93
  go_wp2_with (at_builtin; refine wpList_append_own _ rfl (.tmp 6) (.tmp 7) 36 rfl w.heap.size 23 iL _ 3 24 Try.underlying36 hiL zL0 zL1 zL2 rfl (by decide) _ 0 [] rfl (World.ownsRow_made w #[] 0 (Nat.le_refl _) (by unfold maxLen; omega) rfl) ⟨b, off, none⟩ n cap xs rfl Hfl.out (fun j u hu => ((Ext.refl w).alloc _).cell (Hcells.out j u hu)) Hone.out m1 m2 (by simp) ?_; intro v' w4 own4 hg4 h4; obtain ⟨g, cp, rfl⟩ := own_form own4 (by omega))
  have E4 := ((Ext.refl w).alloc (.cells #[] 23)).grown hg4 (fun r e => by cases e; exact Nat.le_refl _)
  rw [Nat.zero_add, List.nil_append, ← Hxs.out] at own4
  obtain ⟨X4, hg, q1, q2⟩ := RowX.of_own own4
  clear own4 hg4 h4 zL0 zL1 zL2 hiL m1 m2
  go_loopw [4] (fun i wr => ∃ (j : Nat) (L : List Pt), j ≤ n ∧ i = .int .i64 j ∧ Ext w wr ∧ RowX wr g 23 (L.map Pt.cs) ∧ L.Perm l ∧ Hid ((L.take j).Pairwise fun p q => ltP q p = false)) (fun i _ => n - (intOf i).toNat)
  case atStart => exact ⟨0, l, by omega, rfl, E4, X4, List.Perm.refl _, Lib.hid List.Pairwise.nil⟩
  case round =>
    clear E4 X4
    obtain ⟨j, L, hj, rfl, E, X, hp, Hs⟩ := hrel
    have hLn : L.length = n := hp.length_eq.trans Hnn.out
    have Hp := Lib.hid hp
    have HLn := Lib.hid hLn
    clear hp hLn
    by_cases hlt : j < n
    · obtain ⟨x, hx⟩ : ∃ x, L[j]? = some x := ⟨_, List.getElem?_eq_getElem (by rw [HLn.out]; exact hlt)⟩
      obtain ⟨hI, hL⟩ := Ins.start Hp.out Hs.out hx
      rw [hL] at X
      clear hx hL
      go_wp2_with fail
      obtain ⟨wo, hwo⟩ : ∃ wo : World, wo = wr := ⟨_, rfl⟩
      clear hwo
      go_loopw [5] (fun i wr => ∃ (k : Nat) (A : List Pt) (x : Pt) (B C : List Pt), k ≤ j ∧ i = .int .i64 k ∧ Ext w wr ∧ RowX wr g 23 ((A ++ x :: (B ++ C)).map Pt.cs) ∧ Ins l j k A x B C) (fun i _ => (intOf i).toNat)
      case atStart => exact ⟨j, _, _, _, _, Nat.le_refl _, rfl, E, X, hI⟩
      case round =>
        clear E X hI Hs Hp HLn
        obtain ⟨k, A, x, B, C, hkj, rfl, E, X, hI⟩ := hrel
        have hlen : (A ++ x :: (B ++ C)).length = n := hI.perm.length_eq.trans Hnn.out
        have hAk := hI.k
        have hxk : ((A ++ x :: (B ++ C)).map Pt.cs)[k]? = some (Pt.cs x) := by
          rw [List.getElem?_map, List.getElem?_append_right (by omega), hAk, Nat.sub_self]
          rfl
        have x0 := X.cell (pts_wide _) hxk (j := 0) rfl
        have x1 := X.cell (pts_wide _) hxk (j := 1) rfl
        have x2 := X.cell (pts_wide _) hxk (j := 2) rfl
        simp only [Nat.add_zero] at x0
        have HAk := Lib.hid hAk
        have Hlen := Lib.hid hlen
        clear hxk hAk hlen
        by_cases hk0 : k = 0
        · have z1 : decide ((0 : Int) < (k : Int)) = false := by simp; omega
          have z2 : decide (0 < k) = false := by simp; omega
          have hstop : ∀ a A', A = A' ++ [a] → ltP x a = false := fun a A' h => by
            have := HAk.out
            rw [h] at this
            simp at this
            omega
          have Hstop := Lib.hid hstop
          clear hstop hk0
          go_upto_region 6 with (fail)
          refine wp_region_grow (by kernel_rfl) (by kernel_rfl) ?_
          repeat (go_big_quiet_step (fail))
          refine wpQuiet_nil ?_
          intro W5 hW5
          have E5 : Ext wr W5 := by
            obtain ⟨x, rfl⟩ := hW5
            exact (Ext.refl _).grow x
          clear hW5
          obtain ⟨hcW5, hfW5, hzW5⟩ := ext_facts E5
          have EZ := E.trans E5
          have XZ := X.ext E5
          have hstop := Hstop.out
          clear hcW5 hfW5 hzW5 x0 x1 x2
          go_wp2_with fail
          go_roundw
          case rel => exact ⟨j + 1, _, by omega, by go_num, EZ, XZ, hI.perm, Lib.hid (hI.stop hstop)⟩
          case measure => simp only [intOf]; omega
        · obtain ⟨A', a, rfl⟩ : ∃ A' a, A = A' ++ [a] := by
            rcases List.eq_nil_or_concat A with h | ⟨A', a, h⟩
            · have := HAk.out
              rw [h] at this
              simp at this
              omega
            · exact ⟨A', a, by rw [h, List.concat_eq_append]⟩
          have hA' : A'.length = k - 1 := by
            have := HAk.out
            simp at this
            omega
          have hak : (((A' ++ [a]) ++ x :: (B ++ C)).map Pt.cs)[k - 1]? = some (Pt.cs a) := by
            rw [List.getElem?_map, List.append_assoc, List.getElem?_append_right (by omega), hA', Nat.sub_self]
            rfl
          have a0 := X.cell (pts_wide _) hak (j := 0) rfl
          have a1 := X.cell (pts_wide _) hak (j := 1) rfl
          have a2 := X.cell (pts_wide _) hak (j := 2) rfl
          simp only [Nat.add_zero] at a0
          have HA' := Lib.hid hA'
          clear hak hA'
          have z1 : decide ((0 : Int) < (k : Int)) = true := by simp; omega
          have z2 : decide (0 < k) = true := by simp; omega
          have hkc : (((k - 1 : Nat) : Nat) : Int) = (k : Int) - 1 := by omega
          have ht : ((k : Int) - 1).toNat = k - 1 := by omega
          have hk1 : (1 : Int) ≤ k := by omega
          have hkn : (k : Int) < n := by omega
          go_upto_region 6 with (fail)
          refine wp_region_grow (by kernel_rfl) (by kernel_rfl) ?_
          repeat (go_big_quiet_step (((go_at_call 86; exact quiet_ext (rBefore_c x.x x.y x.z a.x a.y a.z _)))))
          refine wpQuiet_nil ?_
          intro W5 hW5
          have E5 : Ext wr W5 := by
            obtain ⟨x, rfl⟩ := hW5
            exact (Ext.refl _).grow x
          clear hW5
          obtain ⟨hcW5, hfW5, hzW5⟩ := ext_facts E5
          obtain ⟨r, hr⟩ : ∃ r, ltP ⟨x.x, x.y, x.z⟩ ⟨a.x, a.y, a.z⟩ = r := ⟨_, rfl⟩
          rw [hr]
          have Hr := Lib.hid hr
          clear hr
          have EZ := E.trans E5
          have XZ := X.ext E5
          clear hcW5 hfW5 hzW5 x0 x1 x2 a0 a1 a2
          cases r
          · have hstop : ∀ a' A'', A' ++ [a] = A'' ++ [a'] → ltP x a' = false := fun a' A'' h => by
              have := (List.append_inj' h rfl).2
              cases this
              exact Hr.out
            have Hstop := Lib.hid hstop
            clear hstop
            go_wp2_with fail
            go_roundw
            case rel => exact ⟨j + 1, _, by omega, by go_num, EZ, XZ, hI.perm, Lib.hid (hI.stop Hstop.out)⟩
            case measure => simp only [intOf]; omega
          · have hlen6 : (((A' ++ [a]) ++ x :: (B ++ C)).map Pt.cs).length = n := by rw [List.length_map]; exact Hlen.out
            have hxk : (((A' ++ [a]) ++ x :: (B ++ C)).map Pt.cs)[k]? = some (Pt.cs x) := by
              rw [List.getElem?_map, List.getElem?_append_right (by have := HAk.out; omega), HAk.out, Nat.sub_self]
              rfl
            have hak : (((A' ++ [a]) ++ x :: (B ++ C)).map Pt.cs)[k - 1]? = some (Pt.cs a) := by
              rw [List.getElem?_map, List.append_assoc, List.getElem?_append_right (by have := HA'.out; omega), HA'.out, Nat.sub_self]
              rfl
            have x0 := XZ.cell (pts_wide _) hxk (j := 0) rfl
            have x1 := XZ.cell (pts_wide _) hxk (j := 1) rfl
            have x2 := XZ.cell (pts_wide _) hxk (j := 2) rfl
            have a0 := XZ.cell (pts_wide _) hak (j := 0) rfl
            have a1 := XZ.cell (pts_wide _) hak (j := 1) rfl
            have a2 := XZ.cell (pts_wide _) hak (j := 2) rfl
            simp only [Nat.add_zero] at x0 a0
            have fz := XZ.frozen
            obtain ⟨W6, hW6, X6, ext6⟩ := XZ.swap3 (pts_wide _) (k := k) (m := k - 1) (by omega) (by omega) (.int .i64 a.x) (.int .i64 a.y) (.int .i64 a.z) (.int .i64 x.x) (.int .i64 x.y) (.int .i64 x.z)
            have hrows : ((((A' ++ [a]) ++ x :: (B ++ C)).map Pt.cs).set k [.int .i64 a.x, .int .i64 a.y, .int .i64 a.z]).set (k - 1) [.int .i64 x.x, .int .i64 x.y, .int .i64 x.z] = (A' ++ x :: ((a :: B) ++ C)).map Pt.cs := by
              have e1 : (((A' ++ [a]) ++ x :: (B ++ C)).map Pt.cs).set k (Pt.cs a) = ((A' ++ [a]) ++ a :: (B ++ C)).map Pt.cs := by
                rw [← List.map_set, List.set_append_right _ _ (by have := HAk.out; omega), HAk.out, Nat.sub_self]
                rfl
              have e2 : (((A' ++ [a]) ++ a :: (B ++ C)).map Pt.cs).set (k - 1) (Pt.cs x) = (A' ++ x :: ((a :: B) ++ C)).map Pt.cs := by
                rw [← List.map_set, List.append_assoc, List.set_append_right _ _ (by have := HA'.out; omega), HA'.out, Nat.sub_self]
                rfl
              show ((((A' ++ [a]) ++ x :: (B ++ C)).map Pt.cs).set k (Pt.cs a)).set (k - 1) (Pt.cs x) = _
              rw [e1, e2]
            rw [hrows] at X6
            have hI' : Ins l j (k - 1) A' x (a :: B) C := by
              have := hI
              rw [show k = (k - 1) + 1 by omega] at this
              exact this.step Hr.out
            clear hrows hxk hak hlen6
            go_upto_region 8 with (fail)
            go_region
            go_wp2_with fail
            go_roundw
            case rel => exact ⟨k - 1, A', x, a :: B, C, by omega, by rw [hkc], (ext6 _ EZ hg).drew, X6.drew, hI'⟩
            case measure => simp only [intOf]; omega
    · obtain rfl : n = j := by omega
      have hfin : L = sortP l := sortP_is Hp.out (by
        have := Hs.out
        rwa [List.take_of_length_le (by rw [HLn.out]; exact Nat.le_refl _)] at this)
      subst hfin
      go_wp2_with fail
      go_ret
      exact ⟨g, cp, hg, rfl, q1, q2, X, E⟩
end Go.Proofs.Ytenigkngmdofiaa

namespace Go.Proofs.Ytenigkngmdofiaa
open Go.RowKit

def placeP (cells : List Pt) (n : Nat) (p : Pt) : List Pt := cells.map fun c => addP (turnS c n) p
theorem placeP_len (cells : List Pt) (n : Nat) (p : Pt) : (placeP cells n p).length = cells.length := List.length_map _
/-- The first j of a list, and the rest still at 0. -/
def partL {α : Type} (z : α) (l : List α) (j : Nat) : List α := l.take j ++ List.replicate (l.length - j) z
theorem partL_zero {α : Type} (z : α) (l : List α) : partL z l 0 = List.replicate l.length z := by simp [partL]
theorem partL_all {α : Type} (z : α) (l : List α) : partL z l l.length = l := by simp [partL]
theorem partL_len {α : Type} (z : α) (l : List α) {j : Nat} (hj : j ≤ l.length) : (partL z l j).length = l.length := by simp [partL]; omega
theorem partL_set {α : Type} (z : α) (l : List α) {j : Nat} {x : α} (hx : l[j]? = some x) : (partL z l j).set j x = partL z l (j + 1) := by
  have hj : j < l.length := (List.getElem?_eq_some_iff.1 hx).1
  unfold partL
  rw [List.take_add_one, hx, List.set_append_right _ _ (by rw [List.length_take]; omega)]
  have e : l.length - j = (l.length - (j + 1)) + 1 := by omega
  rw [e, List.replicate_succ]
  simp [Nat.min_eq_left (Nat.le_of_lt hj)]
theorem partL_at {α : Type} (z : α) (l : List α) {j : Nat} (hj : j < l.length) : (partL z l j)[j]? = some z := by
  unfold partL
  rw [List.getElem?_append_right (by rw [List.length_take]; omega), List.length_take, Nat.min_eq_left (Nat.le_of_lt hj), Nat.sub_self, List.getElem?_replicate, if_pos (by omega)]
theorem infoPt : (Try.prog.info? 23).map (fun i => (i.zero, i.size, i.bytes)) = some (some (.agg #[.int .i64 0, .int .i64 0, .int .i64 0]), 3, 24) := by kernel_rfl
theorem make_pts (n : Nat) (hn : n ≤ 1000) (w : World) : (Instr.makeSlice 36 (.int .i64 (n : Int)) (.int .i64 (n : Int))).run Try.prog w = .ok (.slice (some ⟨w.heap.size, 0, none⟩) n n) (w.alloc (.cells (ptsA (List.replicate n ⟨0, 0, 0⟩)) 23)) := by
  obtain ⟨i0, hi, hz0, hz1, hz2⟩ := info_parts infoPt
  have h := run_make (P := Try.prog) w 36 23 i0 (.agg #[.int .i64 0, .int .i64 0, .int .i64 0]) Try.underlying36 hi hz0 .i64 .i64 (n : Int) (n : Int) (by omega) (Int.le_refl _) (by rw [hz2]; omega) (by omega)
  rw [h]
  have e : madeCells (Value.cells (.agg #[.int .i64 0, .int .i64 0, .int .i64 0])) ((n : Int).toNat * i0.size) = ptsA (List.replicate n ⟨0, 0, 0⟩) := by
    rw [hz1, Int.toNat_natCast, rowsA_made (sz := 3) rfl (by omega)]
    unfold ptsA
    rw [List.map_replicate]
    rfl
  rw [e]
  simp
/-- New cells: a block that was not there. -/
def CellsPost (l : List Pt) (n : Nat) (w : World) (e : Ending) (w' : World) : Prop := ∃ g, w.heap.size ≤ g ∧ e = .returned (.slice (some ⟨g, 0, none⟩) n n) ∧ Blk w' g 23 (ptsA l) ∧ Ext w w'
set_option maxRecDepth 100000 in
set_option maxHeartbeats 8000000 in
theorem cells_c (cells : List Pt) (m cb : Nat) (wt : Int) (A : Option Addr) (ca : Nat) (B : Option Addr) (n : Nat) (x y z : Int) (w : World) (hc : Cells w A ca cells) (hl : cells.length ≤ 1000) (hok : ∀ p ∈ cells, p.ok) (hn : n < 24) (hp : Pt.ok ⟨x, y, z⟩) :
    Calls Try.prog 64 #[.agg #[.slice A cells.length ca, .slice B m cb, .int .i64 wt], .int .i64 n, .agg #[.int .i64 x, .int .i64 y, .int .i64 z]] w (CellsPost (sortP (placeP cells n ⟨x, y, z⟩)) cells.length w) := by
  have hmk := make_pts cells.length (by omega)
  obtain ⟨W1, hW1, E1, B1, hz1⟩ := mk_ w #[.slice A cells.length ca, .slice B m cb, .int .i64 wt] 39
  obtain ⟨W2, hW2, E2, B2, hz2⟩ := mk_ W1 #[.int .i64 x, .int .i64 y, .int .i64 z] 23
  obtain ⟨W3, hW3, E3, B3, hz3⟩ := mk_ W2 (ptsA (List.replicate cells.length ⟨0, 0, 0⟩)) 23
  rw [hz1] at B2
  rw [hz2, hz1] at B3
  have B1' := B1.ext E2
  have b1 := B1'.cell
  have b3 := (B1'.ext E3).cell
  have E13 := (E1.trans E2).trans E3
  go_enter Try.func64, Try.ntmps64
  go_wp2_with fail
  have BK := B1'.ext E3
  have BP := B2.ext E3
  rw [← placeP_len cells n ⟨x, y, z⟩, ← partL_zero] at B3
  clear hW1 hW2 hW3 hz1 hz2 hz3 b1 b3 B1 B1' B2 hmk E1 E2 E3
  have Hpl := Lib.hid (placeP_len cells n ⟨x, y, z⟩)
  obtain ⟨S, hS⟩ : ∃ S, w.heap.size = S := ⟨_, rfl⟩
  rw [hS] at B3 BK BP ⊢
  have HS := Lib.hid hS
  clear hS
  go_loopw [17] (fun i wr => ∃ j : Nat, j ≤ cells.length ∧ i = .int .i64 j ∧ Ext w wr ∧ Blk wr S 39 #[.slice A cells.length ca, .slice B m cb, .int .i64 wt] ∧ Blk wr (S + 1) 23 #[.int .i64 x, .int .i64 y, .int .i64 z] ∧ Blk wr (S + 1 + 1) 23 (ptsA (partL ⟨0, 0, 0⟩ (placeP cells n ⟨x, y, z⟩) j))) (fun i _ => cells.length - (intOf i).toNat)
  case atStart => exact ⟨0, by omega, rfl, E13, BK, BP, B3⟩
  case round =>
    clear B3 BK BP E13
    obtain ⟨j, hj, rfl, E, BK, BP, BO⟩ := hrel
    by_cases hlt : j < cells.length
    · obtain ⟨g, off, ⟨qx, qy, qz⟩, rfl, hq, hg, c0, c1, c2⟩ := hc.at_ hlt
      simp only at c0 c1 c2
      have d0 := E.cell c0
      have d1 := E.cell c1
      have d2 := E.cell c2
      clear c0 c1 c2
      have hqo := hok _ (List.mem_of_getElem? hq)
      have hset : (placeP cells n ⟨x, y, z⟩)[j]? = some (addP (turnS ⟨qx, qy, qz⟩ n) ⟨x, y, z⟩) := by
        unfold placeP
        rw [List.getElem?_map, hq]
        rfl
      have Hset := Lib.hid hset
      clear hq hset
      have i1 : (0 : Int) ≤ j := by omega
      have i2 : (j : Int) < cells.length := by omega
      obtain ⟨W4, hW4, E4, B4, hz4⟩ := mk_ wr #[.int .i64 qx, .int .i64 qy, .int .i64 qz] 23
      have b4 := B4.cell
      have b2 := (BP.ext E4).cell
      go_upto_region 5 with (fail)
      refine wp_region_tail 8 (by kernel_rfl) (by kernel_rfl) ?_
      simp only [List.take_succ_cons, List.take_zero, List.drop_succ_cons, List.drop_zero]
      repeat (go_big_quiet_step ((first | (go_at_call 43; exact quiet_ext (turn_c qx qy qz n _ hn hqo)) | (go_at_call 57; exact quiet_ext (plus_c _ _ _ _ _ _ _ (turnS_ok hqo n) hp)))))
      refine wpQuiet_nil ?_
      intro W5 hW5
      have E5 : Ext W4 W5 := by
        obtain ⟨x, rfl⟩ := hW5
        exact (Ext.refl _).grow x
      clear hW5
      obtain ⟨hcW5, hfW5, hzW5⟩ := ext_facts E5
      have BO' := (BO.ext E4).ext E5
      unfold ptsA at BO'
      obtain ⟨W6, hW6, B6, far6, ext6, hz6⟩ := BO'.row3 (pts_wide _) (k := j) (by rw [List.length_map, partL_len _ _ (by rw [Hpl.out]; omega), Hpl.out]; omega) (.int .i64 ((turnS ⟨qx, qy, qz⟩ n).x + x)) (.int .i64 ((turnS ⟨qx, qy, qz⟩ n).y + y)) (.int .i64 ((turnS ⟨qx, qy, qz⟩ n).z + z))
      have f6 := BO'.frozen
      have hz0 : ((partL (⟨0, 0, 0⟩ : Pt) (placeP cells n ⟨x, y, z⟩) j).map Pt.cs)[j]? = some (Pt.cs ⟨0, 0, 0⟩) := by rw [List.getElem?_map, partL_at _ _ (by rw [Hpl.out]; exact hlt)]; rfl
      have y0 := (BO'.cell (j * 3 + 0)).trans (rowsA_get (pts_wide _) hz0 (j := 0) rfl)
      have y1 := (BO'.cell (j * 3 + 1)).trans (rowsA_get (pts_wide _) hz0 (j := 1) rfl)
      have y2 := (BO'.cell (j * 3 + 2)).trans (rowsA_get (pts_wide _) hz0 (j := 2) rfl)
      simp only [Nat.add_zero] at y0
      clear hz0
      go_wp2_with fail
      go_roundw
      case rel => exact ⟨j + 1, by omega, by go_num, ext6 _ ((E.trans E4).trans E5) (by have := HS.out; omega), far6 _ _ _ (by omega) ((BK.ext E4).ext E5), far6 _ _ _ (by omega) ((BP.ext E4).ext E5), by
        rw [← partL_set _ _ Hset.out]
        unfold ptsA
        rw [List.map_set]
        exact B6⟩
      case measure => simp only [intOf]; omega
    · obtain rfl : cells.length = j := by omega
      have hpa : partL ⟨0, 0, 0⟩ (placeP cells n ⟨x, y, z⟩) cells.length = placeP cells n ⟨x, y, z⟩ := by
        have := partL_all ⟨0, 0, 0⟩ (placeP cells n ⟨x, y, z⟩)
        rwa [Hpl.out] at this
      rw [hpa] at BO
      have SF := sortFunc_c (placeP cells n ⟨x, y, z⟩) (S + 1 + 1) wr BO (by rw [Hpl.out]; omega)
      rw [Hpl.out] at SF
      clear hpa
      go_wp2_with fail
      refine SF.mono ?_
      rintro v w2 ⟨rfl, B2, G2⟩
      go_wp2_with fail
      go_ret
      exact ⟨S + 1 + 1, by have := HS.out; omega, rfl, B2, E.grown G2 (fun k hk => by cases hk; have := HS.out; omega)⟩
end Go.Proofs.Ytenigkngmdofiaa

namespace Go.Proofs.Ytenigkngmdofiaa
open Go.RowKit

def knobT (n : Nat) (p : Pt) (x : Knb) : Knb := ⟨addP (turnS x.at_ n) p, dirT x.dir.toNat n, x.sort⟩
def placeK (knobs : List Knb) (n : Nat) (p : Pt) : List Knb := knobs.map (knobT n p)
theorem placeK_len (knobs : List Knb) (n : Nat) (p : Pt) : (placeK knobs n p).length = knobs.length := List.length_map _
def knbsA (l : List Knb) : Array Value := rowsA (l.map Knb.cs)
theorem knbs_wide (l : List Knb) : ∀ r ∈ l.map Knb.cs, r.length = 5 := fun r h => by
  obtain ⟨p, _, rfl⟩ := List.mem_map.1 h
  rfl
theorem infoKnb : (Try.prog.info? 68).map (fun i => (i.zero, i.size, i.bytes)) = some (some (.agg #[.int .i64 0, .int .i64 0, .int .i64 0, .int .u8 0, .int .u8 0]), 5, 32) := by kernel_rfl
def zK : Knb := ⟨⟨0, 0, 0⟩, 0, 0⟩
theorem make_knbs (n : Nat) (hn : n ≤ 1000) (w : World) : (Instr.makeSlice 37 (.int .i64 (n : Int)) (.int .i64 (n : Int))).run Try.prog w = .ok (.slice (some ⟨w.heap.size, 0, none⟩) n n) (w.alloc (.cells (knbsA (List.replicate n zK)) 68)) := by
  obtain ⟨i0, hi, hz0, hz1, hz2⟩ := info_parts infoKnb
  have h := run_make (P := Try.prog) w 37 68 i0 _ Try.underlying37 hi hz0 .i64 .i64 (n : Int) (n : Int) (by omega) (Int.le_refl _) (by rw [hz2]; omega) (by omega)
  rw [h]
  have e : madeCells (Value.cells (.agg #[.int .i64 0, .int .i64 0, .int .i64 0, .int .u8 0, .int .u8 0])) ((n : Int).toNat * i0.size) = knbsA (List.replicate n zK) := by
    rw [hz1, Int.toNat_natCast, rowsA_made (sz := 5) rfl (by omega)]
    unfold knbsA
    rw [List.map_replicate]
    rfl
  rw [e]
  simp
def KnobsPost (l : List Knb) (n : Nat) (w : World) (e : Ending) (w' : World) : Prop := ∃ g, w.heap.size ≤ g ∧ e = .returned (.slice (some ⟨g, 0, none⟩) n n) ∧ Blk w' g 68 (knbsA l) ∧ Ext w w'
theorem direction_t (d n : Nat) (hd : d < 6) (hn : n < 24) (w : World) :
    Calls Try.prog 47 #[.agg #[.int .i64 (turnS ⟨(stepS d).x, (stepS d).y, (stepS d).z⟩ n).x, .int .i64 (turnS ⟨(stepS d).x, (stepS d).y, (stepS d).z⟩ n).y, .int .i64 (turnS ⟨(stepS d).x, (stepS d).y, (stepS d).z⟩ n).z]] w fun e w' => e = .returned (.int .i64 (dirT d n)) ∧ Ext w w' := by
  have := direction_c (dirT d n) (dirT_lt hd hn) w
  rw [← dirT_eq hd hn] at this
  exact this
/-- A knob that can be placed. -/
def Knb.fine (x : Knb) : Prop := x.at_.ok ∧ 0 ≤ x.dir ∧ x.dir ≤ 5
set_option maxRecDepth 100000 in
set_option maxHeartbeats 8000000 in
theorem knobs_c (m ca : Nat) (knobs : List Knb) (wt : Int) (A : Option Addr) (B : Option Addr) (cb : Nat) (n : Nat) (x y z : Int) (w : World) (hk : Knobs w B cb knobs) (hl : knobs.length ≤ 1000) (hok : ∀ p ∈ knobs, p.fine) (hn : n < 24) (hp : Pt.ok ⟨x, y, z⟩) :
    Calls Try.prog 67 #[.agg #[.slice A m ca, .slice B knobs.length cb, .int .i64 wt], .int .i64 n, .agg #[.int .i64 x, .int .i64 y, .int .i64 z]] w (KnobsPost (placeK knobs n ⟨x, y, z⟩) knobs.length w) := by
  have hmk := make_knbs knobs.length (by omega)
  obtain ⟨W1, hW1, E1, B1, hz1⟩ := mk_ w #[.slice A m ca, .slice B knobs.length cb, .int .i64 wt] 39
  obtain ⟨W2, hW2, E2, B2, hz2⟩ := mk_ W1 #[.int .i64 x, .int .i64 y, .int .i64 z] 23
  obtain ⟨W3, hW3, E3, B3, hz3⟩ := mk_ W2 (knbsA (List.replicate knobs.length zK)) 68
  rw [hz1] at B2
  rw [hz2, hz1] at B3
  have B1' := B1.ext E2
  have b1 := B1'.cell
  have b3 := (B1'.ext E3).cell
  have E13 := (E1.trans E2).trans E3
  go_enter Try.func67, Try.ntmps67
  go_wp2_with fail
  have BK := B1'.ext E3
  have BP := B2.ext E3
  rw [← placeK_len knobs n ⟨x, y, z⟩, ← partL_zero] at B3
  clear hW1 hW2 hW3 hz1 hz2 hz3 b1 b3 B1 B1' B2 hmk E1 E2 E3
  have Hpl := Lib.hid (placeK_len knobs n ⟨x, y, z⟩)
  obtain ⟨S, hS⟩ : ∃ S, w.heap.size = S := ⟨_, rfl⟩
  rw [hS] at B3 BK BP ⊢
  have HS := Lib.hid hS
  clear hS
  go_loopw [17] (fun i wr => ∃ j : Nat, j ≤ knobs.length ∧ i = .int .i64 j ∧ Ext w wr ∧ Blk wr S 39 #[.slice A m ca, .slice B knobs.length cb, .int .i64 wt] ∧ Blk wr (S + 1) 23 #[.int .i64 x, .int .i64 y, .int .i64 z] ∧ Blk wr (S + 1 + 1) 68 (knbsA (partL zK (placeK knobs n ⟨x, y, z⟩) j))) (fun i _ => knobs.length - (intOf i).toNat)
  case atStart => exact ⟨0, by omega, rfl, E13, BK, BP, B3⟩
  case round =>
    clear B3 BK BP E13
    obtain ⟨j, hj, rfl, E, BK, BP, BO⟩ := hrel
    by_cases hlt : j < knobs.length
    · obtain ⟨g, off, ⟨⟨qx, qy, qz⟩, dir, sort⟩, rfl, hq, -, hg, c0, c1, c2, c3, c4⟩ := hk.at_ hlt
      simp only at c0 c1 c2 c3 c4
      obtain ⟨hqo, hd0, hd5⟩ := hok _ (List.mem_of_getElem? hq)
      simp only at hqo hd0 hd5
      obtain ⟨d, rfl⟩ : ∃ d : Nat, dir = d := ⟨dir.toNat, by omega⟩
      have d0 := E.cell c0
      have d1 := E.cell c1
      have d2 := E.cell c2
      have d3 := E.cell c3
      have d4 := E.cell c4
      clear c0 c1 c2 c3 c4
      have hd6 : d < 6 := by omega
      have hset : (placeK knobs n ⟨x, y, z⟩)[j]? = some ⟨addP (turnS ⟨qx, qy, qz⟩ n) ⟨x, y, z⟩, dirT d n, sort⟩ := by
        unfold placeK
        rw [List.getElem?_map, hq]
        rfl
      have Hset := Lib.hid hset
      clear hq hset
      have i1 : (0 : Int) ≤ j := by omega
      have i2 : (j : Int) < knobs.length := by omega
      have hdl := dirT_lt hd6 hn
      have f1 : IntKind.i64.wrap (d : Int) = d := IntWalk.i64_in _ (by omega)
      have f2 : IntKind.u8.wrap (dirT d n : Int) = dirT d n := IntWalk.u8_in _ (by omega)
      obtain ⟨W4, hW4, E4, B4, hz4⟩ := mk_ wr #[.int .i64 qx, .int .i64 qy, .int .i64 qz, .int .u8 d, .int .u8 sort] 68
      have b4 := B4.cell
      have b2 := (BP.ext E4).cell
      go_upto_region 5 with (fail)
      refine wp_region_tail 20 (by kernel_rfl) (by kernel_rfl) ?_
      simp only [List.take_succ_cons, List.take_zero, List.drop_succ_cons, List.drop_zero]
      repeat (go_big_quiet_step ((first | (go_at_call 43; exact quiet_ext (turn_c _ _ _ n _ hn (by first | exact hqo | exact stepS_ok d))) | (go_at_call 57; exact quiet_ext (plus_c _ _ _ _ _ _ _ (turnS_ok hqo n) hp)) | (go_at_call 48; exact quiet_ext (step_c d hd6 _)) | (go_at_call 47; exact quiet_ext (direction_t d n hd6 hn _)))))
      refine wpQuiet_nil ?_
      intro W5 hW5
      have E5 : Ext W4 W5 := by
        obtain ⟨x, rfl⟩ := hW5
        exact (Ext.refl _).grow x
      clear hW5
      obtain ⟨hcW5, hfW5, hzW5⟩ := ext_facts E5
      have BO' := (BO.ext E4).ext E5
      unfold knbsA at BO'
      obtain ⟨W6, hW6, B6, far6, ext6⟩ := BO'.row5 (knbs_wide _) (k := j) (by rw [List.length_map, partL_len _ _ (by rw [Hpl.out]; omega), Hpl.out]; omega) (.int .i64 ((turnS ⟨qx, qy, qz⟩ n).x + x)) (.int .i64 ((turnS ⟨qx, qy, qz⟩ n).y + y)) (.int .i64 ((turnS ⟨qx, qy, qz⟩ n).z + z)) (.int .u8 (dirT d n)) (.int .u8 sort)
      have f6 := BO'.frozen
      have hz0 : ((partL zK (placeK knobs n ⟨x, y, z⟩) j).map Knb.cs)[j]? = some (Knb.cs zK) := by rw [List.getElem?_map, partL_at _ _ (by rw [Hpl.out]; exact hlt)]; rfl
      have y0 := (BO'.cell (j * 5 + 0)).trans (rowsA_get (knbs_wide _) hz0 (j := 0) rfl)
      have y1 := (BO'.cell (j * 5 + 1)).trans (rowsA_get (knbs_wide _) hz0 (j := 1) rfl)
      have y2 := (BO'.cell (j * 5 + 2)).trans (rowsA_get (knbs_wide _) hz0 (j := 2) rfl)
      have y3 := (BO'.cell (j * 5 + 3)).trans (rowsA_get (knbs_wide _) hz0 (j := 3) rfl)
      have y4 := (BO'.cell (j * 5 + 4)).trans (rowsA_get (knbs_wide _) hz0 (j := 4) rfl)
      simp only [Nat.add_zero] at y0
      clear hz0
      go_wp2_with fail
      go_roundw
      case rel => exact ⟨j + 1, by omega, by go_num, ext6 _ ((E.trans E4).trans E5) (by have := HS.out; omega), far6 _ _ _ (by omega) ((BK.ext E4).ext E5), far6 _ _ _ (by omega) ((BP.ext E4).ext E5), by
        rw [← partL_set _ _ Hset.out]
        unfold knbsA
        rw [List.map_set]
        exact B6⟩
      case measure => simp only [intOf]; omega
    · obtain rfl : knobs.length = j := by omega
      have hpa : partL zK (placeK knobs n ⟨x, y, z⟩) knobs.length = placeK knobs n ⟨x, y, z⟩ := by
        have := partL_all zK (placeK knobs n ⟨x, y, z⟩)
        rwa [Hpl.out] at this
      rw [hpa] at BO
      clear hpa
      go_wp2_with fail
      go_ret
      exact ⟨S + 1 + 1, by have := HS.out; omega, rfl, BO, E⟩
end Go.Proofs.Ytenigkngmdofiaa

namespace Go.Proofs.Ytenigkngmdofiaa
open Go.RowKit

theorem flat_snoc (rows : List (List Value)) (r : List Value) : (rows ++ [r]).flatten = rows.flatten ++ r := by simp
theorem take_map_snoc {α : Type} {f : α → List Value} {l : List α} {j : Nat} {x : α} (h : l[j]? = some x) : ((l.take (j + 1)).map f).flatten = ((l.take j).map f).flatten ++ f x := by
  rw [List.take_add_one, h, Option.toList_some, List.map_append, List.map_cons, List.map_nil, flat_snoc]
set_option maxRecDepth 100000 in
set_option maxHeartbeats 8000000 in
theorem rPlaced_c (qs : List (Knd × KAt)) (QA : Option Addr) (qc : Nat) (i : Nat) (cells : List Pt) (knobs : List Knb) (wt : Int) (A : Option Addr) (ca : Nat) (B : Option Addr) (cb : Nat) (hi : qs[i]? = some (⟨cells, knobs, wt⟩, ⟨A, ca, B, cb⟩)) (n : Nat) (x y z c : Int) (w : World) (hk : Kinds w QA qc qs)
    (hpos : 0 < cells.length) (hl : cells.length ≤ 1000) (hok : ∀ p ∈ cells, p.ok) (hn : n < 24) (hp : Pt.ok ⟨x, y, z⟩) :
    Calls Try.prog 66 #[.slice QA qs.length qc, .agg #[.int .i64 i, .int .i64 x, .int .i64 y, .int .i64 z, .int .u8 n, .int .u8 c]] w (RCellsPost (sortP (placeP cells n ⟨x, y, z⟩)) cells.length w) := by
  have hil : i < qs.length := (List.getElem?_eq_some_iff.1 hi).1
  have hql : qs.length ≤ 9223372036854775807 := by have := hk.len; unfold maxLen at this; omega
  obtain ⟨W1, hW1, E1, B1, hz1⟩ := mk_ w #[.int .i64 i, .int .i64 x, .int .i64 y, .int .i64 z, .int .u8 n, .int .u8 c] 42
  obtain ⟨W2, hW2, E2, B2, hz2⟩ := mk_ W1 #[.slice A cells.length ca, .slice B knobs.length cb, .int .i64 wt] 39
  obtain ⟨kg, koff, k', p', rfl, hq, hka, hkg, c0, c1, c2⟩ := (hk.ext E1).at_ hil
  rw [hi] at hq
  cases hq
  simp only at c0 c1 c2
  have hc : Cells w A ca cells := (hk.k _ (List.mem_of_getElem? hi)).c
  rw [hz1] at B2
  have b1 := B1.cell
  have B1' := B1.ext E2
  have b2' := B1'.cell
  have b2 := B2.cell
  have i1 : (0 : Int) ≤ i := by omega
  have i2 : (i : Int) < qs.length := by omega
  go_enter Try.func66, Try.ntmps66
  go_wp2_with fail
  have E12 := E1.trans E2
  clear hW1 hW2 hz1 hz2 b1 b2 b2' B1 c0 c1 c2 hka hkg E1 E2
  have Hpl := Lib.hid (placeP_len cells n ⟨x, y, z⟩)
  obtain ⟨S, hS⟩ : ∃ S, w.heap.size = S := ⟨_, rfl⟩
  rw [hS] at B1' B2 ⊢
  have HS := Lib.hid hS
  clear hS
  obtain ⟨i0, hi0, hz0, hz1, hz2⟩ := info_parts infoPt3
  go_loopw [6, 7] (fun v ii wr => ∃ (j : Nat) (u : Value), j ≤ cells.length ∧ ii = .int .i64 j ∧ u = v ∧ Ext w wr ∧ Blk wr S 42 #[.int .i64 i, .int .i64 x, .int .i64 y, .int .i64 z, .int .u8 n, .int .u8 c] ∧ Blk wr (S + 1) 39 #[.slice A cells.length ca, .slice B knobs.length cb, .int .i64 wt] ∧ wr.ownsRow (S + 1 + 1) 23 3 u j (((placeP cells n ⟨x, y, z⟩).take j).map Pt.cs).flatten) (fun _ ii _ => cells.length - (intOf ii).toNat)
  case atStart => exact ⟨0, _, by omega, rfl, rfl, E12, B1', B2, World.ownsRow_nil _ _ _ _⟩
  case round =>
    clear E12 B1' B2
    obtain ⟨j, v, hj, rfl, rfl, E, BB, BK, own⟩ := hrel
    have hSr := BK.lt
    by_cases hlt : j < cells.length
    · obtain ⟨g, off, ⟨qx, qy, qz⟩, rfl, hq, hg, c0, c1, c2⟩ := hc.at_ hlt
      simp only at c0 c1 c2
      have hqo := hok _ (List.mem_of_getElem? hq)
      have hset : (placeP cells n ⟨x, y, z⟩)[j]? = some (addP (turnS ⟨qx, qy, qz⟩ n) ⟨x, y, z⟩) := by
        unfold placeP
        rw [List.getElem?_map, hq]
        rfl
      have Hset := Lib.hid hset
      clear hq hset
      have j1 : (0 : Int) ≤ j := by omega
      have j2 : (j : Int) < cells.length := by omega
      have f1 : IntKind.i64.wrap (n : Int) = n := IntWalk.i64_in _ (by omega)
      have d0 := E.cell c0
      have d1 := E.cell c1
      have d2 := E.cell c2
      have C0 := Lib.hid c0
      have C1 := Lib.hid c1
      have C2 := Lib.hid c2
      clear c0 c1 c2
      have k0 := BK.cell 0
      have k1 := BB.cell 1
      have k2 := BB.cell 2
      have k3 := BB.cell 3
      have k4 := BB.cell 4
      have hml : j + 1 ≤ maxLen := by unfold maxLen; omega
      have bk := BK.cell
      go_upto_region 6 with (fail)
      clear bk
      have own' : wr.drew.ownsRow _ _ _ _ _ _ := own.drew
      go_region_held3 (fun w' => w'.cell? ⟨S + 1, 0, none⟩ = some (.slice (some ⟨g, off, none⟩) cells.length ca) ∧ w'.cell? ⟨g, off + j * 3, none⟩ = some (.int .i64 qx) ∧ w'.cell? ⟨g, off + j * 3 + 1, none⟩ = some (.int .i64 qy) ∧ w'.cell? ⟨g, off + j * 3 + 2, none⟩ = some (.int .i64 qz) ∧
          w'.cell? ⟨S, 1, none⟩ = some (.int .i64 x) ∧ w'.cell? ⟨S, 2, none⟩ = some (.int .i64 y) ∧ w'.cell? ⟨S, 3, none⟩ = some (.int .i64 z) ∧ w'.cell? ⟨S, 4, none⟩ = some (.int .u8 n))
        (first
          | exact ⟨BK4.cell 0, EE4.cell C0.out, EE4.cell C1.out, EE4.cell C2.out, BB4.cell 1, BB4.cell 2, BB4.cell 3, BB4.cell 4⟩
          | (go_split_ands; exact ⟨((Ext.refl _).alloc _).cell (by assumption), ((Ext.refl _).alloc _).cell (by assumption), ((Ext.refl _).alloc _).cell (by assumption), ((Ext.refl _).alloc _).cell (by assumption), ((Ext.refl _).alloc _).cell (by assumption), ((Ext.refl _).alloc _).cell (by assumption), ((Ext.refl _).alloc _).cell (by assumption), ((Ext.refl _).alloc _).cell (by assumption)⟩)
          | (go_split_ands; exact ⟨E6.cell (by assumption), E6.cell (by assumption), E6.cell (by assumption), E6.cell (by assumption), E6.cell (by assumption), E6.cell (by assumption), E6.cell (by assumption), E6.cell (by assumption)⟩)
          | (go_split_ands; exact ⟨E5.cell (by assumption), E5.cell (by assumption), E5.cell (by assumption), E5.cell (by assumption), E5.cell (by assumption), E5.cell (by assumption), E5.cell (by assumption), E5.cell (by assumption)⟩)
          | go_keep)
        (first
          | (go_at_call 46; refine (turned_c qx qy qz n _ hn hqo).mono ?_; rintro e w5 ⟨rfl, E5⟩)
          | (go_at_call 76; refine (rPlus_c (turnS ⟨qx, qy, qz⟩ n).x (turnS ⟨qx, qy, qz⟩ n).y (turnS ⟨qx, qy, qz⟩ n).z x y z _ (turnS_ok hqo n) hp).mono ?_; rintro e w6 ⟨rfl, E6⟩)
          | (refine step_append_one #[.int .i64 ((turnS ⟨qx, qy, qz⟩ n).x + x), .int .i64 ((turnS ⟨qx, qy, qz⟩ n).y + y), .int .i64 ((turnS ⟨qx, qy, qz⟩ n).z + z)] rfl (.tmp 20) (.tmp 33) 36 rfl (S + 1 + 1) 23 23 i0 _ 3 24 Try.underlying36 hi0 hz0 hz1 hz2 rfl (by decide) v j _ _ rfl (own_ext (own_ext own' E5) E6) rfl rfl (by simp [Value.oneCell']) hml (by omega) (Nat.le_trans hSr (Nat.le_trans E5.size E6.size)) ?_; intro g4 cap4 w4 own4 hg4; have BB4 := (((BB.drew.ext E5).ext E6).alloc (.cells #[.int .i64 ((turnS ⟨qx, qy, qz⟩ n).x + x), .int .i64 ((turnS ⟨qx, qy, qz⟩ n).y + y), .int .i64 ((turnS ⟨qx, qy, qz⟩ n).z + z)] 23)).grown hg4 (own_ne own (by omega)); have BK4 := (((BK.drew.ext E5).ext E6).alloc (.cells #[.int .i64 ((turnS ⟨qx, qy, qz⟩ n).x + x), .int .i64 ((turnS ⟨qx, qy, qz⟩ n).y + y), .int .i64 ((turnS ⟨qx, qy, qz⟩ n).z + z)] 23)).grown hg4 (own_ne own (by omega)); have EE4 := (((E.drew.trans E5).trans E6).alloc (.cells #[.int .i64 ((turnS ⟨qx, qy, qz⟩ n).x + x), .int .i64 ((turnS ⟨qx, qy, qz⟩ n).y + y), .int .i64 ((turnS ⟨qx, qy, qz⟩ n).z + z)] 23)).grown hg4 (fun q hq => by have := (own.lt q hq).1; have := HS.out; omega)))
      go_wp2_with fail
      go_roundw
      case rel => exact ⟨j + 1, _, by omega, by go_num, rfl, EE4, BB4, BK4, by
        rw [take_map_snoc Hset.out]
        exact own4⟩
      case measure => simp only [intOf]; omega
    · obtain rfl : cells.length = j := by omega
      obtain ⟨g, cap, rfl⟩ := own_form own hpos
      have hta : (placeP cells n ⟨x, y, z⟩).take cells.length = placeP cells n ⟨x, y, z⟩ := List.take_of_length_le (by rw [Hpl.out]; exact Nat.le_refl _)
      rw [hta] at own
      obtain ⟨X, hg, q1, q2⟩ := RowX.of_own own
      have hcs : Cells wr (some ⟨g, 0, none⟩) cap (placeP cells n ⟨x, y, z⟩) := X.slice (pts_wide _) (by rw [List.length_map]) (by rw [Hpl.out]; exact q1) q2
      have RS := rSorted_c (placeP cells n ⟨x, y, z⟩) (some ⟨g, 0, none⟩) cap wr hcs (by rw [Hpl.out]; exact hpos) (by rw [Hpl.out]; exact hl)
      rw [Hpl.out] at RS
      have bk := BK.cell
      clear hta
      go_wp2_with fail
      refine RS.mono ?_
      rintro v w2 ⟨g2, c2, hg2, rfl, r1, r2, X2, E2⟩
      go_wp2_with fail
      go_ret
      exact ⟨g2, c2, Nat.le_trans E.size hg2, rfl, r1, r2, X2, E.trans E2⟩
end Go.Proofs.Ytenigkngmdofiaa

namespace Go.Proofs.Ytenigkngmdofiaa
open Go.RowKit

theorem infoKnb5 : (Try.prog.info? 68).map (fun i => (i.zero, i.size, i.bytes)) = some (some (.agg #[.int .i64 0, .int .i64 0, .int .i64 0, .int .u8 0, .int .u8 0]), 5, 32) := by kernel_rfl
/-- New knobs: nil if there are none. -/
def RKnobsPost (l : List Knb) (n : Nat) (w : World) (e : Ending) (w' : World) : Prop := ∃ A cap, e = .returned (.slice A n cap) ∧ SliceIs w' A n cap 5 (l.map Knb.cs) ∧ (∀ q, A = some q → w.heap.size ≤ q.block) ∧ Ext w w'
theorem own_slice0 {w : World} {b : Nat} {e : TypeId} {sz : Nat} {v : Value} {n : Nat} {rows : List (List Value)} (hw : ∀ r ∈ rows, r.length = sz) (hn : rows.length = n) (h : w.ownsRow b e sz v n rows.flatten) : ∃ A cap, v = .slice A n cap ∧ SliceIs w A n cap sz rows ∧ (∀ q, A = some q → b ≤ q.block) := by
  rcases h.2 with ⟨hv, h0⟩ | ⟨g, cap, cur, hv, hg, hb, h1, h2, _, _⟩
  · subst h0
    exact ⟨none, 0, hv, ⟨hn, Nat.le_refl _, Nat.zero_le _, hw, fun h => by omega⟩, fun q hq => by cases hq⟩
  · subst hv
    obtain ⟨X, q0, q1, q2⟩ := RowX.of_own h
    exact ⟨_, _, rfl, X.slice hw hn q1 q2, fun q hq => by cases hq; exact q0⟩
set_option maxRecDepth 100000 in
set_option maxHeartbeats 8000000 in
theorem rKnobbed_c (qs : List (Knd × KAt)) (QA : Option Addr) (qc : Nat) (i : Nat) (cells : List Pt) (knobs : List Knb) (wt : Int) (A : Option Addr) (ca : Nat) (B : Option Addr) (cb : Nat) (hi : qs[i]? = some (⟨cells, knobs, wt⟩, ⟨A, ca, B, cb⟩)) (n : Nat) (x y z c : Int) (w : World) (hk : Kinds w QA qc qs)
    (hl : knobs.length ≤ 1000) (hok : ∀ p ∈ knobs, p.fine) (hn : n < 24) (hp : Pt.ok ⟨x, y, z⟩) :
    Calls Try.prog 68 #[.slice QA qs.length qc, .agg #[.int .i64 i, .int .i64 x, .int .i64 y, .int .i64 z, .int .u8 n, .int .u8 c]] w (RKnobsPost (placeK knobs n ⟨x, y, z⟩) knobs.length w) := by
  have hil : i < qs.length := (List.getElem?_eq_some_iff.1 hi).1
  have hql : qs.length ≤ 9223372036854775807 := by have := hk.len; unfold maxLen at this; omega
  obtain ⟨W1, hW1, E1, B1, hz1⟩ := mk_ w #[.int .i64 i, .int .i64 x, .int .i64 y, .int .i64 z, .int .u8 n, .int .u8 c] 42
  obtain ⟨W2, hW2, E2, B2, hz2⟩ := mk_ W1 #[.slice A cells.length ca, .slice B knobs.length cb, .int .i64 wt] 39
  obtain ⟨kg, koff, k', p', rfl, hq, hka, hkg, c0, c1, c2⟩ := (hk.ext E1).at_ hil
  rw [hi] at hq
  cases hq
  simp only at c0 c1 c2
  have hc : Knobs w B cb knobs := (hk.k _ (List.mem_of_getElem? hi)).n
  rw [hz1] at B2
  have b1 := B1.cell
  have B1' := B1.ext E2
  have b2' := B1'.cell
  have b2 := B2.cell
  have i1 : (0 : Int) ≤ i := by omega
  have i2 : (i : Int) < qs.length := by omega
  go_enter Try.func68, Try.ntmps68
  go_wp2_with fail
  have E12 := E1.trans E2
  clear hW1 hW2 hz1 hz2 b1 b2 b2' B1 c0 c1 c2 hka hkg E1 E2
  have Hpl := Lib.hid (placeK_len knobs n ⟨x, y, z⟩)
  obtain ⟨S, hS⟩ : ∃ S, w.heap.size = S := ⟨_, rfl⟩
  rw [hS] at B1' B2 ⊢
  have HS := Lib.hid hS
  clear hS
  obtain ⟨i0, hi0, hz0, hz1, hz2⟩ := info_parts infoKnb5
  go_loopw [6, 7] (fun v ii wr => ∃ (j : Nat) (u : Value), j ≤ knobs.length ∧ ii = .int .i64 j ∧ u = v ∧ Ext w wr ∧ Blk wr S 42 #[.int .i64 i, .int .i64 x, .int .i64 y, .int .i64 z, .int .u8 n, .int .u8 c] ∧ Blk wr (S + 1) 39 #[.slice A cells.length ca, .slice B knobs.length cb, .int .i64 wt] ∧ wr.ownsRow (S + 1 + 1) 68 5 u j (((placeK knobs n ⟨x, y, z⟩).take j).map Knb.cs).flatten) (fun _ ii _ => knobs.length - (intOf ii).toNat)
  case atStart => exact ⟨0, _, by omega, rfl, rfl, E12, B1', B2, World.ownsRow_nil _ _ _ _⟩
  case round =>
    clear E12 B1' B2
    obtain ⟨j, v, hj, rfl, rfl, E, BB, BK, own⟩ := hrel
    have hSr := BK.lt
    by_cases hlt : j < knobs.length
    · obtain ⟨g, off, ⟨⟨qx, qy, qz⟩, dir, sort⟩, rfl, hq, -, hg, c0, c1, c2, c3, c4⟩ := hc.at_ hlt
      simp only at c0 c1 c2 c3 c4
      obtain ⟨hqo, hd0, hd5⟩ := hok _ (List.mem_of_getElem? hq)
      simp only at hqo hd0 hd5
      obtain ⟨d, rfl⟩ : ∃ d : Nat, dir = d := ⟨dir.toNat, by omega⟩
      have hd6 : d < 6 := by omega
      have hset : (placeK knobs n ⟨x, y, z⟩)[j]? = some ⟨addP (turnS ⟨qx, qy, qz⟩ n) ⟨x, y, z⟩, dirT d n, sort⟩ := by
        unfold placeK
        rw [List.getElem?_map, hq]
        rfl
      have Hset := Lib.hid hset
      clear hq hset
      have j1 : (0 : Int) ≤ j := by omega
      have j2 : (j : Int) < knobs.length := by omega
      have hdl := dirT_lt hd6 hn
      have f1 : IntKind.i64.wrap (n : Int) = n := IntWalk.i64_in _ (by omega)
      have f2 : IntKind.i64.wrap (d : Int) = d := IntWalk.i64_in _ (by omega)
      have f3 : IntKind.u8.wrap (dirT d n : Int) = dirT d n := IntWalk.u8_in _ (by omega)
      have d0 := E.cell c0
      have d1 := E.cell c1
      have d2 := E.cell c2
      have d3 := E.cell c3
      have d4 := E.cell c4
      clear c0 c1 c2 c3 c4
      have bk := BK.cell
      obtain ⟨W4, hW4, E4, B4, hz4⟩ := mk_ wr #[.int .i64 qx, .int .i64 qy, .int .i64 qz, .int .u8 d, .int .u8 sort] 68
      obtain ⟨KB, hKB⟩ : ∃ KB, wr.heap.size = KB := ⟨_, rfl⟩
      rw [hKB] at B4
      have k0 := B4.cell 0
      have k1 := B4.cell 1
      have k2 := B4.cell 2
      have k3 := B4.cell 3
      have k4 := B4.cell 4
      have l1 := (BB.ext E4).cell 1
      have l2 := (BB.ext E4).cell 2
      have l3 := (BB.ext E4).cell 3
      have l4 := (BB.ext E4).cell 4
      have hml : j + 1 ≤ maxLen := by unfold maxLen; omega
      go_upto_region 7 with (fail)
      have HKB := Lib.hid hKB
      clear bk d0 d1 d2 d3 d4 hW4 hz4 hKB
      have own' : W4.drew.ownsRow _ _ _ _ _ _ := (own_ext own E4).drew
      have EX : Ext W4 W4.drew := (Ext.refl _).drew
      have BBx := BB.ext E4
      have BKx := BK.ext E4
      have EEx := E.trans E4
      clear BB BK E
      go_region_held3 (fun w' => w'.cell? ⟨KB, 0, none⟩ = some (.int .i64 qx) ∧ w'.cell? ⟨KB, 1, none⟩ = some (.int .i64 qy) ∧ w'.cell? ⟨KB, 2, none⟩ = some (.int .i64 qz) ∧ w'.cell? ⟨KB, 3, none⟩ = some (.int .u8 d) ∧ w'.cell? ⟨KB, 4, none⟩ = some (.int .u8 sort) ∧
          w'.cell? ⟨S, 1, none⟩ = some (.int .i64 x) ∧ w'.cell? ⟨S, 2, none⟩ = some (.int .i64 y) ∧ w'.cell? ⟨S, 3, none⟩ = some (.int .i64 z) ∧ w'.cell? ⟨S, 4, none⟩ = some (.int .u8 n))
        (first
          | exact ⟨KB4.cell 0, KB4.cell 1, KB4.cell 2, KB4.cell 3, KB4.cell 4, BB4.cell 1, BB4.cell 2, BB4.cell 3, BB4.cell 4⟩
          | exact ⟨EX.cell k0, EX.cell k1, EX.cell k2, EX.cell k3, EX.cell k4, EX.cell l1, EX.cell l2, EX.cell l3, EX.cell l4⟩
          | exact ⟨(EX.alloc _).cell k0, (EX.alloc _).cell k1, (EX.alloc _).cell k2, (EX.alloc _).cell k3, (EX.alloc _).cell k4, (EX.alloc _).cell l1, (EX.alloc _).cell l2, (EX.alloc _).cell l3, (EX.alloc _).cell l4⟩
          | go_keep)
        (first
          | (go_at_call 46; refine (turned_c qx qy qz n _ hn hqo).mono ?_; rintro e wn ⟨rfl, En⟩; replace EX := EX.trans En; clear En)
          | (go_at_call 50; refine (pointed_c d n hd6 hn _).mono ?_; rintro e wn ⟨rfl, En⟩; replace EX := EX.trans En; clear En)
          | (go_at_call 76; refine (rPlus_c (turnS ⟨qx, qy, qz⟩ n).x (turnS ⟨qx, qy, qz⟩ n).y (turnS ⟨qx, qy, qz⟩ n).z x y z _ (turnS_ok hqo n) hp).mono ?_; rintro e wn ⟨rfl, En⟩; replace EX := EX.trans En; clear En)
          | (refine step_append_one #[.int .i64 ((turnS ⟨qx, qy, qz⟩ n).x + x), .int .i64 ((turnS ⟨qx, qy, qz⟩ n).y + y), .int .i64 ((turnS ⟨qx, qy, qz⟩ n).z + z), .int .u8 (dirT d n), .int .u8 sort] rfl (.tmp 26) (.tmp 47) 37 rfl (S + 1 + 1) 68 68 i0 _ 5 32 Try.underlying37 hi0 hz0 hz1 hz2 rfl (by decide) v j _ _ rfl (own_ext (own_ext own E4) EX) rfl rfl (by simp [Value.oneCell']) hml (by omega) (Nat.le_trans hSr (Nat.le_trans E4.size EX.size)) ?_; intro g4 cap4 w4 own4 hg4; have BB4 := ((BBx.ext EX).alloc (.cells #[.int .i64 ((turnS ⟨qx, qy, qz⟩ n).x + x), .int .i64 ((turnS ⟨qx, qy, qz⟩ n).y + y), .int .i64 ((turnS ⟨qx, qy, qz⟩ n).z + z), .int .u8 (dirT d n), .int .u8 sort] 68)).grown hg4 (own_ne own (by omega)); have BK4 := ((BKx.ext EX).alloc (.cells #[.int .i64 ((turnS ⟨qx, qy, qz⟩ n).x + x), .int .i64 ((turnS ⟨qx, qy, qz⟩ n).y + y), .int .i64 ((turnS ⟨qx, qy, qz⟩ n).z + z), .int .u8 (dirT d n), .int .u8 sort] 68)).grown hg4 (own_ne own (by omega)); have KB4 := ((B4.ext EX).alloc (.cells #[.int .i64 ((turnS ⟨qx, qy, qz⟩ n).x + x), .int .i64 ((turnS ⟨qx, qy, qz⟩ n).y + y), .int .i64 ((turnS ⟨qx, qy, qz⟩ n).z + z), .int .u8 (dirT d n), .int .u8 sort] 68)).grown hg4 (fun h => by have := (own.lt KB h.symm).2; have := HKB.out; omega); have EE4 := ((EEx.trans EX).alloc (.cells #[.int .i64 ((turnS ⟨qx, qy, qz⟩ n).x + x), .int .i64 ((turnS ⟨qx, qy, qz⟩ n).y + y), .int .i64 ((turnS ⟨qx, qy, qz⟩ n).z + z), .int .u8 (dirT d n), .int .u8 sort] 68)).grown hg4 (fun q hq => by have := (own.lt q hq).1; have := HS.out; omega)))
      all_goals
        go_wp2_with fail
        go_roundw
        case rel => exact ⟨j + 1, _, by omega, by go_num, rfl, EE4, BB4, BK4, by
          rw [take_map_snoc Hset.out]
          exact own4⟩
        case measure => simp only [intOf]; omega
    · obtain rfl : knobs.length = j := by omega
      have hta : (placeK knobs n ⟨x, y, z⟩).take knobs.length = placeK knobs n ⟨x, y, z⟩ := List.take_of_length_le (by rw [Hpl.out]; exact Nat.le_refl _)
      rw [hta] at own
      clear hta
      obtain ⟨RA, rc, rfl, hs, hb⟩ := own_slice0 (knbs_wide _) (by rw [List.length_map]; exact Hpl.out) own
      have bk := BK.cell
      go_wp2_with fail
      go_ret
      exact ⟨RA, rc, rfl, hs, fun q hq => by have := hb q hq; have := HS.out; omega, E⟩
end Go.Proofs.Ytenigkngmdofiaa

namespace Go.Proofs.Ytenigkngmdofiaa
open Go.RowKit

def Pt.in_ (B : Int) (p : Pt) : Prop := (-B ≤ p.x ∧ p.x ≤ B) ∧ (-B ≤ p.y ∧ p.y ≤ B) ∧ (-B ≤ p.z ∧ p.z ≤ B)
theorem Pt.in_.ok {B : Int} {p : Pt} (h : p.in_ B) (hB : B ≤ 1000000) : p.ok := by
  unfold Pt.in_ at h
  unfold Pt.ok CB
  omega
theorem rotZn_in {B : Int} {p : Pt} (h : p.in_ B) : ∀ k, (rotZn p k).in_ B
  | 0 => h
  | k + 1 => by
    have := rotZn_in h k
    unfold Pt.in_ at *
    unfold rotZn rotZ
    simp only
    omega
theorem turnS_in {B : Int} {p : Pt} (h : p.in_ B) (n : Nat) : (turnS p n).in_ B := by
  have := rotZn_in h (n % 4)
  unfold turnS turnQ
  unfold Pt.in_ at *
  split <;> first | omega | (simp only; omega)
theorem addP_in {B C : Int} {p q : Pt} (h : p.in_ B) (k : q.in_ C) : (addP p q).in_ (B + C) := by
  unfold Pt.in_ at *
  unfold addP
  simp only
  omega
theorem subP_in {B C : Int} {p q : Pt} (h : p.in_ B) (k : q.in_ C) : (subP p q).in_ (B + C) := by
  unfold Pt.in_ at *
  unfold subP
  simp only
  omega
theorem near_in {p : Pt} (h : nearB p 0 15 = true) : p.in_ 15 := by
  rw [nearB_iff] at h
  unfold Pt.in_
  omega
theorem near_in' {p : Pt} (h : nearB p (-1000) 1000 = true) : p.in_ 1000 := by
  rw [nearB_iff] at h
  unfold Pt.in_
  omega
/-- What is used of a valid kind. -/
structure Knd.Fine (k : Knd) : Prop where
  pos : 0 < k.cells.length
  len : k.cells.length ≤ 24
  klen : k.knobs.length ≤ 48
  near : ∀ p ∈ k.cells, p.in_ 15
  knob : ∀ x ∈ k.knobs, x.at_.in_ 15 ∧ 0 ≤ x.dir ∧ x.dir ≤ 5
theorem Knd.fine_of {k : Knd} (h : k.valid = true) (hb : ∀ x ∈ k.knobs, x.byte) : k.Fine := by
  unfold Knd.valid at h
  rw [Bool.and_eq_true, Bool.and_eq_true, sized_iff] at h
  obtain ⟨⟨⟨h1, h2⟩, h3, _, _⟩, h6, h7⟩ := h
  have hnear : ∀ p ∈ k.cells, p.in_ 15 := fun p hp => by
    obtain ⟨i, hi⟩ := List.getElem?_of_mem hp
    have := allR_at h6 (List.getElem?_eq_some_iff.1 hi).1
    rw [cellOk, ptAt_eq hi, Bool.and_eq_true] at this
    exact near_in this.1
  refine ⟨h1, h2, h3, hnear, fun x hx => ?_⟩
  obtain ⟨i, hi⟩ := List.getElem?_of_mem hx
  have := allR_at h7 (List.getElem?_eq_some_iff.1 hi).1
  rw [knobOk, knbAt_eq hi, Bool.and_eq_true, Knb.one_iff] at this
  obtain ⟨⟨g1, _, g3, _⟩, _⟩ := this
  exact ⟨hnear _ (hasP_iff.1 g3), (hb x hx).1.1, g1⟩
theorem Knd.Fine.cok {k : Knd} (h : k.Fine) : ∀ p ∈ k.cells, p.ok := fun p hp => (h.near p hp).ok (by omega)
theorem Knd.Fine.kok {k : Knd} (h : k.Fine) : ∀ x ∈ k.knobs, x.fine := fun x hx => ⟨(h.knob x hx).1.ok (by omega), (h.knob x hx).2⟩
def likeAt (k : Knd) (bt : Nat) (p : Pt) (n : Nat) : Pt := subP (ptAt (sortP (placeP k.cells bt p)) 0) (ptAt (sortP (placeP k.cells n ⟨0, 0, 0⟩)) 0)
def likeB (k : Knd) (bt : Nat) (p : Pt) (n : Nat) : Bool := eqC (sortP (placeP k.cells n (likeAt k bt p n))) (sortP (placeP k.cells bt p)) && subK (placeK k.knobs n (likeAt k bt p n)) (placeK k.knobs bt p)
theorem head_in {k : Knd} (h : k.Fine) (n : Nat) {B : Int} {p : Pt} (hp : p.in_ B) : (ptAt (sortP (placeP k.cells n p)) 0).in_ (15 + B) := by
  have hl : (sortP (placeP k.cells n p)).length = k.cells.length := by rw [sortP_len, placeP_len]
  have h0 : (sortP (placeP k.cells n p))[0]? = some ((sortP (placeP k.cells n p))[0]'(by rw [hl]; exact h.pos)) := List.getElem?_eq_getElem _
  rw [ptAt_eq h0]
  have hm := (sortP_perm _).mem_iff.1 (List.mem_of_getElem? h0)
  obtain ⟨c, hc, e⟩ := List.mem_map.1 (show _ ∈ k.cells.map (fun c => addP (turnS c n) p) from hm)
  rw [← e]
  exact addP_in (turnS_in (h.near c hc) n) hp
theorem likeAt_in {k : Knd} (h : k.Fine) (bt n : Nat) {B : Int} {p : Pt} (hp : p.in_ B) : (likeAt k bt p n).in_ (15 + B + 15) := by
  have h0 : (⟨0, 0, 0⟩ : Pt).in_ 0 := by
    unfold Pt.in_
    simp
  have := subP_in (head_in h bt hp) (head_in h n h0)
  unfold Pt.in_ at *
  unfold likeAt
  omega
theorem cells_of_blk {w : World} {g n : Nat} {l : List Pt} (h : Blk w g 23 (ptsA l)) (hn : l.length = n) (hl : n ≤ 100000) : Cells w (some ⟨g, 0, none⟩) n l := by
  have := Blk.slice (rows := l.map Pt.cs) h (pts_wide l) (by rw [List.length_map]; omega)
  rw [List.length_map, hn] at this
  unfold Cells
  rw [hn]
  exact this
theorem knobs_of_blk {w : World} {g n : Nat} {l : List Knb} (h : Blk w g 68 (knbsA l)) (hn : l.length = n) (hl : n ≤ 100000) : KnobsR w (some ⟨g, 0, none⟩) n l := by
  have := Blk.slice (rows := l.map Knb.cs) h (knbs_wide l) (by rw [List.length_map]; omega)
  rw [List.length_map, hn] at this
  unfold KnobsR
  rw [hn]
  exact this
end Go.Proofs.Ytenigkngmdofiaa
