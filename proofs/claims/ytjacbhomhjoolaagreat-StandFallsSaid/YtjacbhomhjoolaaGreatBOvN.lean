
/- Contracts of the shelf, laid at this program in plain declarations (written by program): slices.SortFunc[[][2]int,[2]int]. slices.SortFunc on pairs of numbers, by the program's comparison: the row holds the sorted pairs. slices.SortFunc on no pairs. The cells of a valid brick are all different; what the program's Overlaps gathers, plain. The two maps that the program's Overlaps fills: rows of brick numbers by cell, and the pairs. Overlaps of the program. No conditions. -/
import Derived.Shelf.SlLaysF0
import Derived.Test.YtjacbhomhjoolaaGreatProg
import Derived.Test.YtjacbhomhjoolaaGreatBSort
import Derived.Test.YtjacbhomhjoolaaGreatBPairs
import Derived.Test.YtjacbhomhjoolaaGreatBLib
namespace Go.Proofs.YtjacbhomhjoolaaGreat
open Go.Shelf

def sortPairs_ren : Go.Shelf.Ren := ⟨fun | 6 => 73 | 15 => 103 | 14 => 102 | 28 => 131 | 29 => 132 | 20 => 123 | 21 => 124 | 22 => 125 | 23 => 126 | 24 => 127 | 25 => 128 | 26 => 129 | 27 => 130 | 46 => 157 | 47 => 158 | 48 => 159 | 49 => 160 | 50 => 161 | 57 => 176 | n => n,fun | 22 => 91 | 24 => 97 | 25 => 148 | 3 => 3 | 39 => 191 | 0 => 0 | 53 => 211 | 55 => 213 | 4 => 4 | 46 => 205 | 45 => 204 | 50 => 135 | 5 => 5 | 9 => 9 | 66 => 228 | 70 => 232 | 76 => 243 | 77 => 82 | n => n,fun | n => n⟩
theorem sortPairs : SlLaysF0.n6 Tryz.prog sortPairs_ren := {
 mixed := by kernel_rfl,
 f6 := ⟨Tryz.f73.name,by decide,Tryz.func73.trans (congrArg some (by kernel_rfl))⟩,
 f14 := ⟨Tryz.f102.name,by decide,Tryz.func102.trans (congrArg some (by kernel_rfl))⟩,
 f15 := Tryz.func103.trans (congrArg some (by kernel_rfl)),
 f20 := ⟨Tryz.f123.name,by decide,Tryz.func123.trans (congrArg some (by kernel_rfl))⟩,
 f21 := ⟨Tryz.f124.name,by decide,Tryz.func124.trans (congrArg some (by kernel_rfl))⟩,
 f22 := ⟨Tryz.f125.name,by decide,Tryz.func125.trans (congrArg some (by kernel_rfl))⟩,
 f23 := ⟨Tryz.f126.name,by decide,Tryz.func126.trans (congrArg some (by kernel_rfl))⟩,
 f24 := ⟨Tryz.f127.name,by decide,Tryz.func127.trans (congrArg some (by kernel_rfl))⟩,
 f25 := ⟨Tryz.f128.name,by decide,Tryz.func128.trans (congrArg some (by kernel_rfl))⟩,
 f26 := ⟨Tryz.f129.name,by decide,Tryz.func129.trans (congrArg some (by kernel_rfl))⟩,
 f27 := ⟨Tryz.f130.name,by decide,Tryz.func130.trans (congrArg some (by kernel_rfl))⟩,
 f28 := Tryz.func131.trans (congrArg some (by kernel_rfl)),
 f29 := Tryz.func132.trans (congrArg some (by kernel_rfl)),
 f46 := ⟨Tryz.f157.name,by decide,Tryz.func157.trans (congrArg some (by kernel_rfl))⟩,
 f47 := Tryz.func158.trans (congrArg some (by kernel_rfl)),
 f48 := Tryz.func159.trans (congrArg some (by kernel_rfl)),
 f49 := ⟨Tryz.f160.name,by decide,Tryz.func160.trans (congrArg some (by kernel_rfl))⟩,
 f50 := ⟨Tryz.f161.name,by decide,Tryz.func161.trans (congrArg some (by kernel_rfl))⟩,
 f57 := ⟨Tryz.f176.name,by decide,Tryz.func176.trans (congrArg some (by kernel_rfl))⟩,
 t0 := Tryz.underlying0,
 a0 := Tryz.isAgg0,
 z0 := Tryz.sizeOf0,
 v0 := Tryz.zeroValue0,
 t3 := Tryz.underlying3,
 a3 := Tryz.isAgg3,
 z3 := Tryz.sizeOf3,
 v3 := Tryz.zeroValue3,
 t4 := Tryz.underlying4,
 a4 := Tryz.isAgg4,
 z4 := Tryz.sizeOf4,
 v4 := Tryz.zeroValue4,
 t5 := Tryz.underlying5,
 a5 := Tryz.isAgg5,
 z5 := Tryz.sizeOf5,
 v5 := Tryz.zeroValue5,
 t9 := Tryz.underlying9,
 a9 := Tryz.isAgg9,
 z9 := Tryz.sizeOf9,
 v9 := Tryz.zeroValue9,
 t22 := Tryz.underlying91,
 a22 := Tryz.isAgg91,
 z22 := Tryz.sizeOf91,
 v22 := Tryz.zeroValue91,
 t25 := Tryz.underlying148,
 a25 := Tryz.isAgg148,
 z25 := Tryz.sizeOf148,
 v25 := Tryz.zeroValue148,
 t39 := Tryz.underlying191,
 a39 := Tryz.isAgg191,
 z39 := Tryz.sizeOf191,
 v39 := Tryz.zeroValue191,
 t45 := Tryz.underlying204,
 a45 := Tryz.isAgg204,
 z45 := Tryz.sizeOf204,
 v45 := Tryz.zeroValue204,
 t46 := Tryz.underlying205,
 a46 := Tryz.isAgg205,
 z46 := Tryz.sizeOf205,
 v46 := Tryz.zeroValue205,
 t50 := Tryz.underlying135,
 a50 := Tryz.isAgg135,
 z50 := Tryz.sizeOf135,
 v50 := Tryz.zeroValue135,
 t53 := Tryz.underlying211,
 a53 := Tryz.isAgg211,
 z53 := Tryz.sizeOf211,
 v53 := Tryz.zeroValue211,
 t55 := Tryz.underlying213,
 a55 := Tryz.isAgg213,
 z55 := Tryz.sizeOf213,
 v55 := Tryz.zeroValue213,
 t66 := Tryz.underlying228,
 a66 := Tryz.isAgg228,
 z66 := Tryz.sizeOf228,
 v66 := Tryz.zeroValue228,
 t70 := Tryz.underlying232,
 a70 := Tryz.isAgg232,
 z70 := Tryz.sizeOf232,
 v70 := Tryz.zeroValue232,
 t76 := Tryz.underlying243,
 a76 := Tryz.isAgg243,
 z76 := Tryz.sizeOf243,
 v76 := Tryz.zeroValue243,
 t77 := Tryz.underlying82,
 a77 := Tryz.isAgg82,
 z77 := Tryz.sizeOf82,
 v77 := Tryz.zeroValue82 }
end Go.Proofs.YtjacbhomhjoolaaGreat
namespace Go.Proofs.YtjacbhomhjoolaaGreat
open Go.RowKit

def ltR (x y : Int × Int) : Bool := decide (x.1 < y.1) || (decide (x.1 = y.1) && decide (x.2 < y.2))
def ordR (x y : Int × Int) : Int := if ordZ x.1 y.1 = 0 then ordZ x.2 y.2 else ordZ x.1 y.1
theorem ltR_iff {x y : Int × Int} : ltR x y = true ↔ x.1 < y.1 ∨ (x.1 = y.1 ∧ x.2 < y.2) := by
 simp [ltR]
theorem ltR_not {x y : Int × Int} : ltR x y = false ↔ ¬ (x.1 < y.1 ∨ (x.1 = y.1 ∧ x.2 < y.2)) := by
 rw [← Bool.not_eq_true,ltR_iff]
theorem ordR_neg (x y : Int × Int) : ordR x y < 0 ↔ ltR x y = true := by
 rw [ltR_iff]
 unfold ordR ordZ
 repeat' split
 all_goals omega
theorem ltOf_ordR : ltOf ordR = ltR := by
 funext x y
 unfold ltOf
 rw [Bool.eq_iff_iff,decide_eq_true_eq,ordR_neg]
theorem swoR : Go.Sort.SWO ltR where
 irrefl x := by rw [ltR_not]; omega
 trans x y z h k := by rw [ltR_iff] at *; omega
 ntrans x y z h k := by rw [ltR_not] at *; omega
theorem ltR_total (x y : Int × Int) (h : ltR x y = false) (k : ltR y x = false) : x = y := by
 rw [ltR_not] at h k
 exact Prod.ext (by omega) (by omega)
set_option maxHeartbeats 1600000 in
theorem compare2_c (g h : Nat) (a b c d : Int) (w : World) (a0 : w.cell? ⟨g,0,none⟩ = some (.int .i64 a)) (a1 : w.cell? ⟨g,1,none⟩ = some (.int .i64 b)) (c0 : w.cell? ⟨h,0,none⟩ = some (.int .i64 c)) (c1 : w.cell? ⟨h,1,none⟩ = some (.int .i64 d)) :
  Calls Tryz.prog 75 #[.slice (some ⟨g,0,none⟩) 2 2,.slice (some ⟨h,0,none⟩) 2 2] w fun e w' => e = .returned (.int .i64 (ordR (a,b) (c,d))) ∧ w = w' := by
 have C1 := cmpZ_c a c w
 have C2 := cmpZ_c b d w
 obtain ⟨r,hr⟩ : ∃ r,ordZ a c = r := ⟨_,rfl⟩
 obtain ⟨s,hs⟩ : ∃ s,ordZ b d = s := ⟨_,rfl⟩
 have Hres := Lib.hid (show ordR (a,b) (c,d) = if r = 0 then s else r by unfold ordR; rw [hr,hs])
 rw [hr] at C1
 rw [hs] at C2
 clear hr hs
 go_enter Tryz.func75,Tryz.ntmps75
 go_wp2_with fail
 go_loopw [11] (fun i wr => ∃ k : Nat,k ≤ 2 ∧ i = .int .i64 k ∧ wr = w ∧ (0 < k → r = 0) ∧ (1 < k → s = 0)) (fun i _ => 2 - (intOf i).toNat)
 case atStart => exact ⟨0,by omega,rfl,rfl,fun h => absurd h (by omega),fun h => absurd h (by omega)⟩
 case round =>
  obtain ⟨k,hk,rfl,rfl,h1,h2⟩ := hrel
  have hk3 : k = 0 ∨ k = 1 ∨ k = 2 := by omega
  rcases hk3 with rfl | rfl | rfl
  ·clear h1 h2
   by_cases h0 : r = 0
   ·have hb : (r != 0) = false := by simpa using h0
    go_wp2_with fail
    refine C1.mono ?_
    rintro e w1 ⟨rfl,rfl⟩
    go_wp2_with fail
    go_roundw
    case rel => exact ⟨1,by omega,by go_num,trivial,fun _ => h0,fun h => absurd h (by omega)⟩
    case measure => simp only [intOf]; omega
   ·have hb : (r != 0) = true := by simpa using h0
    have Hv := Lib.hid (Hres.out.trans (if_neg h0))
    clear h0
    go_wp2_with fail
    refine C1.mono ?_
    rintro e w1 ⟨rfl,rfl⟩
    go_wp2_with fail
    go_ret
    exact ⟨by rw [Hv.out]; rfl,rfl⟩
  ·have hr0 := h1 (by omega)
   have Hs := Lib.hid (Hres.out.trans (if_pos hr0))
   clear h1 h2
   by_cases h0 : s = 0
   ·have hb : (s != 0) = false := by simpa using h0
    go_wp2_with fail
    refine C2.mono ?_
    rintro e w1 ⟨rfl,rfl⟩
    go_wp2_with fail
    go_roundw
    case rel => exact ⟨2,by omega,by go_num,trivial,fun _ => hr0,fun _ => h0⟩
    case measure => simp only [intOf]; omega
   ·have hb : (s != 0) = true := by simpa using h0
    clear h0 hr0
    go_wp2_with fail
    refine C2.mono ?_
    rintro e w1 ⟨rfl,rfl⟩
    go_wp2_with fail
    go_ret
    exact ⟨by rw [Hs.out]; rfl,rfl⟩
  ·have Hv := Lib.hid (Hres.out.trans ((if_pos (h1 (by omega))).trans (h2 (by omega))))
   clear h1 h2
   go_wp2_with fail
   go_ret
   exact ⟨by rw [Hv.out]; rfl,rfl⟩
set_option maxHeartbeats 1600000 in
theorem less_g (a b c d : Int) (w : World) :
  Calls Tryz.prog 74 #[.agg #[.int .i64 a,.int .i64 b],.agg #[.int .i64 c,.int .i64 d]] w fun v w' => v = .returned (.int .i64 (ordR (a,b) (c,d))) ∧ Grn w w' := by
 have hG := ((Grn.refl w).alloc (.cells #[.int .i64 a,.int .i64 b] 97)).alloc (.cells #[.int .i64 c,.int .i64 d] 97)
 obtain ⟨W1,hW1,E1,B1,hz1⟩ := mk_ w #[.int .i64 a,.int .i64 b] 97
 obtain ⟨W2,hW2,E2,B2,hz2⟩ := mk_ W1 #[.int .i64 c,.int .i64 d] 97
 rw [hW1,hW2] at hG
 have B1' := B1.ext E2
 rw [hz1] at B2
 have a0 := Go.cell_grown B1'.lt (B1'.cell 0)
 have a1 := Go.cell_grown B1'.lt (B1'.cell 1)
 have c0 := Go.cell_grown B2.lt (B2.cell 0)
 have c1 := Go.cell_grown B2.lt (B2.cell 1)
 go_enter Tryz.func74,Tryz.ntmps74
 go_upto_region 1 with (fail)
 clear hW1 hW2 hz1 hz2 B1 E1 E2 B1' B2
 refine wp_region_tailG 2 (by kernel_rfl) (by kernel_rfl) ?_
 simp only [List.take_succ_cons,List.take_zero,List.drop_succ_cons,List.drop_zero]
 repeat (go_big_quiet_step (fail))
 refine wpQuiet_nil ?_
 intro W3 hW3
 obtain ⟨p,hp⟩ := hW3
 have hG3 : Grn w W3 := by
  subst hp
  exact hG.trans ⟨p.n,p.os,rfl⟩
 have CC := compare2_c w.heap.size (w.heap.size + 1) a b c d W3 (by rw [hp,a0]; rfl) (by rw [hp,a1]; rfl) (by rw [hp,c0]; rfl) (by rw [hp,c1]; rfl)
 clear hp hG a0 a1 c0 c1
 go_wp2_with fail
 refine CC.mono ?_
 rintro e w4 ⟨rfl,rfl⟩
 go_wp2_with fail
 go_ret
 exact ⟨rfl,hG3⟩
theorem prs_wide (l : List (Int × Int)) : ∀ r ∈ l.map prC,r.length = 2 := fun r h => by
 obtain ⟨p,_,rfl⟩ := List.mem_map.1 h
 rfl
def sortR (l : List (Int × Int)) : List (Int × Int) := l.mergeSort fun x y => !ltR y x
theorem flatK_prs (l : List (Int × Int)) : Go.Sort.flatK prC 2 l.toArray = rowsA (l.map prC) := by
 refine rowsA_ext (prs_wide l) (by simp) fun i j r u hr hu => ?_
 rw [List.getElem?_map] at hr
 obtain ⟨p,hp,rfl⟩ := Option.map_eq_some_iff.1 hr
 obtain ⟨hi,hpi⟩ := List.getElem?_eq_some_iff.1 hp
 have hj : j < 2 := (List.getElem?_eq_some_iff.1 hu).1
 have hlt : i * 2 + j < l.toArray.size * 2 := by simp; omega
 rw [Array.getElem?_eq_getElem (by simpa using hlt),← getElem!_pos,Go.Sort.get_flatK _ _ _ _ hlt,show (i * 2 + j) / 2 = i by omega,show (i * 2 + j) % 2 = j by omega,getElem!_pos l.toArray i (by simpa using hi)]
 have e1 : l.toArray[i]'(by simpa using hi) = p := by simpa using hpi
 rw [e1,← hu]
 rw [List.getElem!_eq_getElem?_getD,hu]
 rfl
theorem putPrs {w : World} {g n : Nat} {os : Array Obj} {l l' : List (Int × Int)} {t : TypeId} (hl : l'.length = l.length) (hb : RowX w g t (l.map prC)) :
  RowX (sortWorldK prC 2 w g 0 n l'.toArray os) g t (l'.map prC) ∧ w.grownBy (sortWorldK prC 2 w g 0 n l'.toArray os) (some g) := by
 obtain ⟨ex,hb⟩ := hb
 have hg := hb.lt
 constructor
 ·refine ⟨ex,?_⟩
  unfold sortWorldK Go.Sort.putRowK
  rw [flatK_prs]
  show (Go.Sort.grow _ _).heap[g]? = _
  rw [Go.Sort.heap_grow_old _ _ (by simpa using hg)]
  have hb' : w.heap[g]? = some (.cells (rowsA (l.map prC) ++ ex) t (0,0)) := hb
  have hs : (rowsA (l'.map prC)).size = (rowsA (l.map prC)).size := by rw [rowsA_size (prs_wide l),rowsA_size (prs_wide l')]; simp [hl]
  have e : Go.Sort.putCells id 0 (rowsA (l'.map prC)) (rowsA (l.map prC) ++ ex) = rowsA (l'.map prC) ++ ex := by
   apply Array.ext_getElem?
   intro k
   rcases Nat.lt_or_ge k (rowsA (l.map prC)).size with hk | hk
   ·have hk' : k < (rowsA (l'.map prC)).size := by omega
    rw [Array.getElem?_append_left hk']
    have : k < (rowsA (l.map prC) ++ ex).size := by simp; omega
    simp [Go.Sort.putCells,hk']
    exact ⟨_,Array.getElem?_eq_getElem this⟩
   ·rw [Array.getElem?_append_right (by omega),hs]
    rcases Nat.lt_or_ge k (rowsA (l.map prC) ++ ex).size with h2 | h2
    ·have h3 : ¬ k < (rowsA (l'.map prC)).size := by omega
     have h4 : (rowsA (l.map prC) ++ ex)[k]? = ex[k - (rowsA (l.map prC)).size]? := Array.getElem?_append_right hk
     rw [← h4]
     simp [Go.Sort.putCells,h3]
    ·rw [Array.getElem?_eq_none (by simpa [Go.Sort.putCells] using h2),Array.getElem?_eq_none (by simp at h2; omega)]
  simp [Go.Sort.putRow,Go.Sort.mapBlock,Go.Sort.ahead,Array.getElem?_modify,hb',Go.Sort.onCells,e]
 ·refine ⟨rfl,rfl,rfl,by simp [sortWorldK,Go.Sort.putRowK],fun k hk hne => ?_⟩
  unfold sortWorldK Go.Sort.putRowK
  rw [Go.Sort.heap_grow_old _ _ (by simpa using hk)]
  have : g ≠ k := fun e => hne (by rw [e])
  simp [Go.Sort.putRow,Go.Sort.mapBlock,Go.Sort.ahead,Array.getElem?_modify,this]
theorem sort2_c (l : List (Int × Int)) (g cap : Nat) (w : World) (hB : RowX w g 97 (l.map prC)) (hn : l.length ≤ 100000) :
  Calls Tryz.prog 73 #[.slice (some ⟨g,0,none⟩) l.length cap,.func (.func 74) #[] #[]] w fun e w' => e = .returned (.tuple #[]) ∧ RowX w' g 97 ((sortR l).map prC) ∧ w.grownBy w' (some g) := by
 have hH : Go.Sort.HoldsK prC 2 w g 0 l.toArray := by
  obtain ⟨ex,hb⟩ := hB
  unfold Go.Sort.HoldsK
  rw [flatK_prs]
  intro j hj
  refine ⟨?_,by rw [Nat.zero_add]; exact hb.frozen j⟩
  rw [Nat.zero_add,hb.cell,Array.getElem?_append_left hj,Array.getElem?_eq_getElem hj,getElem!_pos (rowsA (l.map prC)) j hj]
  rfl
 have hcmp : CmpLays Tryz.prog 74 #[] prC 2 ordR g 0 l.toArray.size w := fun m os dk _ x y => (less_g x.1 x.2 y.1 y.2 _).mono fun _ _ ⟨he,q,os',hw⟩ => ⟨he,q,os',hw⟩
 have h := AnyQ.slices_SortFunc sortPairs 2 Tryz.isAgg97 Tryz.sizeOf97 prC (fun _ => rfl) (fun x v hv => by
   simp only [prC,List.mem_cons,List.not_mem_nil,or_false] at hv
   rcases hv with rfl | rfl <;> rfl) ordR (by rw [ltOf_ordR]; exact swoR) 74 #[] g 0 cap l.toArray w (enters_of Tryz.func74 (by kernel_rfl) rfl) hcmp hH hB.lt (by simp; omega)
 rw [ltOf_ordR] at h
 refine (show Calls Tryz.prog 73 _ _ _ from h).mono ?_
 rintro e w' ⟨rfl,d',n,os,hp,hs,rfl⟩
 obtain rfl : d' = (sortR l).toArray := Array.ext' (Go.Sort.sorted_unique_holds swoR ltR_total l.toArray d' hp hs)
 exact ⟨rfl,putPrs (List.length_mergeSort l) hB⟩

theorem insNil (v : Value) (w : World) : Calls Tryz.prog 123 #[.slice none 0 0,.int .i64 0,.int .i64 0,v] w fun e w' => e = .returned (.tuple #[]) ∧ w = w' := by
 go_enter Tryz.func123,Tryz.ntmps123
 go_wp2_with fail
 go_loopw [8] (fun i wr => i = .int .i64 1 ∧ wr = w) (fun _ _ => 0)
 case atStart => exact ⟨rfl,rfl⟩
 case round =>
  obtain ⟨rfl,rfl⟩ := hrel
  go_wp2_with fail
  go_end0
  exact ⟨rfl,rfl⟩
set_option maxRecDepth 100000 in
theorem pdqNil (v : Value) (w : World) : Calls Tryz.prog 102 #[.slice none 0 0,.int .i64 0,.int .i64 0,.int .i64 0,v] w fun e w' => e = .returned (.tuple #[]) ∧ w = w' := by
 go_enter Tryz.func102,Tryz.ntmps102
 go_wp2_with fail
 go_loopw [1,2] (fun a b wr => a = .int .i64 0 ∧ b = .int .i64 0 ∧ wr = w) (fun _ _ _ => 0)
 case atStart => exact ⟨rfl,rfl,rfl⟩
 case round =>
  obtain ⟨rfl,rfl,rfl⟩ := hrel
  go_wp2_with fail
  refine (insNil v wr).mono ?_
  rintro e w1 ⟨rfl,rfl⟩
  go_wp2_with fail
  exact bodyPost_ret (v := .tuple #[]) (results_none rfl _ _ _) rfl ⟨rfl,rfl⟩
theorem sortNil_c (v : Value) (w : World) : Calls Tryz.prog 73 #[.slice none 0 0,v] w fun e w' => e = .returned (.tuple #[]) ∧ w = w' := by
 have hl := Any.bits_Len (SlLaysF0.n15.bits (P := Tryz.prog) (ρ := sortPairs_ren) { sortPairs with }) 0 w (by omega) (by omega)
 go_enter Tryz.func73,Tryz.ntmps73
 have hl' : Calls Tryz.prog 103 #[.int .u64 0] w fun e w' => e = .returned (.int .i64 0) ∧ w' = w := hl
 clear hl
 go_wp2_with fail
 refine hl'.mono ?_
 rintro e w1 ⟨rfl,rfl⟩
 go_wp2_with fail
 refine (pdqNil v w1).mono ?_
 rintro e w2 ⟨rfl,rfl⟩
 go_wp2_with fail
 go_end0
 exact ⟨rfl,rfl⟩

theorem rotZ_inj {p q : Pt} (h : rotZ p = rotZ q) : p = q := by
 obtain ⟨a,b,c⟩ := p
 obtain ⟨d,e,f⟩ := q
 unfold rotZ at h
 simp only [Pt.mk.injEq] at h ⊢
 omega
theorem rotZn_inj {p q : Pt} : ∀ n,rotZn p n = rotZn q n → p = q
 | 0,h => h
 | n + 1,h => rotZn_inj n (rotZ_inj h)
theorem turnQ_inj {p q : Pt} (n : Nat) (h : turnQ p n = turnQ q n) : p = q := by
 obtain ⟨a,b,c⟩ := p
 obtain ⟨d,e,f⟩ := q
 unfold turnQ at h
 split at h <;> simp only [Pt.mk.injEq] at h ⊢ <;> omega
theorem turnS_inj {p q : Pt} (n : Nat) (h : turnS p n = turnS q n) : p = q := rotZn_inj _ (turnQ_inj _ h)
theorem addP_inj {p q r : Pt} (h : addP p r = addP q r) : p = q := by
 obtain ⟨a,b,c⟩ := p
 obtain ⟨d,e,f⟩ := q
 unfold addP at h
 simp only [Pt.mk.injEq] at h ⊢
 omega
theorem placeP_nodup {l : List Pt} (h : l.Nodup) (n : Nat) (p : Pt) : (placeP l n p).Nodup := by
 unfold placeP
 rw [List.Nodup,List.pairwise_map]
 exact h.imp fun hne e => hne (turnS_inj n (addP_inj e))
theorem cells_nodup {l : List Pt} (h : cellsB l = true) : l.Nodup := by
 have step : ∀ i,i + 1 < l.length → ltP (ptAt l i) (ptAt l (i + 1)) = true := fun i hi => by
  have := allR_at h hi
  unfold cellOk at this
  rw [Bool.and_eq_true,Bool.or_eq_true] at this
  rcases this.2 with h' | h'
  ·exact absurd (of_decide_eq_true h') (by omega)
  ·exact h'
 have far : ∀ d i,i + d + 1 < l.length → ltP (ptAt l i) (ptAt l (i + d + 1)) = true := by
  intro d
  induction d with
  | zero => exact fun i hi => step i hi
  | succ d ih => exact fun i hi => ltP_trans (ih i (by omega)) (step (i + d + 1) hi)
 rw [List.Nodup,List.pairwise_iff_getElem]
 intro i j hi hj hij e
 have := far (j - i - 1) i (by omega)
 rw [show i + (j - i - 1) + 1 = j by omega,ptAt_eq (List.getElem?_eq_getElem hi),ptAt_eq (List.getElem?_eq_getElem hj),e,ltP_irrefl] at this
 cases this
theorem bcells_nodup {w : World} {QA : Option Addr} {qc : Nat} {qs : List (Knd × KAt)} (hk : Kinds w QA qc qs) {bs : List Brk} (hb : ∀ b ∈ bs,b.byte) (h : modelErr (qs.map (·.1)) bs = 0) {b : Brk} (hm : b ∈ bs) : (bcells (qs.map (·.1)) b).Nodup := by
 have hf := mfine_of hk hb h
 obtain ⟨i,tn,k,p,e1,e2, -,hi, -, -, -⟩ := hf.b b hm
 rw [bcells_is e1 e2 hi]
 have h0 : kindsErr (qs.map (·.1)) = 0 := by
  by_cases h0 : kindsErr (qs.map (·.1)) = 0
  ·exact h0
  ·rw [modelErr_kinds h0] at h
   exact h
 have hv := kindsErr_valid h0 (List.mem_map.2 ⟨_,List.mem_of_getElem? hi,rfl⟩)
 unfold Knd.valid at hv
 simp only [Bool.and_eq_true] at hv
 exact (sortP_perm _).nodup_iff.2 (placeP_nodup (cells_nodup hv.2.1) _ _)
def inA (ks : List Knd) (bs : List Brk) (j : Nat) (c : Pt) : List Int := ((List.range j).filter fun i => hasP (bcells ks (brkAt bs i)) c).map fun (i : Nat) => (i : Int)
def inF (ks : List Knd) (bs : List Brk) (j q : Nat) (c : Pt) : List Int := inA ks bs j c ++ if hasP ((bcells ks (brkAt bs j)).take q) c then [(j : Int)] else []
theorem inF_zero (ks : List Knd) (bs : List Brk) (j : Nat) (c : Pt) : inF ks bs j 0 c = inA ks bs j c := by
 unfold inF
 rw [List.take_zero,if_neg (by rw [hasP_iff]; simp),List.append_nil]
theorem inF_all (ks : List Knd) (bs : List Brk) (j : Nat) (c : Pt) : inF ks bs j (bcells ks (brkAt bs j)).length c = inA ks bs (j + 1) c := by
 unfold inF inA
 rw [List.take_length,List.range_succ,List.filter_append,List.map_append]
 congr 1
 cases h : hasP (bcells ks (brkAt bs j)) c
 ·simp [h]
 ·simp [h]
theorem inF_step {ks : List Knd} {bs : List Brk} {j q : Nat} {c : Pt} (hc : (bcells ks (brkAt bs j))[q]? = some c) (hn : (bcells ks (brkAt bs j)).Nodup) (d : Pt) : inF ks bs j (q + 1) d = if d = c then inF ks bs j q c ++ [(j : Int)] else inF ks bs j q d := by
 unfold inF
 rw [List.take_add_one,hc]
 by_cases hd : d = c
 ·subst hd
  have h0 : hasP ((bcells ks (brkAt bs j)).take q) d = false := by
   rw [← Bool.not_eq_true,hasP_iff]
   intro hm
   obtain ⟨i,hi⟩ := List.getElem?_of_mem hm
   have hiq : i < q := by
    have := (List.getElem?_eq_some_iff.1 hi).1
    rw [List.length_take] at this
    omega
   rw [List.getElem?_take_of_lt hiq] at hi
   obtain ⟨h1,e1⟩ := List.getElem?_eq_some_iff.1 hi
   obtain ⟨h2,e2⟩ := List.getElem?_eq_some_iff.1 hc
   exact List.pairwise_iff_getElem.1 hn i q h1 h2 hiq (by rw [e1,e2])
  have h1 : hasP ((bcells ks (brkAt bs j)).take q ++ (some d).toList) d = true := by
   rw [hasP_iff]
   simp
  rw [if_pos rfl,h0,h1]
  simp
 ·rw [if_neg hd]
  congr 2
  rw [Bool.eq_iff_iff,hasP_iff,hasP_iff]
  simp [hd]
theorem inA_mem {ks : List Knd} {bs : List Brk} {j : Nat} {c : Pt} {x : Int} : x ∈ inA ks bs j c ↔ ∃ k : Nat,x = k ∧ k < j ∧ c ∈ bcells ks (brkAt bs k) := by
 unfold inA
 rw [List.mem_map]
 constructor
 ·rintro ⟨k,hk,rfl⟩
  obtain ⟨h1,h2⟩ := List.mem_filter.1 hk
  exact ⟨k,rfl,List.mem_range.1 h1,hasP_iff.1 h2⟩
 ·rintro ⟨k,rfl,h1,h2⟩
  exact ⟨k,List.mem_filter.2 ⟨List.mem_range.2 h1,hasP_iff.2 h2⟩,rfl⟩
theorem inA_len (ks : List Knd) (bs : List Brk) (j : Nat) (c : Pt) : (inA ks bs j c).length ≤ j := by
 unfold inA
 rw [List.length_map]
 exact Nat.le_trans (List.length_filter_le _ _) (by simp)
/-! Which pairs are there. -/
def P0 (ks : List Knd) (bs : List Brk) (j : Nat) (p : Int × Int) : Prop := ∃ k i : Nat,p = ((k : Int),(i : Int)) ∧ k < i ∧ i < j ∧ overB ks bs k i = true
def P1 (ks : List Knd) (bs : List Brk) (j q : Nat) (p : Int × Int) : Prop := P0 ks bs j p ∨ ∃ k : Nat,p = ((k : Int),(j : Int)) ∧ k < j ∧ ∃ c,c ∈ (bcells ks (brkAt bs j)).take q ∧ c ∈ bcells ks (brkAt bs k)
def P2 (ks : List Knd) (bs : List Brk) (j q : Nat) (l : List Int) (t : Nat) (p : Int × Int) : Prop := P1 ks bs j q p ∨ ∃ x,x ∈ l.take t ∧ p = (x,(j : Int))
theorem P1_zero {ks : List Knd} {bs : List Brk} {j : Nat} {p : Int × Int} : P1 ks bs j 0 p ↔ P0 ks bs j p := by
 unfold P1
 constructor
 ·rintro (h | ⟨k, -, -,c,hc, -⟩)
  ·exact h
  ·simp at hc
 ·exact Or.inl
theorem P1_all {ks : List Knd} {bs : List Brk} {j : Nat} {p : Int × Int} : P1 ks bs j (bcells ks (brkAt bs j)).length p ↔ P0 ks bs (j + 1) p := by
 unfold P1 P0
 rw [List.take_length]
 constructor
 ·rintro (⟨k,i,h1,h2,h3,h4⟩ | ⟨k,h1,h2,c,h3,h4⟩)
  ·exact ⟨k,i,h1,h2,by omega,h4⟩
  ·exact ⟨k,j,h1,h2,by omega,commonB_iff.2 ⟨c,h4,h3⟩⟩
 ·rintro ⟨k,i,h1,h2,h3,h4⟩
  rcases Nat.lt_or_ge i j with h5 | h5
  ·exact Or.inl ⟨k,i,h1,h2,h5,h4⟩
  ·obtain rfl : i = j := by omega
   obtain ⟨c,h6,h7⟩ := commonB_iff.1 h4
   exact Or.inr ⟨k,h1,h2,c,h7,h6⟩
theorem P2_zero {ks : List Knd} {bs : List Brk} {j q : Nat} {l : List Int} {p : Int × Int} : P2 ks bs j q l 0 p ↔ P1 ks bs j q p := by
 unfold P2
 simp
theorem P2_succ {ks : List Knd} {bs : List Brk} {j q : Nat} {l : List Int} {t : Nat} {x : Int} (hx : l[t]? = some x) {p : Int × Int} : P2 ks bs j q l (t + 1) p ↔ P2 ks bs j q l t p ∨ p = (x,(j : Int)) := by
 unfold P2
 rw [List.take_add_one,hx]
 constructor
 ·rintro (h | ⟨y,h1,h2⟩)
  ·exact Or.inl (Or.inl h)
  ·simp only [Option.toList_some,List.mem_append,List.mem_singleton] at h1
   rcases h1 with h1 | rfl
   ·exact Or.inl (Or.inr ⟨y,h1,h2⟩)
   ·exact Or.inr h2
 ·rintro ((h | ⟨y,h1,h2⟩) | h)
  ·exact Or.inl h
  ·exact Or.inr ⟨y,List.mem_append.2 (Or.inl h1),h2⟩
  ·exact Or.inr ⟨x,List.mem_append.2 (Or.inr (by simp)),h⟩
theorem P2_all {ks : List Knd} {bs : List Brk} {j q : Nat} {c : Pt} (hc : (bcells ks (brkAt bs j))[q]? = some c) {l : List Int} (hl : l = inA ks bs j c) {p : Int × Int} : P2 ks bs j q l l.length p ↔ P1 ks bs j (q + 1) p := by
 unfold P2 P1
 rw [List.take_length,List.take_add_one,hc]
 constructor
 ·rintro ((h | ⟨k,h1,h2,d,h3,h4⟩) | ⟨x,h1,h2⟩)
  ·exact Or.inl h
  ·exact Or.inr ⟨k,h1,h2,d,List.mem_append.2 (Or.inl h3),h4⟩
  ·rw [hl] at h1
   obtain ⟨k,rfl,h3,h4⟩ := inA_mem.1 h1
   exact Or.inr ⟨k,h2,h3,c,List.mem_append.2 (Or.inr (by simp)),h4⟩
 ·rintro (h | ⟨k,h1,h2,d,h3,h4⟩)
  ·exact Or.inl (Or.inl h)
  ·simp only [Option.toList_some,List.mem_append,List.mem_singleton] at h3
   rcases h3 with h3 | rfl
   ·exact Or.inl (Or.inr ⟨k,h1,h2,d,h3,h4⟩)
   ·exact Or.inr ⟨k,by rw [hl]; exact inA_mem.2 ⟨k,rfl,h2,h4⟩,h1⟩
theorem mem_overL {ks : List Knd} {bs : List Brk} {p : Int × Int} : p ∈ overL ks bs bs.length ↔ P0 ks bs bs.length p := by
 unfold overL P0 rowO
 rw [List.mem_flatMap]
 constructor
 ·rintro ⟨k,h1,h2⟩
  obtain ⟨i,h3,rfl⟩ := List.mem_map.1 h2
  obtain ⟨h4,h5⟩ := List.mem_filter.1 h3
  rw [Bool.and_eq_true,decide_eq_true_eq] at h5
  exact ⟨k,i,rfl,h5.1,List.mem_range.1 h4,h5.2⟩
 ·rintro ⟨k,i,rfl,h1,h2,h3⟩
  exact ⟨k,List.mem_range.2 (by omega),List.mem_map.2 ⟨i,List.mem_filter.2 ⟨List.mem_range.2 h2,by rw [Bool.and_eq_true,decide_eq_true_eq]; exact ⟨h1,h3⟩⟩,rfl⟩⟩

theorem ownMap {K V : Type} {enc : K → Value} {ev : V → Value} {w : World} {b : Nat} {e : TypeId} {sz : Nat} {v : Value} {n : Nat} {xs : List Value} {M : Nat} {m : List (K × V)} (h : w.ownsRow b e sz v n xs) (h' : MapOf enc ev w M m) : some M ≠ v.ownBlock := by
 intro e1
 rcases h.2 with ⟨rfl,_⟩ | ⟨g,cap,cur,rfl,_,hg,_⟩
 ·cases e1
 ·simp only [Value.ownBlock,Option.some.injEq] at e1
  subst e1
  obtain ⟨es,clock,hm,_⟩ := h'
  rw [hg] at hm
  cases hm
theorem MapOf.far2 {K V : Type} {enc : K → Value} {ev : V → Value} {w : World} {M : Nat} {m : List (K × V)} (h : MapOf enc ev w M m) {p : Addr} (hp : M ≠ p.block) (u : Value) : MapOf enc ev (w.setCell p u) M m := by
 obtain ⟨es,clock,hm,r⟩ := h
 exact ⟨es,clock,by rw [Below.heap_setCell _ _ _ _ hp]; exact hm,r⟩
theorem MapOf.blk_ne {K V : Type} {enc : K → Value} {ev : V → Value} {w : World} {M : Nat} {m : List (K × V)} (h : MapOf enc ev w M m) {g : Nat} {t : TypeId} {cs : Array Value} (hb : Blk w g t cs) : M ≠ g := by
 rintro rfl
 obtain ⟨es,clock,hm,_⟩ := h
 unfold Blk at hb
 rw [hm] at hb
 cases hb
def numC (x : Int) : Value := .int .i64 x
abbrev nilV : Value := .slice none 0 0
structure InM (w : World) (T M : Nat) (m : List (Pt × Value)) (f : Pt → List Int) : Prop where
 map : MapOf encPt id w M m
 row : ∀ c v,getK m c = some v → w.ownsRow T 3 1 v (f c).length ((f c).map numC)
 nil : ∀ c,getK m c = none → f c = []
 sep : ∀ c d u v,c ≠ d → getK m c = some u → getK m d = some v → ∀ r,u.ownBlock = some r → v.ownBlock ≠ some r
theorem InM.own {w : World} {T M : Nat} {m : List (Pt × Value)} {f : Pt → List Int} (h : InM w T M m f) (c : Pt) : w.ownsRow T 3 1 ((getK m c).getD nilV) (f c).length ((f c).map numC) := by
 cases hc : getK m c with
 | none =>
  rw [h.nil c hc]
  exact World.ownsRow_nil _ _ _ _
 | some v => exact h.row c v hc
theorem InM.ext {w w' : World} {T M : Nat} {m : List (Pt × Value)} {f : Pt → List Int} (h : InM w T M m f) (E : Ext w w') : InM w' T M m f :=
 ⟨h.map.ext E,fun c v hc => own_ext (h.row c v hc) E,h.nil,h.sep⟩
theorem InM.grown {w w' : World} {T M : Nat} {m : List (Pt × Value)} {f : Pt → List Int} (h : InM w T M m f) {row : Option Nat} (g : w.grownBy w' row) (h1 : some M ≠ row) (h2 : ∀ c v,getK m c = some v → v.ownBlock = none ∨ v.ownBlock ≠ row) : InM w' T M m f :=
 ⟨h.map.grown g h1,fun c v hc => ownGrown (h.row c v hc) g (h2 c v hc),h.nil,h.sep⟩
theorem InM.other {K V : Type} {enc : K → Value} {ev : V → Value} {w w' : World} {T M M2 : Nat} {m : List (Pt × Value)} {f : Pt → List Int} {m2 : List (K × V)} (h : InM w T M m f) (h' : MapOf enc ev w M2 m2) (hne : M ≠ M2) (g : w.grownBy w' (some M2)) : InM w' T M m f :=
 h.grown g (by simpa using hne) (fun c v hc => Or.inr fun e => ownMap (h.row c v hc) h' e.symm)
theorem InM.made (w : World) (T : Nat) : InM (w.alloc (.map #[] 0)) T w.heap.size [] (fun _ => []) :=
 ⟨MapOf.made w,fun _ v hc => (nomatch (show (none : Option Value) = some v from hc)),fun _ _ => rfl,fun _ _ u _ _ hc _ => (nomatch (show (none : Option Value) = some u from hc))⟩
theorem InM.congr {w : World} {T M : Nat} {m : List (Pt × Value)} {f f' : Pt → List Int} (h : InM w T M m f) (e : ∀ c,f' c = f c) : InM w T M m f' := by
 have : f' = f := funext e
 subst this
 exact h
theorem InM.step {wa wb wc wd : World} {T M : Nat} {m : List (Pt × Value)} {f : Pt → List Int} {c : Pt} {j : Int} {v' : Value} (h : InM wa T M m f) (g1 : wa.grownBy wb (some M))
  (hf : Fate wb wc T 3 1 ((getK m c).getD nilV) v' (f c).length ((f c).map numC) [numC j]) (g2 : wc.grownBy wd (some M)) (hM : MapOf encPt id wd M (putK m c v')) (hMb : ∃ m',MapOf encPt (id : Value → Value) wb M m') (hMc : ∃ m',MapOf encPt (id : Value → Value) wc M m') :
  InM wd T M (putK m c v') (fun d => if d = c then f c ++ [j] else f d) := by
 obtain ⟨mb,hMb⟩ := hMb
 obtain ⟨mc,hMc⟩ := hMc
 have rb : ∀ d v,getK m d = some v → wb.ownsRow T 3 1 v (f d).length ((f d).map numC) := fun d v hd => ownGrown (h.row d v hd) g1 (Or.inr fun e => ownMap (h.row d v hd) h.map e.symm)
 have key : ∀ d v,d ≠ c → getK m d = some v → ∀ r,v.ownBlock = some r → v'.ownBlock ≠ some r := by
  intro d v hd hv r hr
  obtain ⟨-,g,cap,rfl,hh⟩ := hf
  intro e
  simp only [Value.ownBlock,Option.some.injEq] at e
  subst e
  rcases hh with ⟨hu, -⟩ | ⟨hu, -⟩
  ·cases hc : getK m c with
   | none =>
    rw [hc] at hu
    cases hu
   | some u =>
    rw [hc] at hu
    change u = _ at hu
    subst hu
    exact h.sep d c _ _ hd hv hc g hr rfl
  ·have := (own_typed (rb d v hv) hr)
   obtain ⟨cs,hb⟩ := this
   have := hb.lt
   omega
 have rc : ∀ d v,d ≠ c → getK m d = some v → wc.ownsRow T 3 1 v (f d).length ((f d).map numC) := by
  intro d v hd hv
  have k := key d v hd hv
  obtain ⟨-,g,cap,rfl,hh⟩ := hf
  rcases hh with ⟨-,hg⟩ | ⟨-,hg⟩
  ·refine ownGrown (rb d v hv) hg ?_
   cases ho : v.ownBlock with
   | none => exact Or.inl rfl
   | some r =>
    right
    intro e
    exact k r ho e.symm
  ·refine ownGrown (rb d v hv) hg ?_
   cases ho : v.ownBlock with
   | none => exact Or.inl rfl
   | some r =>
    right
    intro e
    cases e
 refine ⟨hM,?_,?_,?_⟩
 ·intro d v hd
  rw [getK_putK] at hd
  by_cases e : d = c
  ·rw [if_pos e] at hd ⊢
   cases hd
   have := hf.1
   have o2 := ownGrown this g2 (Or.inr fun e1 => ownMap this hMc e1.symm)
   rw [List.length_append,List.map_append]
   exact o2
  ·rw [if_neg e] at hd ⊢
   have := rc d v e hd
   exact ownGrown this g2 (Or.inr fun e1 => ownMap this hMc e1.symm)
 ·intro d hd
  rw [getK_putK] at hd
  by_cases e : d = c
  ·rw [if_pos e] at hd
   cases hd
  ·rw [if_neg e] at hd ⊢
   exact h.nil d hd
 ·intro a b u v hab hu hv r hr
  rw [getK_putK] at hu hv
  by_cases ea : a = c
  ·rw [if_pos ea] at hu
   cases hu
   have eb : b ≠ c := fun e => hab (ea.trans e.symm)
   rw [if_neg eb] at hv
   intro e
   exact key b v eb hv r e hr
  ·rw [if_neg ea] at hu
   by_cases eb : b = c
   ·rw [if_pos eb] at hv
    cases hv
    exact key a u ea hu r hr
   ·rw [if_neg eb] at hv
    exact h.sep a b u v hab hu hv r hr
/-! ### the pairs that are keys -/
def Keys (m : List ((Int × Int) × Bool)) (p : Int × Int → Prop) : Prop := (m.map (·.1)).Nodup ∧ ∀ x,x ∈ m.map (·.1) ↔ p x
theorem getK_mem {K V : Type} [DecidableEq K] (m : List (K × V)) (x : K) : x ∈ m.map (·.1) ↔ (getK m x).isSome = true := by
 induction m with
 | nil => simp [getK]
 | cons p m ih =>
  rw [List.map_cons,List.mem_cons]
  unfold getK
  by_cases h : x = p.1
  ·simp [h]
  ·rw [if_neg h,← ih]
   simp [h]
theorem Keys.nil {p : Int × Int → Prop} (h : ∀ x, ¬ p x) : Keys [] p := ⟨List.nodup_nil,fun x => by simp [h x]⟩
theorem Keys.put {m : List ((Int × Int) × Bool)} {p q : Int × Int → Prop} (h : Keys m p) (x : Int × Int) (b : Bool) (hq : ∀ y,q y ↔ p y ∨ y = x) : Keys (putK m x b) q := by
 refine ⟨putK_keys m x b h.1,fun y => ?_⟩
 rw [getK_mem,getK_putK,hq]
 by_cases e : y = x
 ·simp [e]
 ·rw [if_neg e,← getK_mem,h.2]
  simp [e]
theorem Keys.congr {m : List ((Int × Int) × Bool)} {p q : Int × Int → Prop} (h : Keys m p) (hq : ∀ y,q y ↔ p y) : Keys m q := ⟨h.1,fun y => by rw [h.2,hq]⟩
theorem overL_asc (ks : List Knd) (bs : List Brk) (n : Nat) : (overL ks bs n).Pairwise fun x y => ltR x y = true := by
 have inner : ∀ k m,(rowO ks bs k m).Pairwise fun x y => ltR x y = true := by
  intro k m
  unfold rowO
  rw [List.pairwise_map]
  refine List.Pairwise.imp ?_ (List.Pairwise.filter _ List.pairwise_lt_range)
  intro a b hab
  rw [ltR_iff]
  exact Or.inr ⟨rfl,Int.ofNat_lt.2 hab⟩
 unfold overL
 rw [List.pairwise_flatMap]
 refine ⟨fun k _ => inner _ _,?_⟩
 refine List.Pairwise.imp ?_ List.pairwise_lt_range
 intro a b hab x hx y hy
 unfold rowO at hx hy
 obtain ⟨i, -,rfl⟩ := List.mem_map.1 hx
 obtain ⟨j, -,rfl⟩ := List.mem_map.1 hy
 rw [ltR_iff]
 exact Or.inl (Int.ofNat_lt.2 hab)
theorem sortR_keys {ks : List Knd} {bs : List Brk} {m : List ((Int × Int) × Bool)} (h : Keys m (P0 ks bs bs.length)) {l : List (Int × Int)} (hl : l.Perm (m.map (·.1))) : sortR l = overL ks bs bs.length := by
 have hnd : (overL ks bs bs.length).Nodup := (overL_asc ks bs _).imp fun hxy e => by
  subst e
  rw [swoR.irrefl] at hxy
  cases hxy
 have hp : (sortR l).Perm (overL ks bs bs.length) := by
  refine (List.mergeSort_perm _ _).trans (hl.trans ?_)
  exact (List.perm_ext_iff_of_nodup h.1 hnd).2 fun x => by rw [h.2,mem_overL]
 have h1 : (sortR l).Pairwise fun x y => (!ltR y x) = true := List.pairwise_mergeSort (fun a b c h k => by
   rw [Bool.not_eq_true'] at *
   exact swoR.ntrans c b a k h) (fun a b => by
   rw [Bool.or_eq_true,Bool.not_eq_true',Bool.not_eq_true']
   cases e : ltR b a
   ·exact Or.inl rfl
   ·right
    rw [ltR_not]
    rw [ltR_iff] at e
    omega) l
 have h2 : (overL ks bs bs.length).Pairwise fun x y => (!ltR y x) = true := (overL_asc ks bs _).imp fun {a b} e => by
  rw [Bool.not_eq_true',ltR_not]
  rw [ltR_iff] at e
  omega
 refine List.Perm.eq_of_pairwise (le := fun x y => (!ltR y x) = true) ?_ h1 h2 hp
 intro a b _ _ h k
 rw [Bool.not_eq_true'] at h k
 exact ltR_total a b k h
theorem keys_len {ks : List Knd} {bs : List Brk} {m : List ((Int × Int) × Bool)} (h : Keys m (P0 ks bs bs.length)) (hn : bs.length ≤ 40) : m.length ≤ 1600 := by
 have h0 := sortR_keys h (List.Perm.refl _)
 have := congrArg List.length h0
 unfold sortR at this
 rw [List.length_mergeSort,List.length_map] at this
 rw [this]
 exact Nat.le_trans (overL_len ks bs _) (Nat.le_trans (Nat.mul_le_mul hn hn) (by omega))

theorem modelErr_zero {ks : List Knd} {bs : List Brk} (h : modelErr ks bs = 0) : kindsErr ks = 0 ∧ ¬ 40 < bs.length ∧ askedErr ks bs = 0 := by
 have h0 : kindsErr ks = 0 := by
  by_cases h0 : kindsErr ks = 0
  ·exact h0
  ·rw [modelErr_kinds h0] at h
   exact h
 have h1 : ¬ 40 < bs.length := fun h1 => by
  rw [modelErr_many h0 h1] at h
  cases h
 exact ⟨h0,h1,by rw [← modelErr_few h0 h1,h]⟩
theorem prsBad {ks : List Knd} {bs : List Brk} {r : Int} (h : modelErr ks bs = r) (h0 : r ≠ 0) {w w' : World} (E : Ext w w') : PrsRes (ovRes ks bs) (modelErr ks bs) w (.returned (.tuple #[.slice none 0 0,.int .i64 r])) w' := by
 have Ho : ovRes ks bs = [] := by rw [ovRes,if_neg (by rw [h]; exact h0)]
 unfold PrsRes
 rw [Ho,h]
 exact ⟨none,0,rfl,prs_nil _,E⟩
set_option maxHeartbeats 1600000 in
theorem overlapsE_c (qs : List (Knd × KAt)) (QA : Option Addr) (qc : Nat) (bs : List Brk) (B : Option Addr) (cb : Nat) (w : World) (hk : Kinds w QA qc qs) (hb : Bricks w B cb bs) (h0 : modelErr (qs.map (·.1)) bs ≠ 0) :
  Calls Tryz.prog 40 #[.slice QA qs.length qc,.agg #[.slice B bs.length cb]] w (PrsRes (ovRes (qs.map (·.1)) bs) (modelErr (qs.map (·.1)) bs) w) := by
 have hbn : bs.length ≤ 9223372036854775807 := by have := hb.len; unfold maxLen at this; omega
 obtain ⟨W1,hW1,E1,B1,hz1⟩ := mk_ w #[.slice B bs.length cb] 25
 have b1 := B1.cell
 have HE := Lib.hid E1
 clear hz1
 have CK := checkKinds_c qs QA qc W1 (hk.ext E1)
 have CC := Lib.hid (fun W (E : Ext w W) => check_c qs QA qc bs B cb W (hk.ext E) (hb.ext E))
 have HB := Lib.hid (fun (r : Int) (h : modelErr (qs.map (·.1)) bs = r) (h1 : r ≠ 0) W (E : Ext w W) => prsBad (w := w) (w' := W) h h1 E)
 have HK := Lib.hid (fun (r : Int) (h : kindsErr (qs.map (·.1)) = r) (h1 : r ≠ 0) => show modelErr (qs.map (·.1)) bs = r by rw [modelErr_kinds (by rw [h]; exact h1),h])
 have HM := Lib.hid (fun (h : kindsErr (qs.map (·.1)) = 0) (h1 : 40 < bs.length) => modelErr_many (bs := bs) h h1)
 have HF := Lib.hid (fun (h : kindsErr (qs.map (·.1)) = 0) (h1 : ¬ 40 < bs.length) => modelErr_few (bs := bs) h h1)
 have H0 := Lib.hid h0
 clear hk hb h0
 obtain ⟨G,hG⟩ : ∃ G : Ending → World → Prop,PrsRes (ovRes (qs.map (·.1)) bs) (modelErr (qs.map (·.1)) bs) w = G := ⟨_,rfl⟩
 rw [hG] at HB ⊢
 clear hG
 obtain ⟨r,hr⟩ : ∃ r,kindsErr (qs.map (·.1)) = r := ⟨_,rfl⟩
 rw [hr] at CK HM HF
 by_cases hr0 : r = 0
 ·subst hr0
  by_cases hm : 40 < bs.length
  ·have Hm := Lib.hid (HM.out rfl hm)
   have hm' : (40 : Int) < bs.length := by omega
   clear hm hr HK HF
   go_enter Tryz.func40,Tryz.ntmps40
   go_wp2_with fail
   refine CK.mono ?_
   rintro e W2 ⟨rfl,E2⟩
   have b2 := (B1.ext E2).cell
   go_wp2_with fail
   exact HB.out 4 Hm.out (by decide) _ (HE.out.trans E2)
  ·have Hm := Lib.hid (HF.out rfl hm)
   obtain ⟨s,hs⟩ : ∃ s,askedErr (qs.map (·.1)) bs = s := ⟨_,rfl⟩
   rw [hs] at CC Hm
   have hs0 : s ≠ 0 := by
    rintro rfl
    exact H0.out Hm.out
   have Hs0 := Lib.hid hs0
   have hm' : ¬ (40 : Int) < bs.length := by omega
   have hs1 : (s != 0) = true := by simpa using hs0
   clear hm hr hs HK HF hs0
   go_enter Tryz.func40,Tryz.ntmps40
   go_wp2_with fail
   refine CK.mono ?_
   rintro e W2 ⟨rfl,E2⟩
   have b2 := (B1.ext E2).cell
   go_wp2_with fail
   refine (CC.out _ (HE.out.trans E2)).mono ?_
   rintro e W3 ⟨rfl,E3⟩
   go_wp2_with fail
   exact HB.out _ Hm.out Hs0.out _ ((HE.out.trans E2).trans E3)
 ·have Hr := Lib.hid (HK.out r hr hr0)
  have Hr0 := Lib.hid hr0
  have h1 : (r != 0) = true := by simpa using hr0
  clear hr hr0 HM HF
  go_enter Tryz.func40,Tryz.ntmps40
  go_wp2_with fail
  refine CK.mono ?_
  rintro e W2 ⟨rfl,E2⟩
  go_wp2_with fail
  exact HB.out _ Hr.out Hr0.out _ (HE.out.trans E2)
end Go.Proofs.YtjacbhomhjoolaaGreat
