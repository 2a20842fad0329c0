
/- Contracts of the shelf, laid at this program in plain declarations (written by program): slices.SortFunc[[]studwork/api.Link,studwork/api.Link]. slices.SortFunc on links, by the program's comparison: the row holds the links, sorted. slices.SortFunc on no links. -/
import Derived.Shelf.SlLaysF0
import Derived.Test.YtjacbhomhjoolaaGreatProg
import Derived.Test.YtjacbhomhjoolaaGreatBSort
import Derived.Test.YtjacbhomhjoolaaGreatBLinkS
namespace Go.Proofs.YtjacbhomhjoolaaGreat
open Go.Shelf

def sortLinks_ren : Go.Shelf.Ren := ⟨fun | 6 => 78 | 15 => 103 | 14 => 110 | 28 => 131 | 29 => 132 | 20 => 133 | 21 => 134 | 22 => 135 | 23 => 136 | 24 => 137 | 25 => 138 | 26 => 139 | 27 => 140 | 46 => 162 | 47 => 158 | 48 => 159 | 49 => 163 | 50 => 164 | 57 => 177 | n => n,fun | 22 => 33 | 24 => 95 | 25 => 162 | 3 => 3 | 39 => 191 | 0 => 0 | 53 => 211 | 55 => 213 | 4 => 4 | 46 => 205 | 45 => 204 | 50 => 135 | 5 => 5 | 9 => 9 | 66 => 228 | 70 => 232 | 76 => 243 | 77 => 82 | n => n,fun | n => n⟩
theorem sortLinks : SlLaysF0.n6 Tryz.prog sortLinks_ren := {
 mixed := by kernel_rfl,
 f6 := ⟨Tryz.f78.name,by decide,Tryz.func78.trans (congrArg some (by kernel_rfl))⟩,
 f14 := ⟨Tryz.f110.name,by decide,Tryz.func110.trans (congrArg some (by kernel_rfl))⟩,
 f15 := Tryz.func103.trans (congrArg some (by kernel_rfl)),
 f20 := ⟨Tryz.f133.name,by decide,Tryz.func133.trans (congrArg some (by kernel_rfl))⟩,
 f21 := ⟨Tryz.f134.name,by decide,Tryz.func134.trans (congrArg some (by kernel_rfl))⟩,
 f22 := ⟨Tryz.f135.name,by decide,Tryz.func135.trans (congrArg some (by kernel_rfl))⟩,
 f23 := ⟨Tryz.f136.name,by decide,Tryz.func136.trans (congrArg some (by kernel_rfl))⟩,
 f24 := ⟨Tryz.f137.name,by decide,Tryz.func137.trans (congrArg some (by kernel_rfl))⟩,
 f25 := ⟨Tryz.f138.name,by decide,Tryz.func138.trans (congrArg some (by kernel_rfl))⟩,
 f26 := ⟨Tryz.f139.name,by decide,Tryz.func139.trans (congrArg some (by kernel_rfl))⟩,
 f27 := ⟨Tryz.f140.name,by decide,Tryz.func140.trans (congrArg some (by kernel_rfl))⟩,
 f28 := Tryz.func131.trans (congrArg some (by kernel_rfl)),
 f29 := Tryz.func132.trans (congrArg some (by kernel_rfl)),
 f46 := ⟨Tryz.f162.name,by decide,Tryz.func162.trans (congrArg some (by kernel_rfl))⟩,
 f47 := Tryz.func158.trans (congrArg some (by kernel_rfl)),
 f48 := Tryz.func159.trans (congrArg some (by kernel_rfl)),
 f49 := ⟨Tryz.f163.name,by decide,Tryz.func163.trans (congrArg some (by kernel_rfl))⟩,
 f50 := ⟨Tryz.f164.name,by decide,Tryz.func164.trans (congrArg some (by kernel_rfl))⟩,
 f57 := ⟨Tryz.f177.name,by decide,Tryz.func177.trans (congrArg some (by kernel_rfl))⟩,
 t0 := Tryz.underlying0,
 a0 := Tryz.isAgg0,
 z0 := Tryz.sizeOf0,
 v0 := Tryz.zeroValue0,
 t3 := Tryz.underlying3,
 a3 := Tryz.isAgg3,
 z3 := Tryz.sizeOf3,
 v3 := Tryz.zeroValue3,
 t4 := Tryz.underlying4,
 a4 := Tryz.isAgg4,
 z4 := Tryz.sizeOf4,
 v4 := Tryz.zeroValue4,
 t5 := Tryz.underlying5,
 a5 := Tryz.isAgg5,
 z5 := Tryz.sizeOf5,
 v5 := Tryz.zeroValue5,
 t9 := Tryz.underlying9,
 a9 := Tryz.isAgg9,
 z9 := Tryz.sizeOf9,
 v9 := Tryz.zeroValue9,
 t22 := Tryz.underlying33,
 a22 := Tryz.isAgg33,
 z22 := Tryz.sizeOf33,
 v22 := Tryz.zeroValue33,
 t25 := Tryz.underlying162,
 a25 := Tryz.isAgg162,
 z25 := Tryz.sizeOf162,
 v25 := Tryz.zeroValue162,
 t39 := Tryz.underlying191,
 a39 := Tryz.isAgg191,
 z39 := Tryz.sizeOf191,
 v39 := Tryz.zeroValue191,
 t45 := Tryz.underlying204,
 a45 := Tryz.isAgg204,
 z45 := Tryz.sizeOf204,
 v45 := Tryz.zeroValue204,
 t46 := Tryz.underlying205,
 a46 := Tryz.isAgg205,
 z46 := Tryz.sizeOf205,
 v46 := Tryz.zeroValue205,
 t50 := Tryz.underlying135,
 a50 := Tryz.isAgg135,
 z50 := Tryz.sizeOf135,
 v50 := Tryz.zeroValue135,
 t53 := Tryz.underlying211,
 a53 := Tryz.isAgg211,
 z53 := Tryz.sizeOf211,
 v53 := Tryz.zeroValue211,
 t55 := Tryz.underlying213,
 a55 := Tryz.isAgg213,
 z55 := Tryz.sizeOf213,
 v55 := Tryz.zeroValue213,
 t66 := Tryz.underlying228,
 a66 := Tryz.isAgg228,
 z66 := Tryz.sizeOf228,
 v66 := Tryz.zeroValue228,
 t70 := Tryz.underlying232,
 a70 := Tryz.isAgg232,
 z70 := Tryz.sizeOf232,
 v70 := Tryz.zeroValue232,
 t76 := Tryz.underlying243,
 a76 := Tryz.isAgg243,
 z76 := Tryz.sizeOf243,
 v76 := Tryz.zeroValue243,
 t77 := Tryz.underlying82,
 a77 := Tryz.isAgg82,
 z77 := Tryz.sizeOf82,
 v77 := Tryz.zeroValue82 }
end Go.Proofs.YtjacbhomhjoolaaGreat
namespace Go.Proofs.YtjacbhomhjoolaaGreat
open Go.RowKit

instance : Inhabited Lnk := ⟨⟨0,0,0,0,0⟩⟩
def ordK (x y : Lnk) : Int := orL [ordZ x.a y.a,ordZ x.b y.b,ordZ x.knob y.knob]
theorem ordK_neg (x y : Lnk) : ordK x y < 0 ↔ ltK x y = true := by
 rw [ltK_iff]
 unfold ordK orL ordZ
 simp only [orL]
 repeat' split
 all_goals (first | omega | (simp only [orL]; repeat' split) <;> omega)
theorem ltOf_ordK : ltOf ordK = ltK := by
 funext x y
 unfold ltOf
 rw [Bool.eq_iff_iff,decide_eq_true_eq,ordK_neg]
theorem swoK : Go.Sort.SWO ltK where
 irrefl x := by rw [ltK_not]; omega
 trans x y z h k := by rw [ltK_iff] at *; omega
 ntrans x y z h k := by rw [ltK_not] at *; omega
set_option maxHeartbeats 1600000 in
theorem lessK_g (x y : Lnk) (w : World) :
  Calls Tryz.prog 79 #[.agg #[.int .i64 x.a,.int .i64 x.b,.int .i64 x.knob,.int .i64 x.other,.int .u8 x.sort],.agg #[.int .i64 y.a,.int .i64 y.b,.int .i64 y.knob,.int .i64 y.other,.int .u8 y.sort]] w fun v w' => v = .returned (.int .i64 (ordK x y)) ∧ Grn w w' := by
 obtain ⟨a,b,c,d,s⟩ := x
 obtain ⟨a',b',c',d',s'⟩ := y
 have hG := ((Grn.refl w).alloc (.cells #[.int .i64 a,.int .i64 b,.int .i64 c,.int .i64 d,.int .u8 s] 95)).alloc (.cells #[.int .i64 a',.int .i64 b',.int .i64 c',.int .i64 d',.int .u8 s'] 95)
 obtain ⟨W1,hW1,E1,B1,hz1⟩ := mk_ w #[.int .i64 a,.int .i64 b,.int .i64 c,.int .i64 d,.int .u8 s] 95
 obtain ⟨W2,hW2,E2,B2,hz2⟩ := mk_ W1 #[.int .i64 a',.int .i64 b',.int .i64 c',.int .i64 d',.int .u8 s'] 95
 rw [hW1,hW2] at hG
 have B1' := B1.ext E2
 rw [hz1] at B2
 have a0 := Go.cell_grown B1'.lt (B1'.cell 0)
 have a1 := Go.cell_grown B1'.lt (B1'.cell 1)
 have a2 := Go.cell_grown B1'.lt (B1'.cell 2)
 have c0 := Go.cell_grown B2.lt (B2.cell 0)
 have c1 := Go.cell_grown B2.lt (B2.cell 1)
 have c2 := Go.cell_grown B2.lt (B2.cell 2)
 go_enter Tryz.func79,Tryz.ntmps79
 go_upto_region 1 with (fail)
 clear hW1 hW2 hz1 hz2 B1 E1 E2 B1' B2
 refine wp_region_tailG 15 (by kernel_rfl) (by kernel_rfl) ?_
 simp only [List.take_succ_cons,List.take_zero,List.drop_succ_cons,List.drop_zero]
 repeat (go_big_quiet_step ((go_at_call 80; exact (cmpZ_c _ _ _).mono fun _ _ ⟨he,hw⟩ => ⟨he,_,hw.symm⟩)))
 refine wpQuiet_nil ?_
 intro W3 hW3
 have hG3 : Grn w W3 := by
  obtain ⟨p,rfl⟩ := hW3
  exact hG.trans ⟨p.n,p.os,rfl⟩
 clear hW3 hG a0 a1 a2 c0 c1 c2
 go_wp2_with fail
 refine (or3_c _ _ _ _ _).mono ?_
 rintro v w4 ⟨rfl,rfl⟩
 go_wp2_with fail
 go_ret
 exact ⟨rfl,hG3.alloc _⟩
theorem flatK_lnk (l : List Lnk) : Go.Sort.flatK Lnk.cs 5 l.toArray = rowsA (l.map Lnk.cs) := by
 refine rowsA_ext (lnk_wide l) (by simp) fun i j r u hr hu => ?_
 rw [List.getElem?_map] at hr
 obtain ⟨p,hp,rfl⟩ := Option.map_eq_some_iff.1 hr
 obtain ⟨hi,hpi⟩ := List.getElem?_eq_some_iff.1 hp
 have hj : j < 5 := (List.getElem?_eq_some_iff.1 hu).1
 have hlt : i * 5 + j < l.toArray.size * 5 := by simp; omega
 rw [Array.getElem?_eq_getElem (by simpa using hlt),← getElem!_pos,Go.Sort.get_flatK _ _ _ _ hlt,show (i * 5 + j) / 5 = i by omega,show (i * 5 + j) % 5 = j by omega,getElem!_pos l.toArray i (by simpa using hi)]
 have e1 : l.toArray[i]'(by simpa using hi) = p := by simpa using hpi
 rw [e1,← hu]
 rw [List.getElem!_eq_getElem?_getD,hu]
 rfl
theorem putLnk {w : World} {g n : Nat} {os : Array Obj} {l l' : List Lnk} {t : TypeId} (hl : l'.length = l.length) (hb : RowX w g t (l.map Lnk.cs)) :
  RowX (sortWorldK Lnk.cs 5 w g 0 n l'.toArray os) g t (l'.map Lnk.cs) ∧ w.grownBy (sortWorldK Lnk.cs 5 w g 0 n l'.toArray os) (some g) := by
 obtain ⟨ex,hb⟩ := hb
 have hg := hb.lt
 constructor
 ·refine ⟨ex,?_⟩
  unfold sortWorldK Go.Sort.putRowK
  rw [flatK_lnk]
  show (Go.Sort.grow _ _).heap[g]? = _
  rw [Go.Sort.heap_grow_old _ _ (by simpa using hg)]
  have hb' : w.heap[g]? = some (.cells (rowsA (l.map Lnk.cs) ++ ex) t (0,0)) := hb
  have hs : (rowsA (l'.map Lnk.cs)).size = (rowsA (l.map Lnk.cs)).size := by rw [rowsA_size (lnk_wide l),rowsA_size (lnk_wide l')]; simp [hl]
  have e : Go.Sort.putCells id 0 (rowsA (l'.map Lnk.cs)) (rowsA (l.map Lnk.cs) ++ ex) = rowsA (l'.map Lnk.cs) ++ ex := by
   apply Array.ext_getElem?
   intro k
   rcases Nat.lt_or_ge k (rowsA (l.map Lnk.cs)).size with hk | hk
   ·have hk' : k < (rowsA (l'.map Lnk.cs)).size := by omega
    rw [Array.getElem?_append_left hk']
    have : k < (rowsA (l.map Lnk.cs) ++ ex).size := by simp; omega
    simp [Go.Sort.putCells,hk']
    exact ⟨_,Array.getElem?_eq_getElem this⟩
   ·rw [Array.getElem?_append_right (by omega),hs]
    rcases Nat.lt_or_ge k (rowsA (l.map Lnk.cs) ++ ex).size with h2 | h2
    ·have h3 : ¬ k < (rowsA (l'.map Lnk.cs)).size := by omega
     have h4 : (rowsA (l.map Lnk.cs) ++ ex)[k]? = ex[k - (rowsA (l.map Lnk.cs)).size]? := Array.getElem?_append_right hk
     rw [← h4]
     simp [Go.Sort.putCells,h3]
    ·rw [Array.getElem?_eq_none (by simpa [Go.Sort.putCells] using h2),Array.getElem?_eq_none (by simp at h2; omega)]
  simp [Go.Sort.putRow,Go.Sort.mapBlock,Go.Sort.ahead,Array.getElem?_modify,hb',Go.Sort.onCells,e]
 ·refine ⟨rfl,rfl,rfl,by simp [sortWorldK,Go.Sort.putRowK],fun k hk hne => ?_⟩
  unfold sortWorldK Go.Sort.putRowK
  rw [Go.Sort.heap_grow_old _ _ (by simpa using hk)]
  have : g ≠ k := fun e => hne (by rw [e])
  simp [Go.Sort.putRow,Go.Sort.mapBlock,Go.Sort.ahead,Array.getElem?_modify,this]
theorem sortK_c (l : List Lnk) (g cap : Nat) (w : World) (hB : RowX w g 95 (l.map Lnk.cs)) (hn : l.length ≤ 100000) :
  Calls Tryz.prog 78 #[.slice (some ⟨g,0,none⟩) l.length cap,.func (.func 79) #[] #[]] w fun e w' => e = .returned (.tuple #[]) ∧ ∃ l' : List Lnk,l'.Perm l ∧ (l'.Pairwise fun x y => ltK y x = false) ∧ RowX w' g 95 (l'.map Lnk.cs) ∧ w.grownBy w' (some g) := by
 have hH : Go.Sort.HoldsK Lnk.cs 5 w g 0 l.toArray := by
  obtain ⟨ex,hb⟩ := hB
  unfold Go.Sort.HoldsK
  rw [flatK_lnk]
  intro j hj
  refine ⟨?_,by rw [Nat.zero_add]; exact hb.frozen j⟩
  rw [Nat.zero_add,hb.cell,Array.getElem?_append_left hj,Array.getElem?_eq_getElem hj,getElem!_pos (rowsA (l.map Lnk.cs)) j hj]
  rfl
 have hcmp : CmpLays Tryz.prog 79 #[] Lnk.cs 5 ordK g 0 l.toArray.size w := fun m os dk _ x y => (lessK_g x y _).mono fun _ _ ⟨he,q,os',hw⟩ => ⟨he,q,os',hw⟩
 have h := AnyQ.slices_SortFunc sortLinks 5 Tryz.isAgg95 Tryz.sizeOf95 Lnk.cs (fun _ => rfl) (fun x v hv => by
   simp only [Lnk.cs,List.mem_cons,List.not_mem_nil,or_false] at hv
   rcases hv with rfl | rfl | rfl | rfl | rfl <;> rfl) ordK (by rw [ltOf_ordK]; exact swoK) 79 #[] g 0 cap l.toArray w (enters_of Tryz.func79 (by kernel_rfl) rfl) hcmp hH hB.lt (by simp; omega)
 rw [ltOf_ordK] at h
 refine (show Calls Tryz.prog 78 _ _ _ from h).mono ?_
 rintro e w' ⟨rfl,d',n,os,hp,hs,rfl⟩
 obtain ⟨hsz,_,hperm⟩ := hp
 have e1 : d'.extract 0 l.toArray.size = d' := by rw [← hsz]; exact Array.extract_size
 rw [e1,Array.extract_size] at hperm
 have hperm' : d'.toList.Perm l := by simpa using hperm
 refine ⟨rfl,d'.toList,hperm',?_,putLnk (by simpa using hperm'.length_eq) hB⟩
 rw [List.pairwise_iff_getElem]
 intro i j hi hj hij
 have hi' : i < d'.size := by simpa using hi
 have hj' : j < d'.size := by simpa using hj
 have := hs i j (by omega) hij (by omega)
 simpa [getElem!_pos d' i hi',getElem!_pos d' j hj'] using this

theorem insNilK (v : Value) (w : World) : Calls Tryz.prog 133 #[.slice none 0 0,.int .i64 0,.int .i64 0,v] w fun e w' => e = .returned (.tuple #[]) ∧ w = w' := by
 go_enter Tryz.func133,Tryz.ntmps133
 go_wp2_with fail
 go_loopw [8] (fun i wr => i = .int .i64 1 ∧ wr = w) (fun _ _ => 0)
 case atStart => exact ⟨rfl,rfl⟩
 case round =>
  obtain ⟨rfl,rfl⟩ := hrel
  go_wp2_with fail
  go_end0
  exact ⟨rfl,rfl⟩
set_option maxRecDepth 100000 in
theorem pdqNilK (v : Value) (w : World) : Calls Tryz.prog 110 #[.slice none 0 0,.int .i64 0,.int .i64 0,.int .i64 0,v] w fun e w' => e = .returned (.tuple #[]) ∧ w = w' := by
 go_enter Tryz.func110,Tryz.ntmps110
 go_wp2_with fail
 go_loopw [1,2] (fun a b wr => a = .int .i64 0 ∧ b = .int .i64 0 ∧ wr = w) (fun _ _ _ => 0)
 case atStart => exact ⟨rfl,rfl,rfl⟩
 case round =>
  obtain ⟨rfl,rfl,rfl⟩ := hrel
  go_wp2_with fail
  refine (insNilK v wr).mono ?_
  rintro e w1 ⟨rfl,rfl⟩
  go_wp2_with fail
  exact bodyPost_ret (v := .tuple #[]) (results_none rfl _ _ _) rfl ⟨rfl,rfl⟩
theorem sortNilK_c (v : Value) (w : World) : Calls Tryz.prog 78 #[.slice none 0 0,v] w fun e w' => e = .returned (.tuple #[]) ∧ w = w' := by
 have hl := Any.bits_Len (SlLaysF0.n15.bits (P := Tryz.prog) (ρ := sortLinks_ren) { sortLinks with }) 0 w (by omega) (by omega)
 go_enter Tryz.func78,Tryz.ntmps78
 have hl' : Calls Tryz.prog 103 #[.int .u64 0] w fun e w' => e = .returned (.int .i64 0) ∧ w' = w := hl
 clear hl
 go_wp2_with fail
 refine hl'.mono ?_
 rintro e w1 ⟨rfl,rfl⟩
 go_wp2_with fail
 refine (pdqNilK v w1).mono ?_
 rintro e w2 ⟨rfl,rfl⟩
 go_wp2_with fail
 go_end0
 exact ⟨rfl,rfl⟩
end Go.Proofs.YtjacbhomhjoolaaGreat
