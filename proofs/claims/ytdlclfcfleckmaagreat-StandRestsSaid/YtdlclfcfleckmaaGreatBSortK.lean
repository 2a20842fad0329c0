/- Contracts of the shelf, laid at this program in plain declarations (written by program): slices.SortFunc[[]studwork/api.Link,studwork/api.Link]. slices.SortFunc on links, by the program's comparison: the row holds the links, sorted. slices.SortFunc on no links. -/
import Derived.Shelf.SlLaysF0
import Derived.Test.YtdlclfcfleckmaaGreatProg
import Derived.Test.YtdlclfcfleckmaaGreatBSort
import Derived.Test.YtdlclfcfleckmaaGreatBLinkS
namespace Go.Proofs.YtdlclfcfleckmaaGreat
open Go.Shelf

def sortLinks_ren : Go.Shelf.Ren := ⟨fun | 6 => 173 | 15 => 149 | 14 => 201 | 28 => 185 | 29 => 186 | 20 => 228 | 21 => 229 | 22 => 230 | 23 => 231 | 24 => 232 | 25 => 233 | 26 => 234 | 27 => 235 | 46 => 244 | 47 => 203 | 48 => 204 | 49 => 245 | 50 => 246 | 57 => 249 | n => n, fun | 22 => 186 | 24 => 190 | 25 => 261 | 3 => 3 | 39 => 239 | 0 => 0 | 53 => 271 | 55 => 75 | 4 => 4 | 46 => 265 | 45 => 264 | 50 => 125 | 5 => 5 | 9 => 9 | 66 => 283 | 70 => 287 | 76 => 308 | 77 => 41 | n => n, fun | n => n⟩
theorem sortLinks : SlLaysF0.n6 Tryz.prog sortLinks_ren := {
  mixed := by kernel_rfl,
  f6 := ⟨Tryz.f173.name, by decide, Tryz.func173.trans (congrArg some (by kernel_rfl))⟩,
  f14 := ⟨Tryz.f201.name, by decide, Tryz.func201.trans (congrArg some (by kernel_rfl))⟩,
  f15 := Tryz.func149.trans (congrArg some (by kernel_rfl)),
  f20 := ⟨Tryz.f228.name, by decide, Tryz.func228.trans (congrArg some (by kernel_rfl))⟩,
  f21 := ⟨Tryz.f229.name, by decide, Tryz.func229.trans (congrArg some (by kernel_rfl))⟩,
  f22 := ⟨Tryz.f230.name, by decide, Tryz.func230.trans (congrArg some (by kernel_rfl))⟩,
  f23 := ⟨Tryz.f231.name, by decide, Tryz.func231.trans (congrArg some (by kernel_rfl))⟩,
  f24 := ⟨Tryz.f232.name, by decide, Tryz.func232.trans (congrArg some (by kernel_rfl))⟩,
  f25 := ⟨Tryz.f233.name, by decide, Tryz.func233.trans (congrArg some (by kernel_rfl))⟩,
  f26 := ⟨Tryz.f234.name, by decide, Tryz.func234.trans (congrArg some (by kernel_rfl))⟩,
  f27 := ⟨Tryz.f235.name, by decide, Tryz.func235.trans (congrArg some (by kernel_rfl))⟩,
  f28 := Tryz.func185.trans (congrArg some (by kernel_rfl)),
  f29 := Tryz.func186.trans (congrArg some (by kernel_rfl)),
  f46 := ⟨Tryz.f244.name, by decide, Tryz.func244.trans (congrArg some (by kernel_rfl))⟩,
  f47 := Tryz.func203.trans (congrArg some (by kernel_rfl)),
  f48 := Tryz.func204.trans (congrArg some (by kernel_rfl)),
  f49 := ⟨Tryz.f245.name, by decide, Tryz.func245.trans (congrArg some (by kernel_rfl))⟩,
  f50 := ⟨Tryz.f246.name, by decide, Tryz.func246.trans (congrArg some (by kernel_rfl))⟩,
  f57 := ⟨Tryz.f249.name, by decide, Tryz.func249.trans (congrArg some (by kernel_rfl))⟩,
  t0 := Tryz.underlying0,
  a0 := Tryz.isAgg0,
  z0 := Tryz.sizeOf0,
  v0 := Tryz.zeroValue0,
  t3 := Tryz.underlying3,
  a3 := Tryz.isAgg3,
  z3 := Tryz.sizeOf3,
  v3 := Tryz.zeroValue3,
  t4 := Tryz.underlying4,
  a4 := Tryz.isAgg4,
  z4 := Tryz.sizeOf4,
  v4 := Tryz.zeroValue4,
  t5 := Tryz.underlying5,
  a5 := Tryz.isAgg5,
  z5 := Tryz.sizeOf5,
  v5 := Tryz.zeroValue5,
  t9 := Tryz.underlying9,
  a9 := Tryz.isAgg9,
  z9 := Tryz.sizeOf9,
  v9 := Tryz.zeroValue9,
  t22 := Tryz.underlying186,
  a22 := Tryz.isAgg186,
  z22 := Tryz.sizeOf186,
  v22 := Tryz.zeroValue186,
  t25 := Tryz.underlying261,
  a25 := Tryz.isAgg261,
  z25 := Tryz.sizeOf261,
  v25 := Tryz.zeroValue261,
  t39 := Tryz.underlying239,
  a39 := Tryz.isAgg239,
  z39 := Tryz.sizeOf239,
  v39 := Tryz.zeroValue239,
  t45 := Tryz.underlying264,
  a45 := Tryz.isAgg264,
  z45 := Tryz.sizeOf264,
  v45 := Tryz.zeroValue264,
  t46 := Tryz.underlying265,
  a46 := Tryz.isAgg265,
  z46 := Tryz.sizeOf265,
  v46 := Tryz.zeroValue265,
  t50 := Tryz.underlying125,
  a50 := Tryz.isAgg125,
  z50 := Tryz.sizeOf125,
  v50 := Tryz.zeroValue125,
  t53 := Tryz.underlying271,
  a53 := Tryz.isAgg271,
  z53 := Tryz.sizeOf271,
  v53 := Tryz.zeroValue271,
  t55 := Tryz.underlying75,
  a55 := Tryz.isAgg75,
  z55 := Tryz.sizeOf75,
  v55 := Tryz.zeroValue75,
  t66 := Tryz.underlying283,
  a66 := Tryz.isAgg283,
  z66 := Tryz.sizeOf283,
  v66 := Tryz.zeroValue283,
  t70 := Tryz.underlying287,
  a70 := Tryz.isAgg287,
  z70 := Tryz.sizeOf287,
  v70 := Tryz.zeroValue287,
  t76 := Tryz.underlying308,
  a76 := Tryz.isAgg308,
  z76 := Tryz.sizeOf308,
  v76 := Tryz.zeroValue308,
  t77 := Tryz.underlying41,
  a77 := Tryz.isAgg41,
  z77 := Tryz.sizeOf41,
  v77 := Tryz.zeroValue41 }
end Go.Proofs.YtdlclfcfleckmaaGreat
namespace Go.Proofs.YtdlclfcfleckmaaGreat
open Go.RowKit

instance : Inhabited Lnk := ⟨⟨0, 0, 0, 0, 0⟩⟩
def ordK (x y : Lnk) : Int := orL [ordZ x.a y.a, ordZ x.b y.b, ordZ x.knob y.knob]
theorem ordK_neg (x y : Lnk) : ordK x y < 0 ↔ ltK x y = true := by
  rw [ltK_iff]
  unfold ordK orL ordZ
  simp only [orL]
  repeat' split
  all_goals (first | omega | (simp only [orL]; repeat' split) <;> omega)
theorem ltOf_ordK : ltOf ordK = ltK := by
  funext x y
  unfold ltOf
  rw [Bool.eq_iff_iff, decide_eq_true_eq, ordK_neg]
theorem swoK : Go.Sort.SWO ltK where
  irrefl x := by rw [ltK_not]; omega
  trans x y z h k := by rw [ltK_iff] at *; omega
  ntrans x y z h k := by rw [ltK_not] at *; omega
set_option maxHeartbeats 1600000 in
theorem lessK_g (x y : Lnk) (w : World) :
    Calls Tryz.prog 174 #[.agg #[.int .i64 x.a, .int .i64 x.b, .int .i64 x.knob, .int .i64 x.other, .int .u8 x.sort], .agg #[.int .i64 y.a, .int .i64 y.b, .int .i64 y.knob, .int .i64 y.other, .int .u8 y.sort]] w fun v w' => v = .returned (.int .i64 (ordK x y)) ∧ Grn w w' := by
  obtain ⟨a, b, c, d, s⟩ := x
  obtain ⟨a', b', c', d', s'⟩ := y
  have hG := ((Grn.refl w).alloc (.cells #[.int .i64 a, .int .i64 b, .int .i64 c, .int .i64 d, .int .u8 s] 190)).alloc (.cells #[.int .i64 a', .int .i64 b', .int .i64 c', .int .i64 d', .int .u8 s'] 190)
  obtain ⟨W1, hW1, E1, B1, hz1⟩ := mk_ w #[.int .i64 a, .int .i64 b, .int .i64 c, .int .i64 d, .int .u8 s] 190
  obtain ⟨W2, hW2, E2, B2, hz2⟩ := mk_ W1 #[.int .i64 a', .int .i64 b', .int .i64 c', .int .i64 d', .int .u8 s'] 190
  rw [hW1, hW2] at hG
  have B1' := B1.ext E2
  rw [hz1] at B2
  have a0 := Go.cell_grown B1'.lt (B1'.cell 0)
  have a1 := Go.cell_grown B1'.lt (B1'.cell 1)
  have a2 := Go.cell_grown B1'.lt (B1'.cell 2)
  have c0 := Go.cell_grown B2.lt (B2.cell 0)
  have c1 := Go.cell_grown B2.lt (B2.cell 1)
  have c2 := Go.cell_grown B2.lt (B2.cell 2)
  go_enter Tryz.func174, Tryz.ntmps174
  go_upto_region 1 with (fail)
  clear hW1 hW2 hz1 hz2 B1 E1 E2 B1' B2
  refine wp_region_tailG 15 (by kernel_rfl) (by kernel_rfl) ?_
  simp only [List.take_succ_cons, List.take_zero, List.drop_succ_cons, List.drop_zero]
  repeat (go_big_quiet_step ((go_at_call 103; exact (cmpZ_c _ _ _).mono fun _ _ ⟨he, hw⟩ => ⟨he, _, hw.symm⟩)))
  refine wpQuiet_nil ?_
  intro W3 hW3
  have hG3 : Grn w W3 := by
    obtain ⟨p, rfl⟩ := hW3
    exact hG.trans ⟨p.n, p.os, rfl⟩
  clear hW3 hG a0 a1 a2 c0 c1 c2
  go_wp2_with fail
  refine (or3_c _ _ _ _ _).mono ?_
  rintro v w4 ⟨rfl, rfl⟩
  go_wp2_with fail
  go_ret
  exact ⟨rfl, hG3.alloc _⟩
theorem flatK_lnk (l : List Lnk) : Go.Sort.flatK Lnk.cs 5 l.toArray = rowsA (l.map Lnk.cs) := by
  refine rowsA_ext (lnk_wide l) (by simp) fun i j r u hr hu => ?_
  rw [List.getElem?_map] at hr
  obtain ⟨p, hp, rfl⟩ := Option.map_eq_some_iff.1 hr
  obtain ⟨hi, hpi⟩ := List.getElem?_eq_some_iff.1 hp
  have hj : j < 5 := (List.getElem?_eq_some_iff.1 hu).1
  have hlt : i * 5 + j < l.toArray.size * 5 := by simp; omega
  rw [Array.getElem?_eq_getElem (by simpa using hlt), ← getElem!_pos, Go.Sort.get_flatK _ _ _ _ hlt, show (i * 5 + j) / 5 = i by omega, show (i * 5 + j) % 5 = j by omega, getElem!_pos l.toArray i (by simpa using hi)]
  have e1 : l.toArray[i]'(by simpa using hi) = p := by simpa using hpi
  rw [e1, ← hu]
  rw [List.getElem!_eq_getElem?_getD, hu]
  rfl
theorem putLnk {w : World} {g n : Nat} {os : Array Obj} {l l' : List Lnk} {t : TypeId} (hl : l'.length = l.length) (hb : RowX w g t (l.map Lnk.cs)) :
    RowX (sortWorldK Lnk.cs 5 w g 0 n l'.toArray os) g t (l'.map Lnk.cs) ∧ w.grownBy (sortWorldK Lnk.cs 5 w g 0 n l'.toArray os) (some g) := by
  obtain ⟨ex, hb⟩ := hb
  have hg := hb.lt
  constructor
  · refine ⟨ex, ?_⟩
    unfold sortWorldK Go.Sort.putRowK
    rw [flatK_lnk]
    show (Go.Sort.grow _ _).heap[g]? = _
    rw [Go.Sort.heap_grow_old _ _ (by simpa using hg)]
    have hb' : w.heap[g]? = some (.cells (rowsA (l.map Lnk.cs) ++ ex) t (0, 0)) := hb
    have hs : (rowsA (l'.map Lnk.cs)).size = (rowsA (l.map Lnk.cs)).size := by rw [rowsA_size (lnk_wide l), rowsA_size (lnk_wide l')]; simp [hl]
    have e : Go.Sort.putCells id 0 (rowsA (l'.map Lnk.cs)) (rowsA (l.map Lnk.cs) ++ ex) = rowsA (l'.map Lnk.cs) ++ ex := by
      apply Array.ext_getElem?
      intro k
      rcases Nat.lt_or_ge k (rowsA (l.map Lnk.cs)).size with hk | hk
      · have hk' : k < (rowsA (l'.map Lnk.cs)).size := by omega
        rw [Array.getElem?_append_left hk']
        have : k < (rowsA (l.map Lnk.cs) ++ ex).size := by simp; omega
        simp [Go.Sort.putCells, hk']
        exact ⟨_, Array.getElem?_eq_getElem this⟩
      · rw [Array.getElem?_append_right (by omega), hs]
        rcases Nat.lt_or_ge k (rowsA (l.map Lnk.cs) ++ ex).size with h2 | h2
        · have h3 : ¬ k < (rowsA (l'.map Lnk.cs)).size := by omega
          have h4 : (rowsA (l.map Lnk.cs) ++ ex)[k]? = ex[k - (rowsA (l.map Lnk.cs)).size]? := Array.getElem?_append_right hk
          rw [← h4]
          simp [Go.Sort.putCells, h3]
        · rw [Array.getElem?_eq_none (by simpa [Go.Sort.putCells] using h2), Array.getElem?_eq_none (by simp at h2; omega)]
    simp [Go.Sort.putRow, Go.Sort.mapBlock, Go.Sort.ahead, Array.getElem?_modify, hb', Go.Sort.onCells, e]
  · refine ⟨rfl, rfl, rfl, by simp [sortWorldK, Go.Sort.putRowK], fun k hk hne => ?_⟩
    unfold sortWorldK Go.Sort.putRowK
    rw [Go.Sort.heap_grow_old _ _ (by simpa using hk)]
    have : g ≠ k := fun e => hne (by rw [e])
    simp [Go.Sort.putRow, Go.Sort.mapBlock, Go.Sort.ahead, Array.getElem?_modify, this]
theorem sortK_c (l : List Lnk) (g cap : Nat) (w : World) (hB : RowX w g 190 (l.map Lnk.cs)) (hn : l.length ≤ 100000) :
    Calls Tryz.prog 173 #[.slice (some ⟨g, 0, none⟩) l.length cap, .func (.func 174) #[] #[]] w fun e w' => e = .returned (.tuple #[]) ∧ ∃ l' : List Lnk, l'.Perm l ∧ (l'.Pairwise fun x y => ltK y x = false) ∧ RowX w' g 190 (l'.map Lnk.cs) ∧ w.grownBy w' (some g) := by
  have hH : Go.Sort.HoldsK Lnk.cs 5 w g 0 l.toArray := by
    obtain ⟨ex, hb⟩ := hB
    unfold Go.Sort.HoldsK
    rw [flatK_lnk]
    intro j hj
    refine ⟨?_, by rw [Nat.zero_add]; exact hb.frozen j⟩
    rw [Nat.zero_add, hb.cell, Array.getElem?_append_left hj, Array.getElem?_eq_getElem hj, getElem!_pos (rowsA (l.map Lnk.cs)) j hj]
    rfl
  have hcmp : CmpLays Tryz.prog 174 #[] Lnk.cs 5 ordK g 0 l.toArray.size w := fun m os dk _ x y => (lessK_g x y _).mono fun _ _ ⟨he, q, os', hw⟩ => ⟨he, q, os', hw⟩
  have h := AnyQ.slices_SortFunc sortLinks 5 Tryz.isAgg190 Tryz.sizeOf190 Lnk.cs (fun _ => rfl) (fun x v hv => by
      simp only [Lnk.cs, List.mem_cons, List.not_mem_nil, or_false] at hv
      rcases hv with rfl | rfl | rfl | rfl | rfl <;> rfl) ordK (by rw [ltOf_ordK]; exact swoK) 174 #[] g 0 cap l.toArray w (enters_of Tryz.func174 (by kernel_rfl) rfl) hcmp hH hB.lt (by simp; omega)
  rw [ltOf_ordK] at h
  refine (show Calls Tryz.prog 173 _ _ _ from h).mono ?_
  rintro e w' ⟨rfl, d', n, os, hp, hs, rfl⟩
  obtain ⟨hsz, _, hperm⟩ := hp
  have e1 : d'.extract 0 l.toArray.size = d' := by rw [← hsz]; exact Array.extract_size
  rw [e1, Array.extract_size] at hperm
  have hperm' : d'.toList.Perm l := by simpa using hperm
  refine ⟨rfl, d'.toList, hperm', ?_, putLnk (by simpa using hperm'.length_eq) hB⟩
  rw [List.pairwise_iff_getElem]
  intro i j hi hj hij
  have hi' : i < d'.size := by simpa using hi
  have hj' : j < d'.size := by simpa using hj
  have := hs i j (by omega) hij (by omega)
  simpa [getElem!_pos d' i hi', getElem!_pos d' j hj'] using this
end Go.Proofs.YtdlclfcfleckmaaGreat
namespace Go.Proofs.YtdlclfcfleckmaaGreat
open Go.RowKit

theorem insNilK (v : Value) (w : World) : Calls Tryz.prog 228 #[.slice none 0 0, .int .i64 0, .int .i64 0, v] w fun e w' => e = .returned (.tuple #[]) ∧ w = w' := by
  go_enter Tryz.func228, Tryz.ntmps228
  go_wp2_with fail
  go_loopw [8] (fun i wr => i = .int .i64 1 ∧ wr = w) (fun _ _ => 0)
  case atStart => exact ⟨rfl, rfl⟩
  case round =>
    obtain ⟨rfl, rfl⟩ := hrel
    go_wp2_with fail
    go_end0
    exact ⟨rfl, rfl⟩
set_option maxRecDepth 100000 in
theorem pdqNilK (v : Value) (w : World) : Calls Tryz.prog 201 #[.slice none 0 0, .int .i64 0, .int .i64 0, .int .i64 0, v] w fun e w' => e = .returned (.tuple #[]) ∧ w = w' := by
  go_enter Tryz.func201, Tryz.ntmps201
  go_wp2_with fail
  go_loopw [1, 2] (fun a b wr => a = .int .i64 0 ∧ b = .int .i64 0 ∧ wr = w) (fun _ _ _ => 0)
  case atStart => exact ⟨rfl, rfl, rfl⟩
  case round =>
    obtain ⟨rfl, rfl, rfl⟩ := hrel
    go_wp2_with fail
    refine (insNilK v wr).mono ?_
    rintro e w1 ⟨rfl, rfl⟩
    go_wp2_with fail
    exact bodyPost_ret (v := .tuple #[]) (results_none rfl _ _ _) rfl ⟨rfl, rfl⟩
theorem sortNilK_c (v : Value) (w : World) : Calls Tryz.prog 173 #[.slice none 0 0, v] w fun e w' => e = .returned (.tuple #[]) ∧ w = w' := by
  have hl := Any.bits_Len (SlLaysF0.n15.bits (P := Tryz.prog) (ρ := sortLinks_ren) { sortLinks with }) 0 w (by omega) (by omega)
  go_enter Tryz.func173, Tryz.ntmps173
  have hl' : Calls Tryz.prog 149 #[.int .u64 0] w fun e w' => e = .returned (.int .i64 0) ∧ w' = w := hl
  clear hl
  go_wp2_with fail
  refine hl'.mono ?_
  rintro e w1 ⟨rfl, rfl⟩
  go_wp2_with fail
  refine (pdqNilK v w1).mono ?_
  rintro e w2 ⟨rfl, rfl⟩
  go_wp2_with fail
  go_end0
  exact ⟨rfl, rfl⟩
end Go.Proofs.YtdlclfcfleckmaaGreat
