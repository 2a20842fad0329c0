/- Opening the arguments of chapter 7's laws: bytes, plates, laid plates. The listed table: from the row's condition to what the walks ask; a world that meets it. -/
import Derived.Test.YtaaeapjnjjbglaaGreatDoorCd7
import Derived.Test.YtaaeapjnjjbglaaGreatDoorCd18
import Derived.Test.YtaaeapjnjjbglaaGreatDoorCd33
import Derived.OpenShut
import Derived.Lib.SmallJoins
import Derived.Test.YtaaeapjnjjbglaaGreatDoorTie
import Derived.Test.YtaaeapjnjjbglaaGreatDoorCards
import Derived.ProofKit
import Derived.LaidMore
import Derived.Lib.LaidTab

namespace Go.Proofs.YtaaeapjnjjbglaaGreatDoor
open Go.RowKit Go.ChangeShapes Go.WideShapes Go.ChangeAt Go.Deep Go.Joins

theorem cells_u8 : Tryz.prog.cellsOf 5 = 1 := by kernel_rfl
theorem cells_int : Tryz.prog.cellsOf 3 = 1 := by kernel_rfl
theorem cells_bool : Tryz.prog.cellsOf 4 = 1 := by kernel_rfl
theorem cells_cell : Tryz.prog.cellsOf 53 = 3 := by kernel_rfl
theorem cells_plate : Tryz.prog.cellsOf 64 = 4 := by kernel_rfl
theorem cells_laid : Tryz.prog.cellsOf 55 = 5 := by kernel_rfl
theorem cells_shape : Tryz.prog.cellsOf 24 = 4 := by kernel_rfl

theorem rows_map {α : Type} (f : α → List Value) {rows : List (List Value)} {xs : List α} (hl : xs.length = rows.length) (h : ∀ (i : Nat) (x : α), xs[i]? = some x → rows[i]? = some (f x)) : rows = xs.map f := by
  apply List.ext_getElem?
  intro i
  rw [List.getElem?_map]
  rcases Nat.lt_or_ge i rows.length with hi | hi
  · have : xs[i]? = some xs[i] := List.getElem?_eq_getElem (by omega)
    rw [this, h i _ this]
    rfl
  · rw [List.getElem?_eq_none hi, List.getElem?_eq_none (by omega)]
    rfl

section
variable {H : Type} {enc : TypeId × Value → H} {w : World} {base : Nat} {spare : Nat → Bool} {held : Bool}

set_option maxRecDepth 100000 in
theorem bytes_of_trod {fuel n cap : Nat} {A : Option Addr} {x : DataW H × List MemPlace}
    (h : DataW.trod enc Tryz.prog w base spare held fuel 22 [.slice A n cap] = some x) : ∃ cs : List Int, cs.length = n ∧ Bytes w A cap cs := by
  obtain ⟨rows, hS, hr⟩ := rows_of_trod Tryz.underlying22 cells_u8 (by omega) h
  obtain ⟨cs, hl, hp⟩ := list_of (fun i (c : Int) => rows[i]? = some [.int .u8 c] ∧ byteOk c) n (fun i hi => by
    have hi' : i < rows.length := by rw [hS.len]; exact hi
    have hget : rows[i]? = some rows[i] := List.getElem?_eq_getElem hi'
    obtain ⟨m, y, hy⟩ := hr _ (List.mem_of_getElem? hget)
    have hlen := hS.wide _ (List.mem_of_getElem? hget)
    generalize rows[i] = r at hget hy hlen
    match r, hlen with
    | [c0], _ =>
      obtain ⟨a, e0, _, wa⟩ := DataW.trod_int Tryz.underlying5 hy
      simp at e0
      subst e0
      exact ⟨a, hget, bounds_u8 wa⟩)
  refine ⟨cs, hl, ?_, fun c hm => ?_⟩
  · have := rows_map (fun c => [.int .u8 c]) (hl.trans hS.len.symm) fun i x hx => (hp i x hx).1
    rw [← this, hl]
    exact hS
  · obtain ⟨i, hi⟩ := List.getElem?_of_mem hm
    exact (hp i c hi).2

set_option maxRecDepth 100000 in
theorem plates_of_trod {fuel n cap : Nat} {A : Option Addr} {x : DataW H × List MemPlace}
    (h : DataW.trod enc Tryz.prog w base spare held fuel 25 [.slice A n cap] = some x) : ∃ l : List Plate, l.length = n ∧ Plates w A cap l := by
  obtain ⟨rows, hS, hr⟩ := rows_of_trod Tryz.underlying25 cells_plate (by omega) h
  obtain ⟨l, hl, hp⟩ := list_of (fun i (p : Plate) => rows[i]? = some p.cells) n (fun i hi => by
    have hi' : i < rows.length := by rw [hS.len]; exact hi
    have hget : rows[i]? = some rows[i] := List.getElem?_eq_getElem hi'
    obtain ⟨m, y, hy⟩ := hr _ (List.mem_of_getElem? hget)
    obtain ⟨xs, m', _, _, hlen, hxl, hf⟩ := DataW.trod_struct Tryz.underlying64 hy
    rw [cells_plate] at hlen
    generalize rows[i] = r at hget hy hlen hf
    match r, hlen with
    | [c0, c1, c2, c3], _ =>
      have f0 := hf 0 _ rfl
      have f1 := hf 1 _ rfl
      have f2 := hf 2 _ rfl
      have f3 := hf 3 _ rfl
      match xs, hxl with
      | [y0, y1, y2, y3], _ =>
        obtain ⟨a, e0, _, wa⟩ := DataW.trod_int Tryz.underlying3 f0
        obtain ⟨b, e1, _, wb⟩ := DataW.trod_int Tryz.underlying3 f1
        obtain ⟨c, e2, _, wc⟩ := DataW.trod_int Tryz.underlying3 f2
        obtain ⟨d, e3, _, wd⟩ := DataW.trod_int Tryz.underlying5 f3
        change List.take (Tryz.prog.cellsOf 3) [c0, c1, c2, c3] = _ at e0
        change List.take (Tryz.prog.cellsOf 3) [c1, c2, c3] = _ at e1
        change List.take (Tryz.prog.cellsOf 3) [c2, c3] = _ at e2
        change List.take (Tryz.prog.cellsOf 5) [c3] = _ at e3
        rw [cells_int] at e0 e1 e2
        rw [cells_u8] at e3
        simp at e0 e1 e2 e3
        subst e0 e1 e2 e3
        exact ⟨⟨a, b, c, d⟩, hget⟩)
  refine ⟨l, hl, ?_⟩
  have := rows_map Plate.cells (hl.trans hS.len.symm) hp
  unfold Plates
  rw [← this, hl]
  exact hS

set_option maxRecDepth 100000 in
theorem laids_of_trod {fuel n cap : Nat} {A : Option Addr} {x : DataW H × List MemPlace}
    (h : DataW.trod enc Tryz.prog w base spare held fuel 26 [.slice A n cap] = some x) : ∃ l : List Laid, l.length = n ∧ Laids w A cap l := by
  obtain ⟨rows, hS, hr⟩ := rows_of_trod Tryz.underlying26 cells_laid (by omega) h
  obtain ⟨l, hl, hp⟩ := list_of (fun i (p : Laid) => rows[i]? = some p.cells) n (fun i hi => by
    have hi' : i < rows.length := by rw [hS.len]; exact hi
    have hget : rows[i]? = some rows[i] := List.getElem?_eq_getElem hi'
    obtain ⟨m, y, hy⟩ := hr _ (List.mem_of_getElem? hget)
    obtain ⟨xs, m', _, _, hlen, hxl, hf⟩ := DataW.trod_struct Tryz.underlying55 hy
    rw [cells_laid] at hlen
    generalize rows[i] = r at hget hy hlen hf
    match r, hlen with
    | [c0, c1, c2, c3, c4], _ =>
      have f0 := hf 0 _ rfl
      have f1 := hf 1 _ rfl
      have f2 := hf 2 _ rfl
      match xs, hxl with
      | [y0, y1, y2], _ =>
        obtain ⟨a, e0, _, wa⟩ := DataW.trod_int Tryz.underlying3 f0
        obtain ⟨b, e3, _⟩ := DataW.trod_bool Tryz.underlying4 f2
        change List.take (Tryz.prog.cellsOf 3) [c0, c1, c2, c3, c4] = _ at e0
        change DataW.trod enc _ _ _ _ _ _ _ (List.take (Tryz.prog.cellsOf 53) [c1, c2, c3, c4]) = _ at f1
        change List.take (Tryz.prog.cellsOf 4) [c4] = _ at e3
        rw [cells_int] at e0
        rw [cells_cell] at f1
        rw [cells_bool] at e3
        simp at e0 e3
        subst e0 e3
        obtain ⟨zs, m'', _, _, _, hzl, hg⟩ := DataW.trod_struct Tryz.underlying53 f1
        have g0 := hg 0 _ rfl
        have g1 := hg 1 _ rfl
        have g2 := hg 2 _ rfl
        match zs, hzl with
        | [z0, z1, z2], _ =>
          obtain ⟨x, h1, _, _⟩ := DataW.trod_int Tryz.underlying3 g0
          obtain ⟨y, h2, _, _⟩ := DataW.trod_int Tryz.underlying3 g1
          obtain ⟨z, h3, _, _⟩ := DataW.trod_int Tryz.underlying3 g2
          change List.take (Tryz.prog.cellsOf 3) [c1, c2, c3] = _ at h1
          change List.take (Tryz.prog.cellsOf 3) [c2, c3] = _ at h2
          change List.take (Tryz.prog.cellsOf 3) [c3] = _ at h3
          rw [cells_int] at h1 h2 h3
          simp at h1 h2 h3
          subst h1 h2 h3
          exact ⟨⟨a, x, y, z, b⟩, hget⟩)
  refine ⟨l, hl, ?_⟩
  have := rows_map Laid.cells (hl.trans hS.len.symm) hp
  unfold Laids
  rw [← this, hl]
  exact hS
end

end Go.Proofs.YtaaeapjnjjbglaaGreatDoor

namespace Go.Proofs.YtaaeapjnjjbglaaGreatDoor
open Go.RowKit Go.ChangeShapes Go.WideShapes Go.ChangeAt

theorem gTab : Tryz.prog.globalNamed "math/bits.deBruijn32tab" = some 0 := by kernel_rfl
theorem gTabType : (Tryz.prog.globals[0]?).map (·.type) = some 172 := by kernel_rfl
theorem cellsTab : Tryz.prog.cellsOf 172 = 32 := by kernel_rfl
theorem cellsTabE : Tryz.prog.cellsOf 5 = 1 := by kernel_rfl
def tabZ : List Int := Lib.deBruijn32tab.map fun n : Nat => (n : Int)
/-- What every law of the seat lists. -/
def laidTab : List (String × DataW Unit) := [("math/bits.deBruijn32tab", Rows.laid_math_bits_deBruijn32tab)]
theorem laidTab_eq : laidTab = [("math/bits.deBruijn32tab", Lib.tabData .u8 tabZ)] := rfl
theorem tz_of_laid {W : World} (h : laidMetH Tryz.prog laidTab W) : TzTab W := by
  rw [MakeChecks.laidMetH_plain _ _ _ (by kernel_rfl), laidTab_eq] at h
  have hT := Lib.tabIs_of_head gTab gTabType Tryz.underlying172 Tryz.underlying5 cellsTabE cellsTab h
  intro j hj
  have := hT.cell gTab j (by simpa [tabZ] using hj)
  rw [this]
  congr 2
  unfold tabZ
  rw [List.getD_eq_getElem?_getD, List.getD_eq_getElem?_getD, List.getElem?_map, List.getElem?_eq_getElem hj]
  rfl

/-- A world in which the table lies as its initialiser lays it. -/
noncomputable def laidWorld (os : Os) : World :=
  { World.holding Tryz.prog os ⟨#[], #[], []⟩ with heap := (World.holding Tryz.prog os ⟨#[], #[], []⟩).heap.modify 0 fun
      | .cells _ t frozen => .cells (tabZ.map fun z => Value.int .u8 z).toArray t frozen
      | o => o }
theorem laidWorld_met (os : Os) (args : Array Value) : laidMetH Tryz.prog laidTab ((laidWorld os).forCall (fun _ _ => 0) ⟨#[], args, []⟩).memory := by
  rw [MakeChecks.laidMetH_plain _ _ _ (by kernel_rfl)]
  exact laidMet_of_run' 8 (by kernel_rfl) (by kernel_rfl)
end Go.Proofs.YtaaeapjnjjbglaaGreatDoor
