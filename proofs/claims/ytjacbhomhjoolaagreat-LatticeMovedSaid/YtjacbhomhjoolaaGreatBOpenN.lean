/- Opening a number, a cell, a brick, a kind of a law's arguments. -/
import Derived.Test.YtjacbhomhjoolaaGreatBOpen
namespace Go.Proofs.YtjacbhomhjoolaaGreat
open Go.RowKit Go.ChangeShapes Go.WideShapes Go.ChangeAt Go.Deep Go.Joins

section
variable {H : Type} {enc : TypeId × Value → H} {w : World} {base : Nat} {spare : Nat → Bool} {held : Bool}
set_option maxRecDepth 100000 in
theorem open_six {r : Reach} {b0 : Nat} {t : TypeId} {fs : Array Field} {v : Value} {d : DataW H} {p : List MemPlace} (hs : Tryz.prog.underlying t = some (.struct fs)) (hC : Tryz.prog.cellsOf t = 6)
    (hv : Value.okWide Tryz.prog w r b0 t v) (h : DataW.Trod enc Tryz.prog w base spare held t v d p) : ∃ c0 c1 c2 c3 c4 c5 fuel, v = .agg #[c0, c1, c2, c3, c4, c5] ∧ DataW.trod enc Tryz.prog w base spare held fuel t [c0, c1, c2, c3, c4, c5] = some (d, p) := by
  obtain ⟨cs, rfl, hsz⟩ := okWide_struct hs hv
  rw [hC] at hsz
  obtain ⟨l⟩ := cs
  simp only [List.size_toArray] at hsz
  match l, hsz with
  | [c0, c1, c2, c3, c4, c5], _ =>
    obtain ⟨fuel, hf⟩ := h
    exact ⟨c0, c1, c2, c3, c4, c5, fuel, rfl, by simpa [Value.cells] using hf⟩
set_option maxRecDepth 100000 in
theorem open_three {r : Reach} {b0 : Nat} {t : TypeId} {fs : Array Field} {v : Value} {d : DataW H} {p : List MemPlace} (hs : Tryz.prog.underlying t = some (.struct fs)) (hC : Tryz.prog.cellsOf t = 3)
    (hv : Value.okWide Tryz.prog w r b0 t v) (h : DataW.Trod enc Tryz.prog w base spare held t v d p) : ∃ c0 c1 c2 fuel, v = .agg #[c0, c1, c2] ∧ DataW.trod enc Tryz.prog w base spare held fuel t [c0, c1, c2] = some (d, p) := by
  obtain ⟨cs, rfl, hsz⟩ := okWide_struct hs hv
  rw [hC] at hsz
  obtain ⟨l⟩ := cs
  simp only [List.size_toArray] at hsz
  match l, hsz with
  | [c0, c1, c2], _ =>
    obtain ⟨fuel, hf⟩ := h
    exact ⟨c0, c1, c2, fuel, rfl, by simpa [Value.cells] using hf⟩
set_option maxRecDepth 100000 in
theorem int_open {r : Reach} {b0 : Nat} {v : Value} {d : DataW H} {p : List MemPlace} (hv : Value.okWide Tryz.prog w r b0 3 v) (h : DataW.Trod enc Tryz.prog w base spare held 3 v d p) : ∃ n : Int, v = .int .i64 n := by
  obtain ⟨n, hn, -, -, -⟩ := open_int Tryz.underlying3 hv h
  exact ⟨n, hn⟩
set_option maxRecDepth 100000 in
theorem u8_open {r : Reach} {b0 : Nat} {v : Value} {d : DataW H} {p : List MemPlace} (hv : Value.okWide Tryz.prog w r b0 5 v) (h : DataW.Trod enc Tryz.prog w base spare held 5 v d p) : ∃ n : Int, v = .int .u8 n ∧ 0 ≤ n ∧ n ≤ 255 := by
  obtain ⟨n, hn, -, -, hw⟩ := open_int Tryz.underlying5 hv h
  exact ⟨n, hn, bounds_u8 hw⟩
set_option maxRecDepth 100000 in
theorem cell_open {r : Reach} {b0 : Nat} {v : Value} {d : DataW H} {p : List MemPlace} (hv : Value.okWide Tryz.prog w r b0 27 v) (h : DataW.Trod enc Tryz.prog w base spare held 27 v d p) : ∃ x y z : Int, v = .agg #[.int .i64 x, .int .i64 y, .int .i64 z] := by
  obtain ⟨c0, c1, c2, fu, rfl, hf⟩ := open_three Tryz.underlying27 cells_cell hv h
  obtain ⟨q, hq⟩ := pt_of_trod hf
  unfold Pt.cs at hq
  simp only [List.cons.injEq, and_true] at hq
  obtain ⟨rfl, rfl, rfl⟩ := hq
  exact ⟨_, _, _, rfl⟩
end
end Go.Proofs.YtjacbhomhjoolaaGreat
