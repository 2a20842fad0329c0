/- The given statement ComposeMoreCardSaid: for every input the law returns true, and each argument reads behind the call as it did; the listed table is tied to the program's text. No other conditions. -/
import Derived.Test.YtpikemglnnjemaaDoorCm13
import Derived.OpenShut
import Derived.Lib.SmallJoins
import Derived.Test.YtpikemglnnjemaaDoorTie
import Derived.Test.YtpikemglnnjemaaDoorCards
import Derived.ProofKit
import Derived.LaidMore
import Derived.Lib.LaidTab
import Derived.SevenTiedAt

namespace Go.Proofs.YtpikemglnnjemaaDoor
open Go.RowKit Go.ChangeShapes Go.WideShapes Go.ChangeAt Go.Deep Go.Joins

theorem cells_u8 : Tryd.prog.cellsOf 5 = 1 := by kernel_rfl
theorem cells_int : Tryd.prog.cellsOf 3 = 1 := by kernel_rfl
theorem cells_bool : Tryd.prog.cellsOf 4 = 1 := by kernel_rfl
theorem cells_cell : Tryd.prog.cellsOf 77 = 3 := by kernel_rfl
theorem cells_plate : Tryd.prog.cellsOf 51 = 4 := by kernel_rfl
theorem cells_laid : Tryd.prog.cellsOf 85 = 5 := by kernel_rfl
theorem cells_shape : Tryd.prog.cellsOf 24 = 4 := by kernel_rfl

theorem rows_map {α : Type} (f : α → List Value) {rows : List (List Value)} {xs : List α} (hl : xs.length = rows.length) (h : ∀ (i : Nat) (x : α), xs[i]? = some x → rows[i]? = some (f x)) : rows = xs.map f := by
  apply List.ext_getElem?
  intro i
  rw [List.getElem?_map]
  rcases Nat.lt_or_ge i rows.length with hi | hi
  · have : xs[i]? = some xs[i] := List.getElem?_eq_getElem (by omega)
    rw [this, h i _ this]
    rfl
  · rw [List.getElem?_eq_none hi, List.getElem?_eq_none (by omega)]
    rfl

section
variable {H : Type} {enc : TypeId × Value → H} {w : World} {base : Nat} {spare : Nat → Bool} {held : Bool}

set_option maxRecDepth 100000 in
theorem bytes_of_trod {fuel n cap : Nat} {A : Option Addr} {x : DataW H × List MemPlace}
    (h : DataW.trod enc Tryd.prog w base spare held fuel 22 [.slice A n cap] = some x) : ∃ cs : List Int, cs.length = n ∧ Bytes w A cap cs := by
  obtain ⟨rows, hS, hr⟩ := rows_of_trod Tryd.underlying22 cells_u8 (by omega) h
  obtain ⟨cs, hl, hp⟩ := list_of (fun i (c : Int) => rows[i]? = some [.int .u8 c] ∧ byteOk c) n (fun i hi => by
    have hi' : i < rows.length := by rw [hS.len]; exact hi
    have hget : rows[i]? = some rows[i] := List.getElem?_eq_getElem hi'
    obtain ⟨m, y, hy⟩ := hr _ (List.mem_of_getElem? hget)
    have hlen := hS.wide _ (List.mem_of_getElem? hget)
    generalize rows[i] = r at hget hy hlen
    match r, hlen with
    | [c0], _ =>
      obtain ⟨a, e0, _, wa⟩ := DataW.trod_int Tryd.underlying5 hy
      simp at e0
      subst e0
      exact ⟨a, hget, bounds_u8 wa⟩)
  refine ⟨cs, hl, ?_, fun c hm => ?_⟩
  · have := rows_map (fun c => [.int .u8 c]) (hl.trans hS.len.symm) fun i x hx => (hp i x hx).1
    rw [← this, hl]
    exact hS
  · obtain ⟨i, hi⟩ := List.getElem?_of_mem hm
    exact (hp i c hi).2

set_option maxRecDepth 100000 in
theorem plates_of_trod {fuel n cap : Nat} {A : Option Addr} {x : DataW H × List MemPlace}
    (h : DataW.trod enc Tryd.prog w base spare held fuel 25 [.slice A n cap] = some x) : ∃ l : List Plate, l.length = n ∧ Plates w A cap l := by
  obtain ⟨rows, hS, hr⟩ := rows_of_trod Tryd.underlying25 cells_plate (by omega) h
  obtain ⟨l, hl, hp⟩ := list_of (fun i (p : Plate) => rows[i]? = some p.cells) n (fun i hi => by
    have hi' : i < rows.length := by rw [hS.len]; exact hi
    have hget : rows[i]? = some rows[i] := List.getElem?_eq_getElem hi'
    obtain ⟨m, y, hy⟩ := hr _ (List.mem_of_getElem? hget)
    obtain ⟨xs, m', _, _, hlen, hxl, hf⟩ := DataW.trod_struct Tryd.underlying51 hy
    rw [cells_plate] at hlen
    generalize rows[i] = r at hget hy hlen hf
    match r, hlen with
    | [c0, c1, c2, c3], _ =>
      have f0 := hf 0 _ rfl
      have f1 := hf 1 _ rfl
      have f2 := hf 2 _ rfl
      have f3 := hf 3 _ rfl
      match xs, hxl with
      | [y0, y1, y2, y3], _ =>
        obtain ⟨a, e0, _, wa⟩ := DataW.trod_int Tryd.underlying3 f0
        obtain ⟨b, e1, _, wb⟩ := DataW.trod_int Tryd.underlying3 f1
        obtain ⟨c, e2, _, wc⟩ := DataW.trod_int Tryd.underlying3 f2
        obtain ⟨d, e3, _, wd⟩ := DataW.trod_int Tryd.underlying5 f3
        change List.take (Tryd.prog.cellsOf 3) [c0, c1, c2, c3] = _ at e0
        change List.take (Tryd.prog.cellsOf 3) [c1, c2, c3] = _ at e1
        change List.take (Tryd.prog.cellsOf 3) [c2, c3] = _ at e2
        change List.take (Tryd.prog.cellsOf 5) [c3] = _ at e3
        rw [cells_int] at e0 e1 e2
        rw [cells_u8] at e3
        simp at e0 e1 e2 e3
        subst e0 e1 e2 e3
        exact ⟨⟨a, b, c, d⟩, hget⟩)
  refine ⟨l, hl, ?_⟩
  have := rows_map Plate.cells (hl.trans hS.len.symm) hp
  unfold Plates
  rw [← this, hl]
  exact hS

set_option maxRecDepth 100000 in
theorem laids_of_trod {fuel n cap : Nat} {A : Option Addr} {x : DataW H × List MemPlace}
    (h : DataW.trod enc Tryd.prog w base spare held fuel 26 [.slice A n cap] = some x) : ∃ l : List Laid, l.length = n ∧ Laids w A cap l := by
  obtain ⟨rows, hS, hr⟩ := rows_of_trod Tryd.underlying26 cells_laid (by omega) h
  obtain ⟨l, hl, hp⟩ := list_of (fun i (p : Laid) => rows[i]? = some p.cells) n (fun i hi => by
    have hi' : i < rows.length := by rw [hS.len]; exact hi
    have hget : rows[i]? = some rows[i] := List.getElem?_eq_getElem hi'
    obtain ⟨m, y, hy⟩ := hr _ (List.mem_of_getElem? hget)
    obtain ⟨xs, m', _, _, hlen, hxl, hf⟩ := DataW.trod_struct Tryd.underlying85 hy
    rw [cells_laid] at hlen
    generalize rows[i] = r at hget hy hlen hf
    match r, hlen with
    | [c0, c1, c2, c3, c4], _ =>
      have f0 := hf 0 _ rfl
      have f1 := hf 1 _ rfl
      have f2 := hf 2 _ rfl
      match xs, hxl with
      | [y0, y1, y2], _ =>
        obtain ⟨a, e0, _, wa⟩ := DataW.trod_int Tryd.underlying3 f0
        obtain ⟨b, e3, _⟩ := DataW.trod_bool Tryd.underlying4 f2
        change List.take (Tryd.prog.cellsOf 3) [c0, c1, c2, c3, c4] = _ at e0
        change DataW.trod enc _ _ _ _ _ _ _ (List.take (Tryd.prog.cellsOf 77) [c1, c2, c3, c4]) = _ at f1
        change List.take (Tryd.prog.cellsOf 4) [c4] = _ at e3
        rw [cells_int] at e0
        rw [cells_cell] at f1
        rw [cells_bool] at e3
        simp at e0 e3
        subst e0 e3
        obtain ⟨zs, m'', _, _, _, hzl, hg⟩ := DataW.trod_struct Tryd.underlying77 f1
        have g0 := hg 0 _ rfl
        have g1 := hg 1 _ rfl
        have g2 := hg 2 _ rfl
        match zs, hzl with
        | [z0, z1, z2], _ =>
          obtain ⟨x, h1, _, _⟩ := DataW.trod_int Tryd.underlying3 g0
          obtain ⟨y, h2, _, _⟩ := DataW.trod_int Tryd.underlying3 g1
          obtain ⟨z, h3, _, _⟩ := DataW.trod_int Tryd.underlying3 g2
          change List.take (Tryd.prog.cellsOf 3) [c1, c2, c3] = _ at h1
          change List.take (Tryd.prog.cellsOf 3) [c2, c3] = _ at h2
          change List.take (Tryd.prog.cellsOf 3) [c3] = _ at h3
          rw [cells_int] at h1 h2 h3
          simp at h1 h2 h3
          subst h1 h2 h3
          exact ⟨⟨a, x, y, z, b⟩, hget⟩)
  refine ⟨l, hl, ?_⟩
  have := rows_map Laid.cells (hl.trans hS.len.symm) hp
  unfold Laids
  rw [← this, hl]
  exact hS
end

end Go.Proofs.YtpikemglnnjemaaDoor

namespace Go.Proofs.YtpikemglnnjemaaDoor
open Go.RowKit Go.ChangeShapes Go.WideShapes Go.ChangeAt

theorem gTab : Tryd.prog.globalNamed "math/bits.deBruijn32tab" = some 0 := by kernel_rfl
theorem gTabType : (Tryd.prog.globals[0]?).map (·.type) = some 190 := by kernel_rfl
theorem cellsTab : Tryd.prog.cellsOf 190 = 32 := by kernel_rfl
theorem cellsTabE : Tryd.prog.cellsOf 5 = 1 := by kernel_rfl
def tabZ : List Int := Lib.deBruijn32tab.map fun n : Nat => (n : Int)
/-- What every law of the seat lists. -/
def laidTab : List (String × DataW Unit) := [("math/bits.deBruijn32tab", Rows.laid_math_bits_deBruijn32tab)]
theorem laidTab_eq : laidTab = [("math/bits.deBruijn32tab", Lib.tabData .u8 tabZ)] := rfl
theorem tz_of_laid {W : World} (h : laidMetH Tryd.prog laidTab W) : TzTab W := by
  rw [MakeChecks.laidMetH_plain _ _ _ (by kernel_rfl), laidTab_eq] at h
  have hT := Lib.tabIs_of_head gTab gTabType Tryd.underlying190 Tryd.underlying5 cellsTabE cellsTab h
  intro j hj
  have := hT.cell gTab j (by simpa [tabZ] using hj)
  rw [this]
  congr 2
  unfold tabZ
  rw [List.getD_eq_getElem?_getD, List.getD_eq_getElem?_getD, List.getElem?_map, List.getElem?_eq_getElem hj]
  rfl

/-- A world in which the table lies as its initialiser lays it. -/
noncomputable def laidWorld (os : Os) : World :=
  { World.holding Tryd.prog os ⟨#[], #[], []⟩ with heap := (World.holding Tryd.prog os ⟨#[], #[], []⟩).heap.modify 0 fun
      | .cells _ t frozen => .cells (tabZ.map fun z => Value.int .u8 z).toArray t frozen
      | o => o }
theorem laidWorld_met (os : Os) (args : Array Value) : laidMetH Tryd.prog laidTab ((laidWorld os).forCall (fun _ _ => 0) ⟨#[], args, []⟩).memory := by
  rw [MakeChecks.laidMetH_plain _ _ _ (by kernel_rfl)]
  exact laidMet_of_run' 8 (by kernel_rfl) (by kernel_rfl)
end Go.Proofs.YtpikemglnnjemaaDoor

namespace Go.Proofs.YtpikemglnnjemaaDoor
open Go.RowKit Go.ChangeShapes Go.WideShapes Go.ChangeAt Go.Deep Go.Joins

set_option maxRecDepth 100000 in
theorem more_lifted (os : Os) (started : os.Started) (H : Type) (enc : TypeId × Value → H) :
    ReturnsInHanded {} Tryd.checked os 5 .any (fun w args => (Rows.composeMoreSpec.pre enc Tryd.prog Tryd.f5 [] false w args ∧ laidMetH Tryd.prog laidTab w) ∧ sizedMet enc Tryd.prog Tryd.f5 (OpenSpec.ofChange Rows.composeMoreSpec) false w args)
      (Rows.composeMoreSpec.post enc Tryd.prog Tryd.f5 false true false false) := by
  refine returnsInHanded_of_change_and (C := Tryd.checked) (X := fun w _ => laidMetH Tryd.prog laidTab w) (fun _ _ _ hh h => h.of_heap hh) Tryd.own started (by kernel_rfl) Tryd.func5
    (ChangeSpec.witness_at (enc := enc) (C := Tryd.checked) (os := os) (X := fun w _ => laidMetH Tryd.prog laidTab w) false (laidWorld os) #[.agg #[.int .i64 0, .int .i64 0, .int .i64 0, .slice none 0 0], .slice none 0 0, .int .i64 0] 8 rfl (by kernel_rfl) (by kernel_rfl) (by kernel_rfl) (by kernel_rfl) (by kernel_rfl) (laidWorld_met os _)) ?_
  intro W base args ds gs before hval0 hW _ _ hL _
  have hval : ∀ (j : Nat) t v, Tryd.f5.params[j]? = some t → args[j]? = some v → Value.okWide Tryd.prog W .any base t v := hval0
  have hW' := hW
  obtain ⟨p, q, hA0, hV, rfl, hfz, hnd⟩ := hW
  have hA : DataW.TrodAll enc Tryd.prog W 0 (fun _ => true) true Tryd.f5.params.toList args.toList ds p := hA0
  rw [Tryd.params5] at hA hval
  have hAll := hA
  obtain ⟨v0, v1, v2, d0, d1, d2, p0, p1, p2, rfl, rfl, rfl, h0, h1, h2⟩ := trodAll_three hA
  obtain ⟨rfl, rfl⟩ := trodVars_none hV
  obtain ⟨c0, c1, c2, c3, y0, y1, y2, y3, m, rfl, rfl, rfl, hy0, hy1, hy2, hy3⟩ := open_agg4 Tryd.underlying24 (by kernel_rfl) cells_shape (hval 0 24 v0 rfl rfl) h0
  obtain ⟨x, e0, e0', -⟩ := DataW.trod_int Tryd.underlying3 hy0
  obtain ⟨y, e1, e1', -⟩ := DataW.trod_int Tryd.underlying3 hy1
  obtain ⟨z, e2, e2', -⟩ := DataW.trod_int Tryd.underlying3 hy2
  simp at e0 e1 e2
  subst e0 e1 e2
  have hc3 : ∃ A n ca, c3 = .slice A n ca := by
    rcases open_slice Tryd.underlying22 hy3 with ⟨h, _⟩ | ⟨a, len, cap', _, _, _, _, h, _⟩
    · exact ⟨none, 0, 0, by simpa using h⟩
    · exact ⟨some a, len, cap', by simpa using h⟩
  obtain ⟨A, n, ca, rfl⟩ := hc3
  obtain ⟨cs, hcl, hcs⟩ := bytes_of_trod hy3
  obtain ⟨B, n1, cb, rfl⟩ := okWide_slice Tryd.underlying25 (hval 1 25 v1 rfl rfl)
  obtain ⟨i, rfl, rfl, rfl, _⟩ := open_int Tryd.underlying3 (hval 2 3 v2 rfl rfl) h2
  obtain ⟨fu1, hf1⟩ := h1
  obtain ⟨l, rfl, hpl⟩ := plates_of_trod (by simpa [Value.cells] using hf1)
  subst hcl
  clear hA0 hval0
  simp only [List.append_nil] at hW' hAll
  have hlt : ∀ q ∈ (y0.2 ++ (y1.2 ++ (y2.2 ++ y3.2))) ++ p1, q.block < W.heap.size := fun q hq => hW'.lt q hq
  refine (more_walk ⟨x, y, z, cs⟩ A ca l B cb i W hcs hpl (tz_of_laid hL)).mono fun e W' ⟨he, hE⟩ => ?_
  subst he
  refine ⟨_, rfl, ?_⟩
  refine ⟨_, _, _, [], (y0.2 ++ (y1.2 ++ (y2.2 ++ y3.2))) ++ p1, [], hW', ?_, ?_, rfl, hE.frame _, fun h => by cases h⟩
  · exact trodAll_mk1 (shut_bool Tryd.underlying4 true)
  · exact trodAll_ext (ts := [24, 25, 3]) Tryd.laidOut hE (by
      intro t ht
      simp only [List.mem_cons, List.not_mem_nil, or_false] at ht
      rcases ht with rfl | rfl | rfl <;> exact ⟨by kernel_rfl, of_decide_eq_true (by kernel_rfl)⟩) hAll hlt

theorem composeMore_row : Rows.ComposeMoreSaid :=
  OpenClaim.holds_of_wide 5 Tryd.f5 rfl rfl rfl rfl rfl rfl rfl ⟨rfl, rfl, rfl, rfl, rfl⟩ rfl rfl rfl rfl rfl (by kernel_rfl) Tryd.func5 (by kernel_rfl)
    (of_decide_eq_true (by kernel_rfl)) (by unfold Func.isWrapper; rw [if_neg (of_decide_eq_false (by kernel_rfl))]; exact ⟨rfl, rfl⟩)
    (fun os started H enc _ => more_lifted os started H enc)
theorem composeMore_holds : Rows.ComposeMoreCardSaid :=
  Claim7.holds_tied_plain_at .later [] [.data] true Rows.composeMoreCard.stood.harness false
    composeMore_row (fun _ h => by cases h) (by kernel_rfl) (fun _ h => by cases h) composeMore_row_tie rfl ⟨rfl, rfl⟩ (by kernel_rfl) rfl
    (fun f fn hf hfn => by
      obtain rfl : f = 5 := Option.some.inj ((show Tryd.prog.funcNamed "studwork/studworklaw07.ComposeMore" = some 5 by kernel_rfl).symm.trans hf) |>.symm
      obtain rfl : fn = Tryd.f5 := (Option.some.inj (Tryd.func5.symm.trans hfn)).symm
      exact ⟨by kernel_rfl, fun j t ht => by
        rw [Tryd.params5] at ht
        have ht := List.mem_of_getElem? (show ([24, 25, 3] : List TypeId)[j]? = some t by simpa using ht)
        simp only [List.mem_cons, List.not_mem_nil, or_false] at ht
        rcases ht with rfl | rfl | rfl
        · exact (show Tryd.prog.wantsStandIn 24 = false by kernel_rfl)
        · exact (show Tryd.prog.wantsStandIn 25 = false by kernel_rfl)
        · exact (show Tryd.prog.wantsStandIn 3 = false by kernel_rfl)⟩)
    (by kernel_rfl)
#print axioms composeMore_holds
end Go.Proofs.YtpikemglnnjemaaDoor
