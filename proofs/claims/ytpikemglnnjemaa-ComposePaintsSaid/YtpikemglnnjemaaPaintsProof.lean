/- The given statement ComposePaintsSaid: for every input the law returns true, and each argument reads behind the call as it did. No conditions. -/
import Derived.Test.YtpikemglnnjemaaPaintsLaw
import Derived.Test.YtpikemglnnjemaaOpen
import Derived.OpenShut
namespace Go.Proofs.Ytpikemglnnjemaa
open Go.RowKit Go.ChangeShapes Go.WideShapes Go.ChangeAt Go.Deep

set_option maxRecDepth 100000 in
theorem hues_of_trod {H : Type} {enc : TypeId × Value → H} {w : World} {base : Nat} {spare : Nat → Bool} {held : Bool} {fuel n cap : Nat} {A : Option Addr} {x : DataW H × List MemPlace}
    (h : DataW.trod enc Try.prog w base spare held fuel 22 [.slice A n cap] = some x) : ∃ hs : List Hue, hs.length = n ∧ Hues w A cap hs := by
  have hC : Try.prog.cellsOf 56 = 3 := by kernel_rfl
  obtain ⟨rows, hS, hr⟩ := rows_of_trod Try.underlying22 hC (by omega) h
  obtain ⟨hs, hl, hp⟩ := list_of (fun i (h : Hue) => rows[i]? = some h.cells ∧ h.ok) n (fun i hi => by
    have hi' : i < rows.length := by rw [hS.len]; exact hi
    have hget : rows[i]? = some rows[i] := List.getElem?_eq_getElem hi'
    obtain ⟨m, y, hy⟩ := hr _ (List.mem_of_getElem? hget)
    obtain ⟨xs, m', _, _, hlen, hxl, hf⟩ := DataW.trod_struct Try.underlying56 hy
    rw [hC] at hlen
    generalize rows[i] = r at hget hy hlen hf
    match r, hlen with
    | [c0, c1, c2], _ =>
      have f0 := hf 0 _ rfl
      have f1 := hf 1 _ rfl
      have f2 := hf 2 _ rfl
      match xs, hxl with
      | [y0, y1, y2], _ =>
        obtain ⟨a, e0, _, wa⟩ := DataW.trod_int Try.underlying5 f0
        obtain ⟨b, e1, _, wb⟩ := DataW.trod_int Try.underlying5 f1
        obtain ⟨c, e2, _, wc⟩ := DataW.trod_int Try.underlying5 f2
        have hc1 : Try.prog.cellsOf 5 = 1 := by kernel_rfl
        change List.take (Try.prog.cellsOf 5) [c0, c1, c2] = _ at e0
        change List.take (Try.prog.cellsOf 5) [c1, c2] = _ at e1
        change List.take (Try.prog.cellsOf 5) [c2] = _ at e2
        rw [hc1] at e0 e1 e2
        simp at e0 e1 e2
        subst e0 e1 e2
        exact ⟨⟨a, b, c⟩, hget, bounds_u8 wa, bounds_u8 wb, bounds_u8 wc⟩)
  refine ⟨hs, hl, ?_, fun h hm => ?_⟩
  · have : rows = hs.map Hue.cells := by
      apply List.ext_getElem?
      intro i
      rw [List.getElem?_map]
      rcases Nat.lt_or_ge i n with hi | hi
      · have : hs[i]? = some hs[i] := List.getElem?_eq_getElem (by omega)
        rw [this, (hp i _ this).1]
        rfl
      · rw [List.getElem?_eq_none (by rw [hS.len]; exact hi), List.getElem?_eq_none (by omega)]
        rfl
    rw [← this, hl]
    exact hS
  · obtain ⟨i, hi⟩ := List.getElem?_of_mem hm
    exact (hp i h hi).2

set_option maxRecDepth 100000 in
theorem paints_lifted (os : Os) (started : os.Started) (H : Type) (enc : TypeId × Value → H) :
    ReturnsInHanded {} Try.checked os 3 .any (Rows.composePaintsSpec.pre6 enc Try.prog Try.f3 Rows.composePaintsRow.domain false) (Rows.composePaintsSpec.post enc Try.prog Try.f3 false true false false) := by
  refine returnsInHanded_of_change (C := Try.checked) Try.own started (by kernel_rfl) Try.func3
    (ChangeSpec.witness6 (enc := enc) (C := Try.checked) false ⟨#[], #[.slice none 0 0, .slice none 0 0, .int .i64 0], []⟩ 8 (by kernel_rfl) (by kernel_rfl) (by kernel_rfl) (by kernel_rfl)) ?_
  intro W base args ds gs before hval0 hW hcnd _
  have hval : ∀ (j : Nat) t v, Try.f3.params[j]? = some t → args[j]? = some v → Value.okWide Try.prog W .any base t v := hval0
  have hW' := hW
  obtain ⟨p, q, hA0, hV, rfl, hfz, hnd⟩ := hW
  have hA : DataW.TrodAll enc Try.prog W 0 (fun _ => true) true Try.f3.params.toList args.toList ds p := hA0
  rw [Try.params3] at hA hval
  have hAll := hA
  obtain ⟨v0, v1, v2, d0, d1, d2, p0, p1, p2, rfl, rfl, rfl, h0, h1, h2⟩ := trodAll_three hA
  obtain ⟨rfl, rfl⟩ := trodVars_none hV
  obtain ⟨A, n, ca, rfl⟩ := okWide_slice Try.underlying22 (hval 0 22 v0 rfl rfl)
  obtain ⟨B, m, cb, rfl⟩ := okWide_slice Try.underlying22 (hval 1 22 v1 rfl rfl)
  obtain ⟨wd, rfl, rfl, rfl, wwd⟩ := open_int Try.underlying3 (hval 2 3 v2 rfl rfl) h2
  obtain ⟨fu0, hf0⟩ := h0
  obtain ⟨fu1, hf1⟩ := h1
  obtain ⟨px, rfl, hpx⟩ := hues_of_trod (by simpa [Value.cells] using hf0)
  obtain ⟨pal, rfl, hpal⟩ := hues_of_trod (by simpa [Value.cells] using hf1)
  clear hA0 hval0
  simp only [List.append_nil] at hW' hAll
  have hlt : ∀ x ∈ p0 ++ p1, x.block < W.heap.size := fun x hx => hW'.lt x hx
  have hb := bounds_i64 wwd
  refine (paints_walk A B ca cb px pal wd W hpx hpal hb).mono fun e W' ⟨he, hE⟩ => ?_
  subst he
  refine ⟨_, rfl, ?_⟩
  refine ⟨_, _, _, [], p0 ++ p1, [], hW', ?_, ?_, rfl, hE.frame _, fun h => by cases h⟩
  · exact trodAll_mk1 (shut_bool Try.underlying4 true)
  · exact trodAll_ext (ts := [22, 22, 3]) Try.laidOut hE (by
      intro t ht
      simp only [List.mem_cons, List.not_mem_nil, or_false] at ht
      rcases ht with rfl | rfl | rfl <;> exact ⟨by kernel_rfl, of_decide_eq_true (by kernel_rfl)⟩) hAll hlt

theorem composePaints_holds : Rows.ComposePaintsSaid :=
  OpenClaim.holds_of_wide 3 Try.f3 rfl rfl rfl rfl rfl rfl rfl ⟨rfl, rfl, rfl, rfl, rfl⟩ rfl rfl rfl rfl rfl (by kernel_rfl) Try.func3 (by kernel_rfl)
    (of_decide_eq_true (by kernel_rfl)) (by unfold Func.isWrapper; rw [if_neg (of_decide_eq_false (by kernel_rfl))]; exact ⟨rfl, rfl⟩)
    (fun os started H enc _ => paints_lifted os started H enc)
#print axioms composePaints_holds
end Go.Proofs.Ytpikemglnnjemaa
