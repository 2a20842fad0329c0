/- The given statement LatticeLinksSaid: for every input the law returns true, and each argument reads behind the call as it did. No conditions. -/
import Derived.Test.YtenigkngmdofiaaGreatBRJoinB
import Derived.Test.YtenigkngmdofiaaGreatBLinkS
import Derived.Test.YtenigkngmdofiaaGreatBApi
import Derived.Test.YtenigkngmdofiaaGreatBOpen
namespace Go.Proofs.YtenigkngmdofiaaGreat
open Go.RowKit

theorem great_is {qs : List (Knd × KAt)} {A : Option Addr} {cap : Nat} {B : Option Addr} {n cb : Nat} {r : Bool} (h : greatB (qs.map (·.1)) n = r) {w : World} (hk : Kinds w A cap qs) (hn : n ≤ maxLen) :
    Calls Tryz.prog 14 #[.slice A qs.length cap, .agg #[.slice B n cb]] w fun e w' => e = .returned (.bool r) ∧ Ext w w' := by
  subst h
  exact great_c _ _ _ _ _ _ _ hk hn
set_option maxRecDepth 100000 in
set_option maxHeartbeats 16000000 in
theorem links_walk (qs : List (Knd × KAt)) (QA : Option Addr) (qc : Nat) (bs : List Brk) (B : Option Addr) (cb : Nat) (w : World) (hk : Kinds w QA qc qs) (hb : Bricks w B cb bs) (_ : B = none → cb = 0) :
    Calls Tryz.prog 3 #[.slice QA qs.length qc, .agg #[.slice B bs.length cb]] w fun e w' => e = .returned (.bool true) ∧ Ext w w' := by
  obtain ⟨W1, hW1, E1, B1, hz1⟩ := mk_ w #[.slice B bs.length cb] 25
  have b1 := B1.cell
  clear hz1
  obtain ⟨gr, hg⟩ : ∃ r, greatB (qs.map (·.1)) bs.length = r := ⟨_, rfl⟩
  have GR := great_is (B := B) (cb := cb) hg (hk.ext E1) hb.len
  cases gr
  rotate_left
  · clear hg
    go_enter Tryz.func3, Tryz.ntmps3
    go_wp2_with fail
    refine GR.mono ?_
    rintro e W4 ⟨rfl, E4⟩
    go_wp2_with fail
    go_ret
    exact ⟨rfl, E1.trans E4⟩
  have hfew := fun h => links_few hk hb.2 h
  have LA := Lib.hid (fun W (E : Ext w W) => linksA_c qs QA qc bs B cb W (hk.ext E) (hb.ext E))
  have RL := Lib.hid (fun W (E : Ext w W) => rLinksA_c qs QA qc bs B cb W (hk.ext E) (hb.ext E))
  have JO := Lib.hid (fun W (E : Ext w W) => joints_c qs QA qc bs B cb W (hk.ext E) (hb.ext E) hfew)
  have RJ := Lib.hid (fun W (E : Ext w W) => rJoints_c qs QA qc bs B cb W (hk.ext E) (hb.ext E) hfew)
  have GO := Lib.hid (fun W (E : Ext w W) => groups_c qs QA qc bs B cb W (hk.ext E) (hb.ext E) hfew)
  have RG := Lib.hid (fun W (E : Ext w W) => rGroups_c qs QA qc bs B cb W (hk.ext E) (hb.ext E) hfew)
  obtain ⟨ll, hll⟩ : ∃ l, linkR (qs.map (·.1)) bs = l := ⟨_, rfl⟩
  obtain ⟨jl, hjl⟩ : ∃ l, jointR (qs.map (·.1)) bs = l := ⟨_, rfl⟩
  obtain ⟨gl, hgl⟩ : ∃ l, groupR (qs.map (·.1)) bs = l := ⟨_, rfl⟩
  obtain ⟨ce, hce⟩ : ∃ l, checkErr (qs.map (·.1)) bs = l := ⟨_, rfl⟩
  rw [hll, hce] at LA RL
  rw [hjl, hce] at JO RJ
  rw [hgl, hce] at GO RG
  obtain ⟨nq, hnq⟩ : ∃ n, qs.length = n := ⟨_, rfl⟩
  rw [hnq] at GR LA RL JO RJ GO RG ⊢
  obtain ⟨nb, hnb⟩ : ∃ n, bs.length = n := ⟨_, rfl⟩
  rw [hnb] at B1 b1 GR LA RL JO RJ GO RG hW1 ⊢
  have ecc : (ce != ce) = false := by simp
  have ecd : (ce == ce) = true := by simp
  clear hg hk hb hll hjl hgl hce hnq hnb hfew
  go_enter Tryz.func3, Tryz.ntmps3
  go_wp2_with fail
  refine GR.mono ?_
  rintro e W2 ⟨rfl, E2⟩
  have E := E1.trans E2
  clear b1 hW1 GR
  have b1 := (B1.ext E2).cell
  go_wp2_with fail
  refine (LA.out _ E).mono ?_
  rintro e W3 ⟨A3, c3, rfl, h3, E3⟩
  have B3 := (B1.ext E2).ext E3
  clear b1
  have b1 := B3.cell
  go_wp2_with fail
  refine (RL.out _ (E.trans E3)).mono ?_
  rintro e W4 ⟨A4, c4, rfl, h4, E4⟩
  have B4 := B3.ext E4
  clear b1
  have h3' := h3.ext E4
  have SL := sameLinks_c A3 A4 c3 c4 ll _ h3' h4
  clear h3 h3' h4
  go_wp2_with fail
  refine SL.mono ?_
  rintro e W5 ⟨rfl, E5⟩
  have F5 := ((E.trans E3).trans E4).trans E5
  have B5 := B4.ext E5
  clear E E1 E2 E3 E4 E5 B1 B3 B4 SL LA RL
  have b1 := B5.cell
  go_wp2_with fail
  refine (JO.out _ F5).mono ?_
  rintro e W6 ⟨A6, c6, rfl, h6, E6⟩
  have B6 := B5.ext E6
  clear b1
  have b1 := B6.cell
  go_wp2_with fail
  refine (RJ.out _ (F5.trans E6)).mono ?_
  rintro e W7 ⟨A7, c7, rfl, h7, E7⟩
  have B7 := B6.ext E7
  clear b1
  have h6' := h6.ext E7
  have SJ := sameJoints_c A6 A7 c6 c7 jl _ h6' h7
  clear h6 h6' h7
  go_wp2_with fail
  refine SJ.mono ?_
  rintro e W8 ⟨rfl, E8⟩
  have F8 := ((F5.trans E6).trans E7).trans E8
  have B8 := B7.ext E8
  clear F5 E6 E7 E8 B5 B6 B7 SJ JO RJ
  have b1 := B8.cell
  go_wp2_with fail
  refine (GO.out _ F8).mono ?_
  rintro e W9 ⟨A9, c9, rfl, h9, E9⟩
  have B9 := B8.ext E9
  clear b1
  have b1 := B9.cell
  go_wp2_with fail
  refine (RG.out _ (F8.trans E9)).mono ?_
  rintro e WA ⟨AA, cA, rfl, hA, EA⟩
  have F := (F8.trans E9).trans EA
  clear b1
  have h9' := h9.ext EA
  have SI := rSameInts_c A9 AA c9 cA gl gl _ h9' hA
  rw [eqI_iff.2 rfl] at SI
  clear h9 h9' hA
  go_wp2_with fail
  refine SI.mono ?_
  rintro e WB ⟨rfl, EB⟩
  go_wp2_with fail
  go_ret
  exact ⟨rfl, F.trans EB⟩
end Go.Proofs.YtenigkngmdofiaaGreat
namespace Go.Proofs.YtenigkngmdofiaaGreat
open Go.RowKit Go.ChangeShapes Go.WideShapes Go.ChangeAt Go.Deep Go.Joins

set_option maxRecDepth 100000 in
theorem latticeLinks_lifted (os : Os) (started : os.Started) (H : Type) (enc : TypeId × Value → H) :
    ReturnsInHanded {} Tryz.checked os 3 .any (Rows.latticeLinksSpec.pre6 enc Tryz.prog Tryz.f3 Rows.latticeLinksRow.domain false) (Rows.latticeLinksSpec.post enc Tryz.prog Tryz.f3 false true false false) := by
  refine returnsInHanded_of_change (C := Tryz.checked) Tryz.own started (by kernel_rfl) Tryz.func3
    (ChangeSpec.witness6 (enc := enc) (C := Tryz.checked) false ⟨#[], #[.slice none 0 0, .agg #[.slice none 0 0]], []⟩ 8 (by kernel_rfl) (by kernel_rfl) (by kernel_rfl) (by kernel_rfl)) ?_
  intro W base args ds gs before hval0 hW hcnd _
  have hval : ∀ (j : Nat) t v, Tryz.f3.params[j]? = some t → args[j]? = some v → Value.okWide Tryz.prog W .any base t v := hval0
  have hW' := hW
  obtain ⟨p, q, hA0, hV, rfl, hfz, hnd⟩ := hW
  have hA : DataW.TrodAll enc Tryz.prog W 0 (fun _ => true) true Tryz.f3.params.toList args.toList ds p := hA0
  rw [Tryz.params3] at hA hval
  have hAll := hA
  obtain ⟨v0, v1, d0, d1, p0, p1, rfl, rfl, rfl, h0, h1⟩ := trodAll_two hA
  obtain ⟨rfl, rfl⟩ := trodVars_none hV
  obtain ⟨C, n1, cc, rfl⟩ := okWide_slice Tryz.underlying22 (hval 0 22 v0 rfl rfl)
  obtain ⟨fu0, hf0⟩ := h0
  obtain ⟨qs, rfl, hk, -⟩ := kinds_of_trod (by simpa [Value.cells] using hf0)
  obtain ⟨D, cd, bs, rfl, hb, hnil⟩ := model_open (hval 1 25 v1 rfl rfl) h1
  clear hA0 hval0
  simp only [List.append_nil] at hW' hAll
  have hlt : ∀ q ∈ p0 ++ p1, q.block < W.heap.size := fun q hq => hW'.lt q hq
  refine (links_walk qs C cc bs D cd W hk hb hnil).mono fun e W' ⟨he, hE⟩ => ?_
  subst he
  refine ⟨_, rfl, ?_⟩
  refine ⟨_, _, _, [], p0 ++ p1, [], hW', ?_, ?_, rfl, hE.frame _, fun h => by cases h⟩
  · exact trodAll_mk1 (shut_bool Tryz.underlying4 true)
  · exact trodAll_ext (ts := [22, 25]) Tryz.laidOut hE (by
      intro t ht
      simp only [List.mem_cons, List.not_mem_nil, or_false] at ht
      rcases ht with rfl | rfl <;> exact ⟨by kernel_rfl, of_decide_eq_true (by kernel_rfl)⟩) hAll hlt

theorem latticeLinks_holds : Rows.LatticeLinksSaid :=
  OpenClaim.holds_of_wide 3 Tryz.f3 rfl rfl rfl rfl rfl rfl rfl ⟨rfl, rfl, rfl, rfl, rfl⟩ rfl rfl rfl rfl rfl (by kernel_rfl) Tryz.func3 (by kernel_rfl)
    (of_decide_eq_true (by kernel_rfl)) (by unfold Func.isWrapper; rw [if_neg (of_decide_eq_false (by kernel_rfl))]; exact ⟨rfl, rfl⟩)
    (fun os started H enc _ => latticeLinks_lifted os started H enc)
#print axioms latticeLinks_holds
end Go.Proofs.YtenigkngmdofiaaGreat
