/- The given statement LatticeDirectionsSaid: for every input the law returns true, and each argument reads behind the call as it did. No conditions. -/
import Derived.Test.YtenigkngmdofiaaGreatBAlive
import Derived.Test.YtenigkngmdofiaaGreatBGrp
import Derived.Test.YtenigkngmdofiaaGreatBOpen
namespace Go.Proofs.YtenigkngmdofiaaGreat
open Go.RowKit

/-- The opposite direction. -/
def oppN (d : Nat) : Nat := if d % 2 = 0 then d + 1 else d - 1
theorem xor_opp {d : Nat} (hd : d < 6) : bits .xor .i64 (d : Int) 1 = ((oppN d : Nat) : Int) := by
  have e : d = 0 ∨ d = 1 ∨ d = 2 ∨ d = 3 ∨ d = 4 ∨ d = 5 := by omega
  rcases e with rfl | rfl | rfl | rfl | rfl | rfl <;> decide
theorem dirT_opp : ∀ d, d < 6 → ∀ n, n < 24 → dirT (oppN d) n = oppN (dirT d n) := by decide +kernel
theorem oppN_lt : ∀ d, d < 6 → oppN d < 6 := by decide
theorem dirT_inj' : ∀ d, d < 6 → ∀ e, e < 6 → ∀ n, n < 24 → dirT d n = dirT e n → d = e := by decide +kernel
/-- Direction's answers. -/
def dirE (d n : Int) : Int := if (0 ≤ d ∧ d ≤ 5) ∧ 0 ≤ n ∧ n < 24 then 0 else 2
def dirV (d n : Int) : Int := if (0 ≤ d ∧ d ≤ 5) ∧ 0 ≤ n ∧ n < 24 then dirT d.toNat n.toNat else 0
theorem dir_c (d n : Int) (w : World) : Calls Tryz.prog 25 #[.int .i64 d, .int .i64 n] w fun e w' => e = .returned (.tuple #[.int .i64 (dirV d n), .int .i64 (dirE d n)]) ∧ Ext w w' := by
  by_cases h : (0 ≤ d ∧ d ≤ 5) ∧ 0 ≤ n ∧ n < 24
  · obtain ⟨a, rfl⟩ : ∃ a : Nat, d = a := ⟨d.toNat, by omega⟩
    obtain ⟨b, rfl⟩ : ∃ b : Nat, n = b := ⟨n.toNat, by omega⟩
    have := Direction_ok a b w (by omega) (by omega)
    unfold dirV dirE
    rw [if_pos h, if_pos h, Int.toNat_natCast, Int.toNat_natCast]
    exact this
  · unfold dirV dirE
    rw [if_neg h, if_neg h]
    exact Direction_bad d n w h
set_option maxRecDepth 100000 in
set_option maxHeartbeats 16000000 in
theorem directions_walk (d o n : Int) (w : World) : Calls Tryz.prog 4 #[.int .i64 d, .int .i64 o, .int .i64 n] w fun e w' => e = .returned (.bool true) ∧ Ext w w' := by
  have D1 := Lib.hid (fun w => dir_c d n w)
  have D2 := Lib.hid (fun w => dir_c o n w)
  by_cases h1 : (0 ≤ d ∧ d ≤ 5) ∧ 0 ≤ n ∧ n < 24
  rotate_left
  · have e1 : dirE d n = 2 := if_neg h1
    rw [e1] at D1
    obtain ⟨v1, hv1⟩ : ∃ v, dirV d n = v := ⟨_, rfl⟩
    obtain ⟨v2, hv2⟩ : ∃ v, dirV o n = v := ⟨_, rfl⟩
    obtain ⟨v3, hv3⟩ : ∃ v, dirE o n = v := ⟨_, rfl⟩
    rw [hv1] at D1
    rw [hv2, hv3] at D2
    clear h1 e1 hv1 hv2 hv3
    go_enter Tryz.func4, Tryz.ntmps4
    go_wp2_with fail
    refine (alive_c _).mono ?_
    rintro e w1 ⟨rfl, E1⟩
    go_wp2_with fail
    refine (D1.out _).mono ?_
    rintro e w2 ⟨rfl, E2⟩
    go_wp2_with fail
    refine (D2.out _).mono ?_
    rintro e w3 ⟨rfl, E3⟩
    go_wp2_with fail
    go_ret
    exact ⟨rfl, (E1.trans E2).trans E3⟩
  have e1 : dirE d n = 0 := if_pos h1
  by_cases h2 : (0 ≤ o ∧ o ≤ 5) ∧ 0 ≤ n ∧ n < 24
  rotate_left
  · have e2 : dirE o n = 2 := if_neg h2
    rw [e1] at D1
    rw [e2] at D2
    obtain ⟨v1, hv1⟩ : ∃ v, dirV d n = v := ⟨_, rfl⟩
    obtain ⟨v2, hv2⟩ : ∃ v, dirV o n = v := ⟨_, rfl⟩
    rw [hv1] at D1
    rw [hv2] at D2
    clear h1 h2 e1 e2 hv1 hv2
    go_enter Tryz.func4, Tryz.ntmps4
    go_wp2_with fail
    refine (alive_c _).mono ?_
    rintro e w1 ⟨rfl, E1⟩
    go_wp2_with fail
    refine (D1.out _).mono ?_
    rintro e w2 ⟨rfl, E2⟩
    go_wp2_with fail
    refine (D2.out _).mono ?_
    rintro e w3 ⟨rfl, E3⟩
    go_wp2_with fail
    go_ret
    exact ⟨rfl, (E1.trans E2).trans E3⟩
  have e2 : dirE o n = 0 := if_pos h2
  obtain ⟨a, rfl⟩ : ∃ a : Nat, d = a := ⟨d.toNat, by omega⟩
  obtain ⟨b, rfl⟩ : ∃ b : Nat, o = b := ⟨o.toNat, by omega⟩
  obtain ⟨m, rfl⟩ : ∃ m : Nat, n = m := ⟨n.toNat, by omega⟩
  have ha : a < 6 := by omega
  have hb : b < 6 := by omega
  have hm : m < 24 := by omega
  have v1 : dirV a m = dirT a m := if_pos h1
  have v2 : dirV b m = dirT b m := if_pos h2
  rw [e1, v1] at D1
  rw [e2, v2] at D2
  have hA := dirT_lt ha hm
  have hB := dirT_lt hb hm
  have hst := stepS_dir a ha m hm
  have TU := Turn_ok (stepS a).x (stepS a).y (stepS a).z m
  have hn : nearB ⟨(stepS a).x, (stepS a).y, (stepS a).z⟩ (-2000) 2000 = true := by
    have : ∀ a, a < 6 → nearB ⟨(stepS a).x, (stepS a).y, (stepS a).z⟩ (-2000) 2000 = true := by decide
    exact this a ha
  have TU := Lib.hid (fun w => TU w hm hn)
  have hst' : turnS ⟨(stepS a).x, (stepS a).y, (stepS a).z⟩ m = stepS (dirT a m) := hst
  rw [hst'] at TU
  have S1 := Lib.hid (fun w => rstep_c a ha w)
  have S2 := Lib.hid (fun w => rstep_c (dirT a m) hA w)
  have x1 := xor_opp hB
  have x2 := xor_opp hb
  obtain ⟨r1, hr1⟩ : ∃ r : Bool, (((dirT a m : Nat) : Int) == ((dirT b m : Nat) : Int)) = r := ⟨_, rfl⟩
  have hr1' : ((a : Int) == (b : Int)) = r1 := by
    rw [← hr1]
    by_cases e : a = b
    · simp [e]
    · have : dirT a m ≠ dirT b m := fun h => e (dirT_inj' a ha b hb m hm h)
      have h1 : ¬ ((a : Int) = b) := by omega
      have h2 : ¬ (((dirT a m : Nat) : Int) = ((dirT b m : Nat) : Int)) := by omega
      rw [beq_eq_false_iff_ne.2 h1, beq_eq_false_iff_ne.2 h2]
  obtain ⟨r2, hr2⟩ : ∃ r : Bool, (((dirT a m : Nat) : Int) == ((oppN (dirT b m) : Nat) : Int)) = r := ⟨_, rfl⟩
  have hr2' : ((a : Int) == ((oppN b : Nat) : Int)) = r2 := by
    rw [← hr2, ← dirT_opp b hb m hm]
    by_cases e : a = oppN b
    · simp [e]
    · have : dirT a m ≠ dirT (oppN b) m := fun h => e (dirT_inj' a ha _ (oppN_lt b hb) m hm h)
      have h1 : ¬ ((a : Int) = (oppN b : Nat)) := by omega
      have h2 : ¬ (((dirT a m : Nat) : Int) = ((dirT (oppN b) m : Nat) : Int)) := by omega
      rw [beq_eq_false_iff_ne.2 h1, beq_eq_false_iff_ne.2 h2]
  obtain ⟨A, hAe⟩ : ∃ A, dirT a m = A := ⟨_, rfl⟩
  obtain ⟨B, hBe⟩ : ∃ B, dirT b m = B := ⟨_, rfl⟩
  obtain ⟨oB, hoB⟩ : ∃ oB, oppN (dirT b m) = oB := ⟨_, rfl⟩
  obtain ⟨ob, hob⟩ : ∃ oB, oppN b = oB := ⟨_, rfl⟩
  rw [hoB] at x1 hr2
  rw [hob] at x2 hr2'
  rw [hAe] at D1 hA S2 TU hr1 hr2
  rw [hBe] at D2 hB x1 hr1
  obtain ⟨⟨sx, sy, sz⟩, hs⟩ : ∃ s, stepS a = s := ⟨_, rfl⟩
  obtain ⟨⟨tx, ty, tz⟩, ht⟩ : ∃ s, stepS A = s := ⟨_, rfl⟩
  rw [hs] at S1 TU
  rw [ht] at S2 TU
  simp only at S1 S2 TU
  have hcq : ∀ w : World, (binOp .eql 50 (.agg #[.int .i64 tx, .int .i64 ty, .int .i64 tz]) (.agg #[.int .i64 tx, .int .i64 ty, .int .i64 tz])).run Tryz.prog w = .ok (.bool true) w := fun w => by
    rw [pt_eql, Pt.eqB_iff.2 rfl]
  have A0 : (0 : Int) ≤ A := by omega
  have A1 : (A : Int) ≤ 5 := by omega
  clear h1 h2 e1 e2 v1 v2 hst hst' hn ha hb hm hA hB hAe hBe hoB hob hs ht
  go_enter Tryz.func4, Tryz.ntmps4
  go_wp2_with fail
  refine (alive_c _).mono ?_
  rintro e w1 ⟨rfl, E1⟩
  go_wp2_with fail
  refine (D1.out _).mono ?_
  rintro e w2 ⟨rfl, E2⟩
  go_wp2_with fail
  refine (D2.out _).mono ?_
  rintro e w3 ⟨rfl, E3⟩
  go_wp2_with fail
  refine (S1.out _).mono ?_
  rintro e w4 ⟨rfl, E4⟩
  go_wp2_with fail
  refine (TU.out _).mono ?_
  rintro e w5 ⟨rfl, E5⟩
  obtain ⟨W6, hW6, E6, B6, hz6⟩ := mk_ w5 #[.int .i64 tx, .int .i64 ty, .int .i64 tz] 50
  have b6 := B6.cell
  clear hz6
  go_upto_region 7 with (fail)
  refine wp_region_grow (by kernel_rfl) (by kernel_rfl) ?_
  repeat (go_big_quiet_step ((go_at_call 27; exact quiet_ext (S2.out _))))
  refine wpQuiet_nil ?_
  intro W7 hW7
  have E7 : Ext W6 W7 := by
    obtain ⟨x, rfl⟩ := hW7
    exact (Ext.refl _).grow x
  clear hW7
  obtain ⟨hcW7, hfW7, hzW7⟩ := ext_facts E7
  go_wp2_with fail
  go_ret
  exact ⟨by simp, ((((((E1.trans E2).trans E3).trans E4).trans E5).trans E6).trans E7)⟩
end Go.Proofs.YtenigkngmdofiaaGreat
namespace Go.Proofs.YtenigkngmdofiaaGreat
open Go.RowKit Go.ChangeShapes Go.WideShapes Go.ChangeAt Go.Deep Go.Joins

set_option maxRecDepth 100000 in
theorem latticeDirections_lifted (os : Os) (started : os.Started) (H : Type) (enc : TypeId × Value → H) :
    ReturnsInHanded {} Tryz.checked os 4 .any (Rows.latticeDirectionsSpec.pre6 enc Tryz.prog Tryz.f4 Rows.latticeDirectionsRow.domain false) (Rows.latticeDirectionsSpec.post enc Tryz.prog Tryz.f4 false true false false) := by
  refine returnsInHanded_of_change (C := Tryz.checked) Tryz.own started (by kernel_rfl) Tryz.func4
    (ChangeSpec.witness6 (enc := enc) (C := Tryz.checked) false ⟨#[], #[.int .i64 0, .int .i64 0, .int .i64 0], []⟩ 8 (by kernel_rfl) (by kernel_rfl) (by kernel_rfl) (by kernel_rfl)) ?_
  intro W base args ds gs before hval0 hW hcnd _
  have hval : ∀ (j : Nat) t v, Tryz.f4.params[j]? = some t → args[j]? = some v → Value.okWide Tryz.prog W .any base t v := hval0
  have hW' := hW
  obtain ⟨p, q, hA0, hV, rfl, hfz, hnd⟩ := hW
  have hA : DataW.TrodAll enc Tryz.prog W 0 (fun _ => true) true Tryz.f4.params.toList args.toList ds p := hA0
  rw [Tryz.params4] at hA hval
  have hAll := hA
  obtain ⟨v0, v1, v2, d0, d1, d2, p0, p1, p2, rfl, rfl, rfl, h0, h1, h2⟩ := trodAll_three hA
  obtain ⟨rfl, rfl⟩ := trodVars_none hV
  obtain ⟨n0, rfl⟩ := int_open (hval 0 3 v0 rfl rfl) h0
  obtain ⟨n1, rfl⟩ := int_open (hval 1 3 v1 rfl rfl) h1
  obtain ⟨n2, rfl⟩ := int_open (hval 2 3 v2 rfl rfl) h2
  clear hA0 hval0
  simp only [List.append_nil] at hW' hAll
  have hlt : ∀ q ∈ p0 ++ p1 ++ p2, q.block < W.heap.size := fun q hq => hW'.lt q hq
  refine (directions_walk n0 n1 n2 W).mono fun e W' ⟨he, hE⟩ => ?_
  subst he
  refine ⟨_, rfl, ?_⟩
  refine ⟨_, _, _, [], p0 ++ p1 ++ p2, [], hW', ?_, ?_, rfl, hE.frame _, fun h => by cases h⟩
  · exact trodAll_mk1 (shut_bool Tryz.underlying4 true)
  · exact trodAll_ext (ts := [3, 3, 3]) Tryz.laidOut hE (by
      intro t ht
      simp only [List.mem_cons, List.not_mem_nil, or_false] at ht
      rcases ht with rfl | rfl | rfl <;> exact ⟨by kernel_rfl, of_decide_eq_true (by kernel_rfl)⟩) hAll hlt

theorem latticeDirections_holds : Rows.LatticeDirectionsSaid :=
  OpenClaim.holds_of_wide 4 Tryz.f4 rfl rfl rfl rfl rfl rfl rfl ⟨rfl, rfl, rfl, rfl, rfl⟩ rfl rfl rfl rfl rfl (by kernel_rfl) Tryz.func4 (by kernel_rfl)
    (of_decide_eq_true (by kernel_rfl)) (by unfold Func.isWrapper; rw [if_neg (of_decide_eq_false (by kernel_rfl))]; exact ⟨rfl, rfl⟩)
    (fun os started H enc _ => latticeDirections_lifted os started H enc)
#print axioms latticeDirections_holds
end Go.Proofs.YtenigkngmdofiaaGreat
