/- CheckPlates of the program. -/
import Derived.Test.YtpikemglnnjemaaPlates
namespace Go.Proofs.Ytpikemglnnjemaa
open Go.RowKit

def sideI (q p : Plate) : Int := orI (cmpI q.W p.W) (cmpI q.D p.D)
theorem side_cases (q p : Plate) : (sideI q p = -1 ∧ pairB q p = true) ∨ (sideI q p = 1 ∧ pairB q p = false) ∨ (sideI q p = 0 ∧ pairB q p = (decide (q.color ≠ 0) && decide (q.color < p.color))) := by
  unfold sideI orI cmpI pairB
  rcases Int.lt_trichotomy q.W p.W with h | h | h
  · left
    simp [h]
  · rcases Int.lt_trichotomy q.D p.D with h' | h' | h'
    · left
      simp [h, h']
    · right
      right
      simp [h, h']
    · right
      left
      simp [h, h', show ¬ q.D < p.D by omega, show ¬ q.D = p.D by omega]
  · right
    left
    simp [h, show ¬ q.W < p.W by omega, show ¬ q.W = p.W by omega]

theorem okAt_one {l : List Plate} {k : Nat} {p : Plate} (hp : l[k]? = some p) (h : p.one = false) : okAt l k = false := by simp [okAt, plateAt_eq hp, h]
theorem okAt_two {l : List Plate} {k : Nat} {p q : Plate} (hp : l[k]? = some p) (hk : k ≠ 0) (hq : l[k - 1]? = some q) : okAt l k = (p.one && pairB q p) := by simp [okAt, plateAt_eq hp, plateAt_eq hq, hk]

set_option maxRecDepth 100000 in
set_option maxHeartbeats 4000000 in
theorem checkPlates_c (A : Option Addr) (cap : Nat) (l : List Plate) (w : World) (hs : Plates w A cap l) :
    Calls Try.prog 26 #[.slice A l.length cap] w fun e w' => e = .returned (.int .i64 (platesErr l)) ∧ Ext w w' := by
  have hl := hs.len
  unfold maxLen at hl
  cases h1 : inB 1 8 l.length
  · go_enter Try.func26, Try.ntmps26
    go_wp2_with fail
    refine (from_is h1 _).mono ?_
    rintro e w1 ⟨rfl, rfl⟩
    go_wp2_with fail
    go_ret
    exact ⟨by simp [platesErr, platesB, h1], Ext.refl _⟩
  have hl8 : l.length ≤ 8 := by have := inB_iff.1 h1; omega
  go_enter Try.func26, Try.ntmps26
  go_wp2_with fail
  refine (from_is h1 _).mono ?_
  rintro e w1 ⟨rfl, rfl⟩
  go_wp2_with fail
  have H1 := Lib.hid h1
  clear h1
  go_loopw [13] (fun i wr => ∃ k : Nat, k ≤ l.length ∧ i = .int .i64 k ∧ Ext w wr ∧ ∀ j, j < k → okAt l j = true) (fun i _ => l.length - (intOf i).toNat)
  case atStart => exact ⟨0, by omega, rfl, Ext.refl _, fun j hj => by omega⟩
  case round =>
    obtain ⟨k, hk, rfl, E, hj⟩ := hrel
    have Hj := Lib.hid hj
    clear hj
    by_cases hlt : k < l.length
    · obtain ⟨b, off, p, rfl, hp, hb, p0, p1, p2, p3⟩ := (hs.ext E).at_ hlt
      obtain ⟨W1, hW1, E1, B4, hz1⟩ := box_ wr #[.int .i64 p.W, .int .i64 p.D, .int .i64 p.N, .int .u8 p.color] 70
      have b4 := B4.cell
      have l4 := B4.lt
      have Hp := Lib.hid hp
      clear hp
      have hone : p.one = (inB 1 p.D p.W && (decide (p.D ≤ 8) && (inB 0 99 p.N && decide (p.color ≤ 15)))) := rfl
      have Hone := Lib.hid hone
      clear hone
      have bad : p.one = false → platesErr l = 71 := fun h => by rw [platesErr, platesB_bad hlt (okAt_one Hp.out h)]; rfl
      have Bad := Lib.hid bad
      clear bad
      cases c1 : inB 1 p.D p.W
      · go_wp2_with fail
        refine (from_is c1 _).mono ?_
        rintro e w1 ⟨rfl, rfl⟩
        go_wp2_with fail
        go_ret
        exact ⟨by rw [Bad.out (by rw [Hone.out]; simp [c1])]; rfl, E.trans E1⟩
      by_cases c2 : 8 < p.D
      · go_wp2_with fail
        refine (from_is c1 _).mono ?_
        rintro e w1 ⟨rfl, rfl⟩
        go_wp2_with fail
        go_ret
        exact ⟨by rw [Bad.out (by rw [Hone.out]; simp [show ¬ p.D ≤ 8 by omega])]; rfl, E.trans E1⟩
      cases c3 : inB 0 99 p.N
      · go_wp2_with fail
        refine (from_is c1 _).mono ?_
        rintro e w1 ⟨rfl, rfl⟩
        go_wp2_with fail
        refine (from_is c3 _).mono ?_
        rintro e w1 ⟨rfl, rfl⟩
        go_wp2_with fail
        go_ret
        exact ⟨by rw [Bad.out (by rw [Hone.out]; simp [c3])]; rfl, E.trans E1⟩
      by_cases c4 : 15 < p.color
      · go_wp2_with fail
        refine (from_is c1 _).mono ?_
        rintro e w1 ⟨rfl, rfl⟩
        go_wp2_with fail
        refine (from_is c3 _).mono ?_
        rintro e w1 ⟨rfl, rfl⟩
        go_wp2_with fail
        go_ret
        exact ⟨by rw [Bad.out (by rw [Hone.out]; simp [show ¬ p.color ≤ 15 by omega])]; rfl, E.trans E1⟩
      have hone : p.one = true := by rw [Hone.out, c1, c3, decide_eq_true (by omega), decide_eq_true (by omega)]; rfl
      clear Hone
      have Hone := Lib.hid hone
      clear hone
      by_cases hk0 : k = 0
      · subst hk0
        simp only [Nat.zero_mul, Nat.add_zero] at p0 p1 p2 p3
        go_wp2_with fail
        refine (from_is c1 _).mono ?_
        rintro e w1 ⟨rfl, rfl⟩
        go_wp2_with fail
        refine (from_is c3 _).mono ?_
        rintro e w1 ⟨rfl, rfl⟩
        go_wp2_with fail
        go_roundw
        case rel => exact ⟨1, by omega, rfl, E.trans E1, fun j hj => by
          obtain rfl : j = 0 := by omega
          simp [okAt, plateAt_eq Hp.out, Hone.out]⟩
        case measure => simp only [intOf]; omega
      · obtain ⟨b', off', q, hA', hq, hb', q0, q1, q2, q3⟩ := (hs.ext (E.trans E1)).at_ (k := k - 1) (by omega)
        cases hA'
        have Hq := Lib.hid hq
        clear hq
        obtain ⟨W2, hW2, E2, B5, hz2⟩ := box_ W1 #[.int .i64 q.W, .int .i64 q.D, .int .i64 q.N, .int .u8 q.color] 70
        have B4' := B4.ext E2
        rw [hz1] at B5
        have b4' := B4'.cell
        have b5 := B5.cell
        have hkc : (((k - 1 : Nat) : Nat) : Int) = (k : Int) - 1 := by omega
        have ht : ((k : Int) - 1).toNat = k - 1 := by omega
        have hk1 : (1 : Int) ≤ k := by omega
        go_wp2_with fail
        refine (from_is c1 _).mono ?_
        rintro e w1 ⟨rfl, rfl⟩
        go_wp2_with fail
        refine (from_is c3 _).mono ?_
        rintro e w1 ⟨rfl, rfl⟩
        go_wp2_with fail
        refine wp_region_tail 10 (by kernel_rfl) (by kernel_rfl) ?_
        simp only [List.take_succ_cons, List.take_zero, List.drop_succ_cons, List.drop_zero]
        repeat (go_big_quiet_step ((go_at_call 36; exact quiet_grow_same (compare_c _ _ _))))
        refine wpQuiet_nil ?_
        intro W3 hW3
        have E3 : Ext W2 W3 := by
          obtain ⟨x, rfl⟩ := hW3
          exact (Ext.refl _).grow x
        clear hW3
        obtain ⟨W4, hW4, E4, B6, hz4⟩ := box_ W3 #[.int .i64 (cmpI q.W p.W), .int .i64 (cmpI q.D p.D)] 3
        have EE := (((E.trans E1).trans E2).trans E3).trans E4
        have B4'' := (B4'.ext E3).ext E4
        have B5'' := (B5.ext E3).ext E4
        have c4' := B4''.cell
        have c5' := B5''.cell
        go_wp2_with fail
        refine (or_c W3.heap.size _ _ _ B6.lt (B6.cell 0) (B6.cell 1)).mono ?_
        rintro e w1 ⟨rfl, hw1⟩
        subst w1
        rw [show orI (cmpI q.W p.W) (cmpI q.D p.D) = sideI q p from rfl]
        have next : pairB q p = true → ∀ j, j < k + 1 → okAt l j = true := fun h j hj => by
          rcases Nat.lt_or_ge j k with h' | h'
          · exact Hj.out j h'
          · obtain rfl : j = k := by omega
            rw [okAt_two Hp.out hk0 Hq.out, Hone.out, h]
            rfl
        have Next := Lib.hid next
        clear next
        have bad : pairB q p = false → platesErr l = 71 := fun h => by
          rw [platesErr, platesB_bad hlt (by rw [okAt_two Hp.out hk0 Hq.out, h, Bool.and_false])]; rfl
        have Bad := Lib.hid bad
        clear bad
        rcases side_cases q p with ⟨hs0, hpair⟩ | ⟨hs0, hpair⟩ | ⟨hs0, hpair⟩
        · have Hpair := Lib.hid hpair
          clear hpair
          rw [hs0]
          go_wp2_with fail
          go_roundw
          case rel => exact ⟨k + 1, by omega, by go_num, EE, Next.out Hpair.out⟩
          case measure => simp only [intOf]; omega
        · have Hpair := Lib.hid hpair
          clear hpair
          rw [hs0]
          go_wp2_with fail
          go_ret
          exact ⟨by rw [Bad.out Hpair.out]; rfl, EE⟩
        · have Hpair := Lib.hid hpair
          clear hpair
          rw [hs0]
          by_cases hc0 : q.color = 0
          · have hb : pairB q p = false := by rw [Hpair.out]; simp [hc0]
            have Hb := Lib.hid hb
            clear hb
            go_wp2_with fail
            go_ret
            exact ⟨by rw [Bad.out Hb.out]; rfl, EE⟩
          · by_cases hc1 : q.color < p.color
            · have hb : pairB q p = true := by rw [Hpair.out]; simp [hc0, hc1]
              have Hb := Lib.hid hb
              clear hb
              have hc2 : decide (p.color ≤ q.color) = false := by simp; omega
              have hc3 : ¬ p.color ≤ q.color := by omega
              go_wp2_with fail
              go_roundw
              case rel => exact ⟨k + 1, by omega, by go_num, EE, Next.out Hb.out⟩
              case measure => simp only [intOf]; omega
            · have hb : pairB q p = false := by rw [Hpair.out]; simp [hc1]
              have Hb := Lib.hid hb
              clear hb
              go_wp2_with fail
              go_ret
              exact ⟨by rw [Bad.out Hb.out]; rfl, EE⟩
    · obtain rfl : k = l.length := by omega
      have hgood : platesErr l = 0 := by rw [platesErr, platesB_good H1.out Hj.out]; rfl
      have Hgood := Lib.hid hgood
      clear hgood
      go_wp2_with fail
      go_ret
      exact ⟨by rw [Hgood.out]; rfl, E⟩
end Go.Proofs.Ytpikemglnnjemaa
