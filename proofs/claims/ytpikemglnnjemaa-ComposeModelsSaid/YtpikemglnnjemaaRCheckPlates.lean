/- Plates of the reference, walked. -/
import Derived.Test.YtpikemglnnjemaaRPlates
import Derived.Test.YtpikemglnnjemaaExt
namespace Go.Proofs.Ytpikemglnnjemaa
open Go.RowKit

set_option maxRecDepth 100000 in
set_option maxHeartbeats 4000000 in
theorem rPlates_c (A : Option Addr) (cap : Nat) (l : List Plate) (w : World) (hs : Plates w A cap l) :
    Calls Try.prog 27 #[.slice A l.length cap] w fun e w' => e = .returned (.bool (platesB l)) ∧ Ext w w' := by
  have hl := hs.len
  unfold maxLen at hl
  go_enter Try.func27, Try.ntmps27
  go_wp2_with fail
  refine (within_c _ _ _ _).mono ?_
  rintro e w0 ⟨rfl, rfl⟩
  cases h1 : inB 1 8 l.length
  · go_wp2_with fail
    go_ret
    exact ⟨by simp [platesB, h1], Ext.refl _⟩
  have hl8 : l.length ≤ 8 := by have := inB_iff.1 h1; omega
  have H1 := Lib.hid h1
  clear h1
  go_wp2_with fail
  go_loopw [3] (fun i wr => ∃ k : Nat, k ≤ l.length ∧ i = .int .i64 k ∧ Ext w wr ∧ ∀ j, j < k → okAt l j = true) (fun i _ => l.length - (intOf i).toNat)
  case atStart => exact ⟨0, by omega, rfl, Ext.refl _, fun j hj => by omega⟩
  case round =>
    obtain ⟨k, hk, rfl, E, hj⟩ := hrel
    have Hj := Lib.hid hj
    clear hj
    by_cases hlt : k < l.length
    · obtain ⟨b, off, p, rfl, hp, hb, p0, p1, p2, p3⟩ := (hs.ext E).at_ hlt
      have Hp := Lib.hid hp
      clear hp
      have hone : p.one = (inB 1 p.D p.W && (decide (p.D ≤ 8) && (inB 0 99 p.N && decide (p.color ≤ 15)))) := rfl
      have Hone := Lib.hid hone
      clear hone
      have bad : p.one = false → platesB l = false := fun h => platesB_bad hlt (okAt_one Hp.out h)
      have Bad := Lib.hid bad
      clear bad
      obtain ⟨W1, hW1, E1, B4, hz1⟩ := box_ wr #[.int .i64 p.W, .int .i64 p.D, .int .i64 p.N, .int .u8 p.color] 70
      have b4 := B4.cell
      have l4 := B4.lt
      have EE := E.trans E1
      go_wp2_with fail
      refine (within_c _ _ _ _).mono ?_
      rintro e w0 ⟨rfl, rfl⟩
      cases c1 : inB 1 p.D p.W
      · go_wp2_with fail
        go_ret
        exact ⟨by rw [Bad.out (by rw [Hone.out]; simp [c1])]; rfl, EE⟩
      have c1' := inB_iff.1 c1
      go_wp2_with fail
      refine (within_c _ _ _ _).mono ?_
      rintro e w0 ⟨rfl, rfl⟩
      cases c2 : inB 1 8 p.D
      · have c2' := inB_not.1 c2
        go_wp2_with fail
        go_ret
        exact ⟨by rw [Bad.out (by rw [Hone.out]; simp [show ¬ p.D ≤ 8 by omega])]; rfl, EE⟩
      have c2' := inB_iff.1 c2
      go_wp2_with fail
      refine (within_c _ _ _ _).mono ?_
      rintro e w0 ⟨rfl, rfl⟩
      cases c3 : inB 0 99 p.N
      · go_wp2_with fail
        go_ret
        exact ⟨by rw [Bad.out (by rw [Hone.out]; simp [c3])]; rfl, EE⟩
      by_cases c4 : 15 < p.color
      · go_wp2_with fail
        go_ret
        exact ⟨by rw [Bad.out (by rw [Hone.out]; simp [show ¬ p.color ≤ 15 by omega])]; rfl, EE⟩
      have hone : p.one = true := by rw [Hone.out, c1, c3, decide_eq_true (by omega), decide_eq_true (by omega)]; rfl
      clear Hone
      have Hone := Lib.hid hone
      clear hone
      by_cases hk0 : k = 0
      · subst hk0
        simp only [Nat.zero_mul, Nat.add_zero] at p0 p1 p2 p3
        go_wp2_with fail
        refine wp_region_grow (by kernel_rfl) (by kernel_rfl) ?_
        repeat (go_big_quiet_step (fail))
        refine wpQuiet_nil ?_
        intro W3 hW3
        have E3 : Ext W1 W3 := by
          obtain ⟨x, rfl⟩ := hW3
          exact (Ext.refl _).grow x
        clear hW3
        obtain ⟨hcW3, hfW3, hzW3⟩ := ext_facts E3
        go_wp2_with fail
        go_roundw
        case rel => exact ⟨1, by omega, rfl, EE.trans E3, fun j hj => by
          obtain rfl : j = 0 := by omega
          simp [okAt, plateAt_eq Hp.out, Hone.out]⟩
        case measure => simp only [intOf]; omega
      · obtain ⟨b', off', q, hA', hq, hb', q0, q1, q2, q3⟩ := (hs.ext EE).at_ (k := k - 1) (by omega)
        cases hA'
        have Hq := Lib.hid hq
        clear hq
        have hkc : (((k - 1 : Nat) : Nat) : Int) = (k : Int) - 1 := by omega
        have ht : ((k : Int) - 1).toNat = k - 1 := by omega
        have hk1 : (1 : Int) ≤ k := by omega
        have hk2 : 0 < k := by omega
        have next : pairB q p = true → ∀ j, j < k + 1 → okAt l j = true := fun h j hj => by
          rcases Nat.lt_or_ge j k with h' | h'
          · exact Hj.out j h'
          · obtain rfl : j = k := by omega
            rw [okAt_two Hp.out hk0 Hq.out, Hone.out, h]
            rfl
        have Next := Lib.hid next
        clear next
        have bad : pairB q p = false → platesB l = false := fun h => platesB_bad hlt (by rw [okAt_two Hp.out hk0 Hq.out, h, Bool.and_false])
        clear Bad
        have Bad := Lib.hid bad
        clear bad
        have pe := Lib.hid (pairB_eq q p)
        go_wp2_with fail
        refine wp_region_grow (by kernel_rfl) (by kernel_rfl) ?_
        iterate 9 (go_big_quiet_step (fail))
        cases hbef : beforeB q p
        · repeat (go_big_quiet_step ((go_at_call 37; exact quiet_ext (before_is hbef _))))
          refine wpQuiet_nil ?_
          intro W3 hW3
          have E3 : Ext W1 W3 := by
            obtain ⟨x, rfl⟩ := hW3
            exact (Ext.refl _).grow x
          clear hW3
          go_wp2_with fail
          go_ret
          exact ⟨by rw [Bad.out (by rw [pe.out, hbef]; rfl)]; rfl, EE.trans E3⟩
        iterate 3 (go_big_quiet_step ((go_at_call 37; exact quiet_ext (before_is hbef _))))
        by_cases d1 : q.W = p.W
        · by_cases d2 : q.D = p.D
          · by_cases d3 : q.color = 0
            · repeat (go_big_quiet_step (fail))
              refine wpQuiet_nil ?_
              intro W3 hW3
              have E3 : Ext W1 W3 := by
                obtain ⟨x, rfl⟩ := hW3
                exact (Ext.refl _).grow x
              clear hW3
              go_wp2_with fail
              go_ret
              exact ⟨by rw [Bad.out (by rw [pe.out, hbef]; simp [d1, d2, d3])]; rfl, EE.trans E3⟩
            · repeat (go_big_quiet_step (fail))
              refine wpQuiet_nil ?_
              intro W3 hW3
              have E3 : Ext W1 W3 := by
                obtain ⟨x, rfl⟩ := hW3
                exact (Ext.refl _).grow x
              clear hW3
              go_wp2_with fail
              go_roundw
              case rel => exact ⟨k + 1, by omega, by go_num, EE.trans E3, Next.out (by rw [pe.out, hbef]; simp [d3])⟩
              case measure => simp only [intOf]; omega
          · have d2' : (q.D == p.D) = false := by simpa using d2
            repeat (go_big_quiet_step (fail))
            refine wpQuiet_nil ?_
            intro W3 hW3
            have E3 : Ext W1 W3 := by
              obtain ⟨x, rfl⟩ := hW3
              exact (Ext.refl _).grow x
            clear hW3
            go_wp2_with fail
            go_roundw
            case rel => exact ⟨k + 1, by omega, by go_num, EE.trans E3, Next.out (by rw [pe.out, hbef]; simp [d2])⟩
            case measure => simp only [intOf]; omega
        · have d1' : (q.W == p.W) = false := by simpa using d1
          repeat (go_big_quiet_step (fail))
          refine wpQuiet_nil ?_
          intro W3 hW3
          have E3 : Ext W1 W3 := by
            obtain ⟨x, rfl⟩ := hW3
            exact (Ext.refl _).grow x
          clear hW3
          go_wp2_with fail
          go_roundw
          case rel => exact ⟨k + 1, by omega, by go_num, EE.trans E3, Next.out (by rw [pe.out, hbef]; simp [d1])⟩
          case measure => simp only [intOf]; omega
    · obtain rfl : k = l.length := by omega
      have hgood : platesB l = true := platesB_good H1.out Hj.out
      have Hgood := Lib.hid hgood
      clear hgood
      go_wp2_with fail
      go_ret
      exact ⟨by rw [Hgood.out]; rfl, E⟩
theorem rCheckPlates_c (A : Option Addr) (cap : Nat) (l : List Plate) (w : World) (hs : Plates w A cap l) :
    Calls Try.prog 42 #[.slice A l.length cap] w fun e w' => e = .returned (.int .i64 (platesErr l)) ∧ Ext w w' := by
  go_enter Try.func42, Try.ntmps42
  go_wp2_with fail
  refine (rPlates_c A cap l _ hs).mono ?_
  rintro e w1 ⟨rfl, E1⟩
  cases h : platesB l
  · have He := Lib.hid (show platesErr l = 71 by rw [platesErr, h]; rfl)
    go_wp2_with fail
    go_ret
    exact ⟨by rw [He.out]; rfl, E1⟩
  · have He := Lib.hid (show platesErr l = 0 by rw [platesErr, h]; rfl)
    go_wp2_with fail
    go_ret
    exact ⟨by rw [He.out]; rfl, E1⟩
end Go.Proofs.Ytpikemglnnjemaa
