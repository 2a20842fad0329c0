/- ValidShape and CheckShape of the reference. -/
import Derived.Test.YtpikemglnnjemaaValid
namespace Go.Proofs.Ytpikemglnnjemaa
open Go.RowKit

set_option maxHeartbeats 1600000 in
theorem validShape_c (A : Option Addr) (cap : Nat) (wd d h : Int) (cs : List Int) (w : World) (hs : Bytes w A cap cs) :
    Calls Try.prog 41 #[.agg #[.int .i64 wd, .int .i64 d, .int .i64 h, .slice A cs.length cap]] w fun e w' => e = .returned (.bool (Shape.valid ⟨wd, d, h, cs⟩)) ∧ Ext w w' := by
  have hl := hs.len
  unfold maxLen at hl
  obtain ⟨W, hW, E, B, hz⟩ := box_ w #[.int .i64 wd, .int .i64 d, .int .i64 h, .slice A cs.length cap] 25
  have bc := B.cell
  have hb := B.lt
  have hs2 := hs.ext E
  cases h1 : inB 1 8 wd
  · go_enter Try.func41, Try.ntmps41
    go_wp2_with fail
    refine (within_is h1 _).mono ?_
    rintro e w0 ⟨rfl, rfl⟩
    go_wp2_with fail
    go_ret
    exact ⟨by simp [Shape.valid, h1], E⟩
  cases h2 : inB 1 8 d
  · go_enter Try.func41, Try.ntmps41
    go_wp2_with fail
    refine (within_is h1 _).mono ?_
    rintro e w0 ⟨rfl, rfl⟩
    go_wp2_with fail
    refine (within_is h2 _).mono ?_
    rintro e w1 ⟨rfl, rfl⟩
    go_wp2_with fail
    go_ret
    exact ⟨by simp [Shape.valid, h2], E⟩
  cases h3 : inB 1 4 h
  · go_enter Try.func41, Try.ntmps41
    go_wp2_with fail
    refine (within_is h1 _).mono ?_
    rintro e w0 ⟨rfl, rfl⟩
    go_wp2_with fail
    refine (within_is h2 _).mono ?_
    rintro e w1 ⟨rfl, rfl⟩
    go_wp2_with fail
    refine (within_is h3 _).mono ?_
    rintro e w2 ⟨rfl, rfl⟩
    go_wp2_with fail
    go_ret
    exact ⟨by simp [Shape.valid, h3], E⟩
  obtain ⟨hv, hv2⟩ := vol_wrap h1 h2 h3
  rw [hv2] at hv
  by_cases h4 : (cs.length : Int) = wd * d * h
  · have Hv : Hid ((Shape.mk wd d h cs).valid = (plainB cs && inB 1 16 (fullN cs))) := Lib.hid (by simp [Shape.valid, h1, h2, h3, h4])
    go_enter Try.func41, Try.ntmps41
    go_wp2_with fail
    refine (within_is h1 _).mono ?_
    rintro e w0 ⟨rfl, rfl⟩
    go_wp2_with fail
    refine (within_is h2 _).mono ?_
    rintro e w1 ⟨rfl, rfl⟩
    go_wp2_with fail
    refine (within_is h3 _).mono ?_
    rintro e w2 ⟨rfl, rfl⟩
    go_wp2_with fail
    clear hv hv2
    clear h1 h2 h3
    go_loop [3] (fun i => ∃ k : Nat, k ≤ cs.length ∧ i = .int .i64 k ∧ ∀ j c, j < k → cs[j]? = some c → c ≤ 15) (fun i => cs.length - (intOf i).toNat)
    case atStart => exact ⟨0, by omega, rfl, fun j c hj => by omega⟩
    case round =>
      obtain ⟨k, hk, rfl, hj⟩ := hrel
      have Hj := Lib.hid hj
      clear hj
      by_cases hlt : k < cs.length
      · obtain ⟨b, off, c, rfl, hc, hok, hbl, hcell⟩ := hs2.at_ hlt
        have Hc := Lib.hid hc
        clear hc
        by_cases h0 : 15 < c
        · go_wp2_with fail
          go_ret
          refine ⟨?_, E⟩
          have : plainB cs = false := by
            rw [plainB, List.all_eq_false]
            exact ⟨c, List.mem_of_getElem? Hc.out, by simp; omega⟩
          rw [Hv.out, this]
          rfl
        · go_wp2_with fail
          go_round
          case rel =>
            refine ⟨k + 1, by omega, by go_num, fun j c' hj hc' => ?_⟩
            rcases Nat.lt_or_ge j k with h | h
            · exact Hj.out j c' h hc'
            · obtain rfl : j = k := by omega
              rw [Hc.out] at hc'
              cases hc'
              omega
          case measure => simp only [intOf]; omega
      · obtain rfl : k = cs.length := by omega
        have hp : plainB cs = true := by
          rw [plainB, List.all_eq_true]
          intro c hc
          obtain ⟨j, hj⟩ := List.getElem?_of_mem hc
          have : j < cs.length := by
            rcases Nat.lt_or_ge j cs.length with h | h
            · exact h
            · rw [List.getElem?_eq_none h] at hj; cases hj
          simpa using Hj.out j c this hj
        have Hp := Lib.hid hp
        clear hp
        go_wp2_with fail
        refine (rFull_c A cap wd d h cs _ hs2).mono ?_
        rintro e w4 ⟨rfl, E1⟩
        go_wp2_with fail
        refine (within_c _ _ _ _).mono ?_
        rintro e w5 ⟨rfl, rfl⟩
        go_wp2_with fail
        go_ret
        exact ⟨by rw [Hv.out, Hp.out, Bool.true_and]; rfl, E.trans E1⟩
  · go_enter Try.func41, Try.ntmps41
    go_wp2_with fail
    refine (within_is h1 _).mono ?_
    rintro e w0 ⟨rfl, rfl⟩
    go_wp2_with fail
    refine (within_is h2 _).mono ?_
    rintro e w1 ⟨rfl, rfl⟩
    go_wp2_with fail
    refine (within_is h3 _).mono ?_
    rintro e w2 ⟨rfl, rfl⟩
    go_wp2_with fail
    go_ret
    exact ⟨by simp [Shape.valid, h4], E⟩
end Go.Proofs.Ytpikemglnnjemaa
