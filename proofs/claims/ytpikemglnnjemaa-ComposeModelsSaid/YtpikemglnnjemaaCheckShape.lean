/- Which shapes are valid: the program's and the reference's. -/
import Derived.Test.YtpikemglnnjemaaFull
namespace Go.Proofs.Ytpikemglnnjemaa
open Go.RowKit

set_option maxHeartbeats 800000 in
theorem rFull_c (A : Option Addr) (cap : Nat) (wd d h : Int) (cs : List Int) (w : World) (hs : Bytes w A cap cs) :
    Calls Try.prog 56 #[.agg #[.int .i64 wd, .int .i64 d, .int .i64 h, .slice A cs.length cap]] w fun e w' => e = .returned (.int .i64 (fullN cs)) ∧ Ext w w' := by
  have hl := hs.len
  unfold maxLen at hl
  obtain ⟨W, hW, E, B, hz⟩ := box_ w #[.int .i64 wd, .int .i64 d, .int .i64 h, .slice A cs.length cap] 25
  have bc := B.cell
  have hb := B.lt
  have hs2 := hs.ext E
  go_enter Try.func56, Try.ntmps56
  go_wp2
  go_loop [3, 4] (fun n i => ∃ k : Nat, k ≤ cs.length ∧ i = .int .i64 k ∧ n = .int .i64 (fullN (cs.take k))) (fun _ i => cs.length - (intOf i).toNat)
  case atStart => exact ⟨0, by omega, rfl, rfl⟩
  case round =>
    obtain ⟨k, hk, rfl, rfl⟩ := hrel
    by_cases hlt : k < cs.length
    · obtain ⟨b, off, c, rfl, hc, hok, hbl, hcell⟩ := hs2.at_ hlt
      have hf := fullN_succ hc
      have hle := fullN_le (cs.take k)
      rw [List.length_take, Nat.min_eq_left (by omega)] at hle
      by_cases h0 : c = 0
      · have Hf := Lib.hid hf
        clear hf
        subst h0
        go_wp2
        go_round
        case rel => exact ⟨k + 1, by omega, by go_num, by rw [Hf.out]; rfl⟩
        case measure => simp only [intOf]; omega
      · rw [if_neg h0] at hf
        have Hf := Lib.hid hf
        clear hf
        go_wp2
        go_round
        case rel => exact ⟨k + 1, by omega, by go_num, by rw [Hf.out]; go_num⟩
        case measure => simp only [intOf]; omega
    · obtain rfl : k = cs.length := by omega
      go_wp2
      go_ret
      exact ⟨by simp, E⟩

theorem strange_c (c : Int) (w : World) : Calls Try.prog 59 #[.int .u8 c] w fun e w' => e = .returned (.bool (decide (15 < c))) ∧ w = w' := by
  go_enter Try.func59, Try.ntmps59
  go_wp2
  go_ret
  exact ⟨rfl, rfl⟩

/-- No colour beyond the last. -/
def plainB (cs : List Int) : Bool := cs.all fun c => decide (c ≤ 15)
set_option maxHeartbeats 800000 in
theorem indexFunc_c (A : Option Addr) (cap : Nat) (cs : List Int) (w : World) (hs : Bytes w A cap cs) :
    Calls Try.prog 63 #[.slice A cs.length cap, .func (.func 59) #[] #[]] w fun e w' => (∃ r, e = .returned (.int .i64 r) ∧ decide (0 ≤ r) = !plainB cs) ∧ w = w' := by
  have hl := hs.len
  unfold maxLen at hl
  go_enter Try.func63, Try.ntmps63
  go_wp2
  go_loop [8] (fun i => ∃ k : Nat, k ≤ cs.length ∧ i = .int .i64 k ∧ ∀ j c, j < k → cs[j]? = some c → c ≤ 15) (fun i => cs.length - (intOf i).toNat)
  case atStart => exact ⟨0, by omega, rfl, fun j c hj => by omega⟩
  case round =>
    obtain ⟨k, hk, rfl, hj⟩ := hrel
    have Hj := Lib.hid hj
    clear hj
    by_cases hlt : k < cs.length
    · obtain ⟨b, off, c, rfl, hc, hok, hbl, hcell⟩ := hs.at_ hlt
      have Hc := Lib.hid hc
      clear hc
      by_cases h0 : 15 < c
      · go_wp2_with (go_at_call 59; refine (strange_c c _).mono ?_; rintro e w' ⟨rfl, rfl⟩)
        go_ret
        refine ⟨⟨k, rfl, ?_⟩, rfl⟩
        have : plainB cs = false := by
          rw [plainB, List.all_eq_false]
          exact ⟨c, List.mem_of_getElem? Hc.out, by simp; omega⟩
        simp [this]
      · go_wp2_with (go_at_call 59; refine (strange_c c _).mono ?_; rintro e w' ⟨rfl, rfl⟩)
        go_round
        case rel =>
          refine ⟨k + 1, by omega, by go_num, fun j c' hj hc' => ?_⟩
          rcases Nat.lt_or_ge j k with h | h
          · exact Hj.out j c' h hc'
          · obtain rfl : j = k := by omega
            rw [Hc.out] at hc'
            cases hc'
            omega
        case measure => simp only [intOf]; omega
    · obtain rfl : k = cs.length := by omega
      go_wp2
      go_ret
      refine ⟨⟨-1, rfl, ?_⟩, rfl⟩
      have : plainB cs = true := by
        rw [plainB, List.all_eq_true]
        intro c hc
        obtain ⟨j, hj⟩ := List.getElem?_of_mem hc
        have : j < cs.length := by
          rcases Nat.lt_or_ge j cs.length with h | h
          · exact h
          · rw [List.getElem?_eq_none h] at hj; cases hj
        simpa using Hj.out j c this hj
      simp [this]
theorem contains_c (A : Option Addr) (cap : Nat) (cs : List Int) (w : World) (hs : Bytes w A cap cs) :
    Calls Try.prog 60 #[.slice A cs.length cap, .func (.func 59) #[] #[]] w fun e w' => e = .returned (.bool (!plainB cs)) ∧ w = w' := by
  go_enter Try.func60, Try.ntmps60
  go_wp2_with (go_at_call 63; refine (indexFunc_c A cap cs _ hs).mono ?_; rintro e w' ⟨⟨r, rfl, hr⟩, rfl⟩)
  go_ret
  exact ⟨by rw [← hr]; rfl, rfl⟩
end Go.Proofs.Ytpikemglnnjemaa
