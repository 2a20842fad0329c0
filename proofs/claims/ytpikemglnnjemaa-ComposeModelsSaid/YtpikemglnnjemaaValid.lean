/- CheckShape and ValidShape. -/
import Derived.Test.YtpikemglnnjemaaCheckShape
namespace Go.Proofs.Ytpikemglnnjemaa
open Go.RowKit

def Shape.valid (s : Shape) : Bool := inB 1 8 s.W && (inB 1 8 s.D && (inB 1 4 s.H && (decide ((s.cells.length : Int) = s.W * s.D * s.H) && (plainB s.cells && inB 1 16 (fullN s.cells)))))
theorem mul_bd {a b : Int} {A B : Nat} (h1 : 1 ≤ a) (h2 : a ≤ A) (h3 : 1 ≤ b) (h4 : b ≤ B) : 1 ≤ a * b ∧ a * b ≤ (A * B : Nat) := by
  constructor
  · have := Int.mul_pos (a := a) (b := b) (by omega) (by omega)
    omega
  · rw [Int.natCast_mul]
    exact Int.mul_le_mul h2 h4 (by omega) (by omega)
theorem vol_wrap {a b c : Int} (ha : inB 1 8 a = true) (hb : inB 1 8 b = true) (hc : inB 1 4 c = true) : wrap64 (wrap64 (a * b) * c) = a * b * c ∧ wrap64 (a * b) = a * b := by
  rw [inB_iff] at ha hb hc
  have h1 := mul_bd (A := 8) (B := 8) ha.1 ha.2 hb.1 hb.2
  have h2 := mul_bd (A := 64) (B := 4) h1.1 h1.2 hc.1 hc.2
  have e1 : wrap64 (a * b) = a * b := IntWalk.wrap64_in _ (by omega)
  exact ⟨by rw [e1]; exact IntWalk.wrap64_in _ (by omega), e1⟩

theorem from_is {lo hi n : Int} {b : Bool} (h : inB lo hi n = b) (w : World) : Calls Try.prog 15 #[.int .i64 lo, .int .i64 hi, .int .i64 n] w fun e w' => e = .returned (.bool b) ∧ w = w' := by
  subst h
  exact from_c lo hi n w
theorem within_is {lo hi n : Int} {b : Bool} (h : inB lo hi n = b) (w : World) : Calls Try.prog 20 #[.int .i64 n, .int .i64 lo, .int .i64 hi] w fun e w' => e = .returned (.bool b) ∧ w = w' := by
  subst h
  exact within_c n lo hi w
theorem contains_is {A : Option Addr} {cap : Nat} {cs : List Int} {b : Bool} (h : plainB cs = b) (w : World) (hs : Bytes w A cap cs) :
    Calls Try.prog 60 #[.slice A cs.length cap, .func (.func 59) #[] #[]] w fun e w' => e = .returned (.bool (!b)) ∧ w = w' := by
  subst h
  exact contains_c A cap cs w hs
def shapeErr (s : Shape) : Int := if s.valid then 0 else 70

set_option maxHeartbeats 1600000 in
theorem checkShape_c (A : Option Addr) (cap : Nat) (wd d h : Int) (cs : List Int) (w : World) (hs : Bytes w A cap cs) :
    Calls Try.prog 47 #[.agg #[.int .i64 wd, .int .i64 d, .int .i64 h, .slice A cs.length cap]] w fun e w' => e = .returned (.int .i64 (shapeErr ⟨wd, d, h, cs⟩)) ∧ Ext w w' := by
  have hl := hs.len
  unfold maxLen at hl
  obtain ⟨W, hW, E, B, hz⟩ := box_ w #[.int .i64 wd, .int .i64 d, .int .i64 h, .slice A cs.length cap] 25
  have bc := B.cell
  have hb := B.lt
  have hs2 := hs.ext E
  cases h1 : inB 1 8 wd
  · go_enter Try.func47, Try.ntmps47
    go_wp2_with fail
    refine (from_is h1 _).mono ?_
    rintro e w0 ⟨rfl, rfl⟩
    go_wp2_with fail
    go_ret
    exact ⟨by simp [shapeErr, Shape.valid, h1], E⟩
  cases h2 : inB 1 8 d
  · go_enter Try.func47, Try.ntmps47
    go_wp2_with fail
    refine (from_is h1 _).mono ?_
    rintro e w0 ⟨rfl, rfl⟩
    go_wp2_with fail
    refine (from_is h2 _).mono ?_
    rintro e w1 ⟨rfl, rfl⟩
    go_wp2_with fail
    go_ret
    exact ⟨by simp [shapeErr, Shape.valid, h2], E⟩
  cases h3 : inB 1 4 h
  · go_enter Try.func47, Try.ntmps47
    go_wp2_with fail
    refine (from_is h1 _).mono ?_
    rintro e w0 ⟨rfl, rfl⟩
    go_wp2_with fail
    refine (from_is h2 _).mono ?_
    rintro e w1 ⟨rfl, rfl⟩
    go_wp2_with fail
    refine (from_is h3 _).mono ?_
    rintro e w2 ⟨rfl, rfl⟩
    go_wp2_with fail
    go_ret
    exact ⟨by simp [shapeErr, Shape.valid, h3], E⟩
  obtain ⟨hv, hv2⟩ := vol_wrap h1 h2 h3
  rw [hv2] at hv
  by_cases h4 : (cs.length : Int) = wd * d * h
  · cases h5 : plainB cs
    · go_enter Try.func47, Try.ntmps47
      go_wp2_with fail
      refine (from_is h1 _).mono ?_
      rintro e w0 ⟨rfl, rfl⟩
      go_wp2_with fail
      refine (from_is h2 _).mono ?_
      rintro e w1 ⟨rfl, rfl⟩
      go_wp2_with fail
      refine (from_is h3 _).mono ?_
      rintro e w2 ⟨rfl, rfl⟩
      go_wp2_with fail
      refine (contains_is h5 _ hs2).mono ?_
      rintro e w3 ⟨rfl, rfl⟩
      go_wp2_with fail
      go_ret
      exact ⟨by simp [shapeErr, Shape.valid, h5], E⟩
    · cases h6 : inB 1 16 (fullN cs)
      · go_enter Try.func47, Try.ntmps47
        go_wp2_with fail
        refine (from_is h1 _).mono ?_
        rintro e w0 ⟨rfl, rfl⟩
        go_wp2_with fail
        refine (from_is h2 _).mono ?_
        rintro e w1 ⟨rfl, rfl⟩
        go_wp2_with fail
        refine (from_is h3 _).mono ?_
        rintro e w2 ⟨rfl, rfl⟩
        go_wp2_with fail
        refine (contains_is h5 _ hs2).mono ?_
        rintro e w3 ⟨rfl, rfl⟩
        go_wp2_with fail
        refine (full_c A cap wd d h cs _ hs2).mono ?_
        rintro e w4 ⟨rfl, E1⟩
        go_wp2_with fail
        refine (from_is h6 _).mono ?_
        rintro e w5 ⟨rfl, rfl⟩
        go_wp2_with fail
        go_ret
        exact ⟨by simp [shapeErr, Shape.valid, h6], E.trans E1⟩
      · go_enter Try.func47, Try.ntmps47
        go_wp2_with fail
        refine (from_is h1 _).mono ?_
        rintro e w0 ⟨rfl, rfl⟩
        go_wp2_with fail
        refine (from_is h2 _).mono ?_
        rintro e w1 ⟨rfl, rfl⟩
        go_wp2_with fail
        refine (from_is h3 _).mono ?_
        rintro e w2 ⟨rfl, rfl⟩
        go_wp2_with fail
        refine (contains_is h5 _ hs2).mono ?_
        rintro e w3 ⟨rfl, rfl⟩
        go_wp2_with fail
        refine (full_c A cap wd d h cs _ hs2).mono ?_
        rintro e w4 ⟨rfl, E1⟩
        go_wp2_with fail
        refine (from_is h6 _).mono ?_
        rintro e w5 ⟨rfl, rfl⟩
        go_wp2_with fail
        go_ret
        exact ⟨by simp [shapeErr, Shape.valid, h1, h2, h3, h4, h5, h6], E.trans E1⟩
  · go_enter Try.func47, Try.ntmps47
    go_wp2_with fail
    refine (from_is h1 _).mono ?_
    rintro e w0 ⟨rfl, rfl⟩
    go_wp2_with fail
    refine (from_is h2 _).mono ?_
    rintro e w1 ⟨rfl, rfl⟩
    go_wp2_with fail
    refine (from_is h3 _).mono ?_
    rintro e w2 ⟨rfl, rfl⟩
    go_wp2_with fail
    go_ret
    exact ⟨by simp [shapeErr, Shape.valid, h4], E⟩
end Go.Proofs.Ytpikemglnnjemaa
