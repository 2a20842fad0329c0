/- Contracts of the small number functions of layer 7: from, within, far and what far calls. -/
import Derived.Test.YtpikemglnnjemaaGrow
namespace Go.Proofs.Ytpikemglnnjemaa
open Go.RowKit

def inB (lo hi n : Int) : Bool := decide (lo ≤ n) && decide (n ≤ hi)
theorem inB_iff {lo hi n : Int} : inB lo hi n = true ↔ lo ≤ n ∧ n ≤ hi := by simp [inB]
theorem inB_not {lo hi n : Int} : inB lo hi n = false ↔ ¬ (lo ≤ n ∧ n ≤ hi) := by
  rw [← inB_iff]; simp

set_option maxHeartbeats 400000 in
theorem from_c (lo hi n : Int) (w : World) :
    Calls Try.prog 15 #[.int .i64 lo, .int .i64 hi, .int .i64 n] w fun e w' => e = .returned (.bool (inB lo hi n)) ∧ w = w' := by
  by_cases h : lo ≤ n
  · go_enter Try.func15, Try.ntmps15
    go_wp2
    go_ret
    exact ⟨by simp [h, inB], rfl⟩
  · go_enter Try.func15, Try.ntmps15
    go_wp2
    go_ret
    exact ⟨by simp [h, inB]; omega, rfl⟩

set_option maxHeartbeats 400000 in
theorem within_c (n lo hi : Int) (w : World) :
    Calls Try.prog 20 #[.int .i64 n, .int .i64 lo, .int .i64 hi] w fun e w' => e = .returned (.bool (inB lo hi n)) ∧ w = w' := by
  by_cases h : lo ≤ n
  · go_enter Try.func20, Try.ntmps20
    go_wp2
    go_ret
    exact ⟨by simp [h, inB], rfl⟩
  · go_enter Try.func20, Try.ntmps20
    go_wp2
    go_ret
    exact ⟨by simp [h, inB]; omega, rfl⟩

/-- The square of a difference. -/
def sqd (x y : Int) : Int := (x - y) * (x - y)
theorem sqd_bd (x y : Int) (hx : 0 ≤ x) (hx' : x ≤ 255) (hy : 0 ≤ y) (hy' : y ≤ 255) : 0 ≤ sqd x y ∧ sqd x y ≤ 65025 := by
  unfold sqd
  have h1 : (x - y).natAbs ≤ 255 := by omega
  have h2 : (x - y).natAbs * (x - y).natAbs ≤ 255 * 255 := Nat.mul_le_mul h1 h1
  have h3 : (((x - y).natAbs * (x - y).natAbs : Nat) : Int) = (x - y) * (x - y) := by
    rw [Int.natCast_mul, Int.natAbs_mul_self']
  omega
theorem sqd_wrap (x y : Int) (hx : 0 ≤ x) (hx' : x ≤ 255) (hy : 0 ≤ y) (hy' : y ≤ 255) : wrap64 ((x - y) * (x - y)) = sqd x y := by
  have := sqd_bd x y hx hx' hy hy'
  exact IntWalk.wrap64_in _ (by unfold sqd at this; omega)

set_option maxHeartbeats 400000 in
theorem sq_c (x y : Int) (w : World) (hx : 0 ≤ x) (hx' : x ≤ 255) (hy : 0 ≤ y) (hy' : y ≤ 255) :
    Calls Try.prog 28 #[.int .u8 x, .int .u8 y] w fun e w' => e = .returned (.int .i64 (sqd x y)) ∧ w = w' := by
  go_enter Try.func28, Try.ntmps28
  go_wp2
  go_ret
  exact ⟨ret_int (sqd_wrap x y hx hx' hy hy'), rfl⟩

/-- A hue. -/
structure Hue where
  r : Int
  g : Int
  b : Int
def Hue.cells (h : Hue) : List Value := [.int .u8 h.r, .int .u8 h.g, .int .u8 h.b]
def Hue.v (h : Hue) : Value := .agg #[.int .u8 h.r, .int .u8 h.g, .int .u8 h.b]
def byteOk (x : Int) : Prop := 0 ≤ x ∧ x ≤ 255
def Hue.ok (h : Hue) : Prop := byteOk h.r ∧ byteOk h.g ∧ byteOk h.b
def farS (a b : Hue) : Int := sqd a.r b.r + sqd a.g b.g + sqd a.b b.b
theorem farS_bd (a b : Hue) (ha : a.ok) (hb : b.ok) : 0 ≤ farS a b ∧ farS a b ≤ 195075 := by
  obtain ⟨⟨a1, a2⟩, ⟨a3, a4⟩, a5, a6⟩ := ha
  obtain ⟨⟨b1, b2⟩, ⟨b3, b4⟩, b5, b6⟩ := hb
  have h1 := sqd_bd a.r b.r a1 a2 b1 b2
  have h2 := sqd_bd a.g b.g a3 a4 b3 b4
  have h3 := sqd_bd a.b b.b a5 a6 b5 b6
  unfold farS
  omega

set_option maxHeartbeats 800000 in
theorem far_c (ar ag ab br bg bb : Int) (ha : Hue.ok ⟨ar, ag, ab⟩) (hb : Hue.ok ⟨br, bg, bb⟩) (w : World) :
    Calls Try.prog 18 #[.agg #[.int .u8 ar, .int .u8 ag, .int .u8 ab], .agg #[.int .u8 br, .int .u8 bg, .int .u8 bb]] w fun e w' => e = .returned (.int .i64 (farS ⟨ar, ag, ab⟩ ⟨br, bg, bb⟩)) ∧ Ext w w' := by
  obtain ⟨⟨a1, a2⟩, ⟨a3, a4⟩, a5, a6⟩ := ha
  obtain ⟨⟨b1, b2⟩, ⟨b3, b4⟩, b5, b6⟩ := hb
  dsimp only at *
  have ⟨p1, p2⟩ := sqd_bd ar br a1 a2 b1 b2
  have ⟨p3, p4⟩ := sqd_bd ag bg a3 a4 b3 b4
  have ⟨p5, p6⟩ := sqd_bd ab bb a5 a6 b5 b6
  go_enter Try.func18, Try.ntmps18
  go_wp2
  go_quiet ((go_at_call 28; exact quiet_left (sq_c _ _ _ (by assumption) (by assumption) (by assumption) (by assumption))))
  go_wp2
  go_ret
  exact ⟨rfl, by apply_rules [Ext.refl, Ext.alloc, Ext.drewN]⟩

set_option maxHeartbeats 800000 in
theorem rfar_c (ar ag ab br bg bb : Int) (ha : Hue.ok ⟨ar, ag, ab⟩) (hb : Hue.ok ⟨br, bg, bb⟩) (w : World) :
    Calls Try.prog 21 #[.agg #[.int .u8 ar, .int .u8 ag, .int .u8 ab], .agg #[.int .u8 br, .int .u8 bg, .int .u8 bb]] w fun e w' => e = .returned (.int .i64 (farS ⟨ar, ag, ab⟩ ⟨br, bg, bb⟩)) ∧ Ext w w' := by
  obtain ⟨⟨a1, a2⟩, ⟨a3, a4⟩, a5, a6⟩ := ha
  obtain ⟨⟨b1, b2⟩, ⟨b3, b4⟩, b5, b6⟩ := hb
  dsimp only at *
  have ⟨p1, p2⟩ := sqd_bd ar br a1 a2 b1 b2
  have ⟨p3, p4⟩ := sqd_bd ag bg a3 a4 b3 b4
  have ⟨p5, p6⟩ := sqd_bd ab bb a5 a6 b5 b6
  have q1 := sqd_wrap ar br a1 a2 b1 b2
  have q2 := sqd_wrap ag bg a3 a4 b3 b4
  have q3 := sqd_wrap ab bb a5 a6 b5 b6
  go_enter Try.func21, Try.ntmps21
  go_wp2
  go_quiet (fail)
  go_wp2
  go_ret
  exact ⟨rfl, by apply_rules [Ext.refl, Ext.alloc, Ext.drewN]⟩
end Go.Proofs.Ytpikemglnnjemaa
