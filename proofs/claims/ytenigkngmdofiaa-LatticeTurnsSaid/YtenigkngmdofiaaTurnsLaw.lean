/- The law LatticeTurns, walked. -/
import Derived.Test.YtenigkngmdofiaaCompInv
namespace Go.Proofs.Ytenigkngmdofiaa
open Go.RowKit

theorem Turn_any (x y z n : Int) : ∃ (p : Pt) (er : Int),
    (∀ w, Calls Try.prog 6 #[.agg #[.int .i64 x, .int .i64 y, .int .i64 z], .int .i64 n] w fun e w' => e = .returned (.tuple #[.agg #[.int .i64 p.x, .int .i64 p.y, .int .i64 p.z], .int .i64 er]) ∧ Ext w w') ∧
    (∀ w, Calls Try.prog 7 #[.agg #[.int .i64 x, .int .i64 y, .int .i64 z], .int .i64 n] w fun e w' => e = .returned (.tuple #[.agg #[.int .i64 p.x, .int .i64 p.y, .int .i64 p.z], .int .i64 er]) ∧ Ext w w') := by
  by_cases h : turnOk ⟨x, y, z⟩ n
  · obtain ⟨h1, h2, h3⟩ := h
    obtain ⟨n, rfl⟩ := Int.eq_ofNat_of_zero_le h2
    exact ⟨_, _, fun w => Turn_ok x y z n w (by omega) h1, fun w => rTurn_ok x y z n w (by omega) h1⟩
  · exact ⟨⟨0, 0, 0⟩, _, fun w => Turn_bad x y z n w h, fun w => rTurn_bad x y z n w h⟩
theorem Direction_any (d n : Int) : ∃ (m er : Int),
    (∀ w, Calls Try.prog 8 #[.int .i64 d, .int .i64 n] w fun e w' => e = .returned (.tuple #[.int .i64 m, .int .i64 er]) ∧ Ext w w') ∧
    (∀ w, Calls Try.prog 9 #[.int .i64 d, .int .i64 n] w fun e w' => e = .returned (.tuple #[.int .i64 m, .int .i64 er]) ∧ Ext w w') := by
  by_cases h : (0 ≤ d ∧ d ≤ 5) ∧ 0 ≤ n ∧ n < 24
  · obtain ⟨⟨h0, h1⟩, h2, h3⟩ := h
    obtain ⟨n, rfl⟩ := Int.eq_ofNat_of_zero_le h2
    obtain ⟨d, rfl⟩ := Int.eq_ofNat_of_zero_le h0
    exact ⟨_, _, fun w => Direction_ok d n w (by omega) (by omega), fun w => rDirection_ok d n w (by omega) (by omega)⟩
  · exact ⟨_, _, fun w => Direction_bad d n w h, fun w => rDirection_bad d n w h⟩
theorem Compose_any (a b : Int) : ∃ (m er : Int),
    (∀ w, Calls Try.prog 10 #[.int .i64 a, .int .i64 b] w fun e w' => e = .returned (.tuple #[.int .i64 m, .int .i64 er]) ∧ Ext w w') ∧
    (∀ w, Calls Try.prog 11 #[.int .i64 a, .int .i64 b] w fun e w' => e = .returned (.tuple #[.int .i64 m, .int .i64 er]) ∧ Ext w w') := by
  by_cases h : (0 ≤ a ∧ a < 24) ∧ 0 ≤ b ∧ b < 24
  · obtain ⟨⟨h0, h1⟩, h2, h3⟩ := h
    obtain ⟨a, rfl⟩ := Int.eq_ofNat_of_zero_le h0
    obtain ⟨b, rfl⟩ := Int.eq_ofNat_of_zero_le h2
    exact ⟨_, _, fun w => Compose_ok a b (by omega) (by omega) w, fun w => rCompose_ok a b (by omega) (by omega) w⟩
  · exact ⟨_, _, fun w => Compose_bad a b h w, fun w => rCompose_bad a b h w⟩
theorem Invert_any (a : Int) : ∃ (m er : Int),
    (∀ w, Calls Try.prog 12 #[.int .i64 a] w fun e w' => e = .returned (.tuple #[.int .i64 m, .int .i64 er]) ∧ Ext w w') ∧
    (∀ w, Calls Try.prog 13 #[.int .i64 a] w fun e w' => e = .returned (.tuple #[.int .i64 m, .int .i64 er]) ∧ Ext w w') := by
  by_cases h : 0 ≤ a ∧ a < 24
  · obtain ⟨h0, h1⟩ := h
    obtain ⟨a, rfl⟩ := Int.eq_ofNat_of_zero_le h0
    exact ⟨_, _, fun w => Invert_ok a (by omega) w, fun w => rInvert_ok a (by omega) w⟩
  · exact ⟨_, _, fun w => Invert_bad a h w, fun w => rInvert_bad a h w⟩

set_option maxHeartbeats 2000000 in
theorem turns_walk (x y z d a b : Int) (w : World) :
    Calls Try.prog 3 #[.agg #[.int .i64 x, .int .i64 y, .int .i64 z], .int .i64 d, .int .i64 a, .int .i64 b] w fun e w' => e = .returned (.bool true) ∧ Ext w w' := by
  obtain ⟨p, e1, T, rT⟩ := Turn_any x y z a
  obtain ⟨m2, e2, D, rD⟩ := Direction_any d a
  obtain ⟨m3, e3, C, rC⟩ := Compose_any a b
  obtain ⟨m4, e4, I, rI⟩ := Invert_any a
  go_enter Try.func3, Try.ntmps3
  go_wp2_with fail
  refine (T _).mono ?_
  rintro e w1 ⟨rfl, E1⟩
  clear T
  have B0 := (Blk.new w #[.int .i64 x, .int .i64 y, .int .i64 z] 23).ext E1
  have A1 := ((Ext.refl w).alloc (.cells #[.int .i64 x, .int .i64 y, .int .i64 z] 23)).trans E1
  have b0 := B0.cell
  have hlt := B0.lt
  clear E1
  go_wp2_with fail
  refine (rT _).mono ?_
  rintro e w2 ⟨rfl, E2⟩
  clear rT
  have B1 := (Blk.new w1 #[.int .i64 p.x, .int .i64 p.y, .int .i64 p.z] 23).ext E2
  have A2 := ((A1.alloc (.cells #[.int .i64 p.x, .int .i64 p.y, .int .i64 p.z] 23)).trans E2)
  have b1 := B1.cell
  have hlt1 := B1.lt
  have hq : ∀ w, (binOp .neq 23 (.agg #[.int .i64 p.x, .int .i64 p.y, .int .i64 p.z]) (.agg #[.int .i64 p.x, .int .i64 p.y, .int .i64 p.z])).run Try.prog w = .ok (.bool false) w := fun w => by
    rw [pt_neq]
    simp [Pt.eqB]
  go_wp2_with fail
  refine (D _).mono ?_
  rintro e w3 ⟨rfl, E3⟩
  have A3 := (A2.alloc (.cells #[.int .i64 p.x, .int .i64 p.y, .int .i64 p.z] 23)).trans E3
  clear D hq b0 b1 B0 B1 E2 E3 hlt hlt1 A1
  go_wp2_with fail
  refine (rD _).mono ?_
  rintro e w4 ⟨rfl, E4⟩
  clear rD
  go_wp2_with fail
  refine (C _).mono ?_
  rintro e w5 ⟨rfl, E5⟩
  clear C
  go_wp2_with fail
  refine (rC _).mono ?_
  rintro e w6 ⟨rfl, E6⟩
  clear rC
  go_wp2_with fail
  refine (I _).mono ?_
  rintro e w7 ⟨rfl, E7⟩
  clear I
  go_wp2_with fail
  refine (rI _).mono ?_
  rintro e w8 ⟨rfl, E8⟩
  clear rI
  go_wp2_with fail
  go_ret
  exact ⟨rfl, ((((A3.trans E4).trans E5).trans E6).trans E7).trans E8⟩
end Go.Proofs.Ytenigkngmdofiaa
