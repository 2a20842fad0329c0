/- The given statement LatticeGroupSaid: for every input the law returns true, and each argument reads behind the call as it did. No conditions. -/
import Derived.Test.YtenigkngmdofiaaGreatBAlive
import Derived.Test.YtenigkngmdofiaaGreatBGrp
import Derived.Test.YtenigkngmdofiaaGreatBOpen
namespace Go.Proofs.YtenigkngmdofiaaGreat
open Go.RowKit

theorem sq_bound {x : Int} {B : Nat} (h : -(B : Int) ≤ x ∧ x ≤ B) : 0 ≤ x * x ∧ x * x ≤ ((B * B : Nat) : Int) := by
  have e := Int.natAbs_mul_self (a := x)
  have h1 : x.natAbs ≤ B := by omega
  have h2 := Nat.mul_le_mul h1 h1
  omega
/-- The square of the distance. -/
def sqD (p q : Pt) : Int := (p.x - q.x) * (p.x - q.x) + (p.y - q.y) * (p.y - q.y) + (p.z - q.z) * (p.z - q.z)
def sqN (p : Pt) : Int := p.x * p.x + p.y * p.y + p.z * p.z
theorem sqD_sub (p q : Pt) : sqD p q = sqN (subP p q) := rfl
theorem sqN_rot (p : Pt) : sqN (rotZ p) = sqN p := by
  unfold sqN rotZ
  simp only [Int.neg_mul_neg]
  omega
theorem sqN_rotn (p : Pt) : ∀ n, sqN (rotZn p n) = sqN p
  | 0 => rfl
  | n + 1 => by
    unfold rotZn
    rw [sqN_rot, sqN_rotn p n]
theorem sqN_turn (p : Pt) (n : Nat) : sqN (turnS p n) = sqN p := by
  unfold turnS
  refine Eq.trans ?_ (sqN_rotn p (n % 4))
  unfold turnQ sqN
  split <;> simp only [Int.neg_mul_neg] <;> omega
theorem subP_turn (p q : Pt) (n : Nat) : subP (turnS p n) (turnS q n) = turnS (subP p q) n := by
  have h : subP p q = addP p (sclP (-1) q) := by
    unfold subP addP sclP
    simp only [Pt.mk.injEq]
    omega
  rw [h, turnS_add, turnS_scl]
  unfold subP addP sclP
  simp only [Pt.mk.injEq]
  omega
theorem sqD_turn (p q : Pt) (n : Nat) : sqD (turnS p n) (turnS q n) = sqD p q := by
  rw [sqD_sub, sqD_sub, subP_turn, sqN_turn]
theorem pt_neq_self (a b c : Int) (w : World) : (binOp .neq 50 (.agg #[.int .i64 a, .int .i64 b, .int .i64 c]) (.agg #[.int .i64 a, .int .i64 b, .int .i64 c])).run Tryz.prog w = .ok (.bool false) w := by
  rw [pt_neq, Pt.eqB_iff.2 rfl]
  rfl
theorem pt_eql_self (a b c : Int) (w : World) : (binOp .eql 50 (.agg #[.int .i64 a, .int .i64 b, .int .i64 c]) (.agg #[.int .i64 a, .int .i64 b, .int .i64 c])).run Tryz.prog w = .ok (.bool true) w := by
  rw [pt_eql, Pt.eqB_iff.2 rfl]
set_option maxHeartbeats 1600000 in
theorem lPlus_c (a b c d e f : Int) (w : World) (hp : Pt.ok ⟨a, b, c⟩) (hq : Pt.ok ⟨d, e, f⟩) :
    Calls Tryz.prog 38 #[.agg #[.int .i64 a, .int .i64 b, .int .i64 c], .agg #[.int .i64 d, .int .i64 e, .int .i64 f]] w fun v w' => v = .returned (.agg #[.int .i64 (a + d), .int .i64 (b + e), .int .i64 (c + f)]) ∧ Ext w w' := by
  obtain ⟨h1, h2, h3⟩ := hp
  obtain ⟨k1, k2, k3⟩ := hq
  unfold CB at *
  simp only at h1 h2 h3 k1 k2 k3
  go_enter Tryz.func38, Tryz.ntmps38
  go_wp2
  refine bodyPost_ret (v := .agg #[.int .i64 (a + d), .int .i64 (b + e), .int .i64 (c + f)]) ?_ rfl ⟨rfl, by apply_rules [Ext.refl, Ext.alloc]⟩
  simp [results, Tryz.results38, go_sem]
set_option maxRecDepth 100000 in
set_option maxHeartbeats 4000000 in
theorem far_c (a b c d e f : Int) (w : World) (hp : Pt.in_ 5000 ⟨a, b, c⟩) (hq : Pt.in_ 5000 ⟨d, e, f⟩) :
    Calls Tryz.prog 41 #[.agg #[.int .i64 a, .int .i64 b, .int .i64 c], .agg #[.int .i64 d, .int .i64 e, .int .i64 f]] w fun v w' => v = .returned (.int .i64 (sqD ⟨a, b, c⟩ ⟨d, e, f⟩)) ∧ Ext w w' := by
  unfold Pt.in_ at hp hq
  simp only at hp hq
  obtain ⟨h1, h2, h3⟩ := hp
  obtain ⟨k1, k2, k3⟩ := hq
  have s1 := sq_bound (x := a - d) (B := 10000) (by omega)
  have s2 := sq_bound (x := b - e) (B := 10000) (by omega)
  have s3 := sq_bound (x := c - f) (B := 10000) (by omega)
  unfold sqD
  simp only
  obtain ⟨W1, hW1, E1, B1, hz1⟩ := mk_ w #[.int .i64 a, .int .i64 b, .int .i64 c] 50
  obtain ⟨W2, hW2, E2, B2, hz2⟩ := mk_ W1 #[.int .i64 d, .int .i64 e, .int .i64 f] 50
  have b1 := (B1.ext E2).cell
  have b2 := B2.cell
  clear hz1 hz2
  obtain ⟨dx, hdx⟩ : ∃ x, a - d = x := ⟨_, rfl⟩
  obtain ⟨dy, hdy⟩ : ∃ x, b - e = x := ⟨_, rfl⟩
  obtain ⟨dz, hdz⟩ : ∃ x, c - f = x := ⟨_, rfl⟩
  rw [hdx] at s1
  rw [hdy] at s2
  rw [hdz] at s3
  obtain ⟨qx, hqx⟩ : ∃ x, dx * dx = x := ⟨_, rfl⟩
  obtain ⟨qy, hqy⟩ : ∃ x, dy * dy = x := ⟨_, rfl⟩
  obtain ⟨qz, hqz⟩ : ∃ x, dz * dz = x := ⟨_, rfl⟩
  rw [hqx] at s1
  rw [hqy] at s2
  rw [hqz] at s3
  obtain ⟨s1a, s1b⟩ := s1
  obtain ⟨s2a, s2b⟩ := s2
  obtain ⟨s3a, s3b⟩ := s3
  simp only [Nat.reduceMul, Int.cast_ofNat_Int] at s1b s2b s3b
  rw [hdx, hdy, hdz, hqx, hqy, hqz]
  go_enter Tryz.func41, Tryz.ntmps41
  go_wp2_with fail
  go_ret
  exact ⟨rfl, E1.trans E2⟩
structure FarOk (fr a b c d e f : Int) : Prop where
  v : sqD ⟨a, b, c⟩ ⟨d, e, f⟩ = fr
  p : Pt.in_ 5000 ⟨a, b, c⟩
  q : Pt.in_ 5000 ⟨d, e, f⟩
theorem far_ok (fr a b c d e f : Int) (w : World) (h : FarOk fr a b c d e f) :
    Calls Tryz.prog 41 #[.agg #[.int .i64 a, .int .i64 b, .int .i64 c], .agg #[.int .i64 d, .int .i64 e, .int .i64 f]] w fun v w' => v = .returned (.int .i64 fr) ∧ Ext w w' := by
  have := far_c a b c d e f w h.p h.q
  rw [h.v] at this
  exact this
set_option maxRecDepth 100000 in
set_option maxHeartbeats 16000000 in
theorem group_walk (cx cy cz dx dy dz a0 b0 : Int) (w : World) : Calls Tryz.prog 9 #[.agg #[.int .i64 cx, .int .i64 cy, .int .i64 cz], .agg #[.int .i64 dx, .int .i64 dy, .int .i64 dz], .int .i64 a0, .int .i64 b0] w fun e w' => e = .returned (.bool true) ∧ Ext w w' := by
  obtain ⟨W1, hW1, E1, B1, hz1⟩ := mk_ w #[.int .i64 cx, .int .i64 cy, .int .i64 cz] 50
  obtain ⟨W2, hW2, E2, B2, hz2⟩ := mk_ W1 #[.int .i64 dx, .int .i64 dy, .int .i64 dz] 50
  have B12 := B1.ext E2
  have E12 := E1.trans E2
  have b1 := B12.cell
  have b2 := B2.cell
  have N1 := Lib.hid (fun w => rnear_c cx cy cz (-900) 900 w)
  have N2 := Lib.hid (fun w => rnear_c dx dy dz (-900) 900 w)
  have T1 := Lib.hid (fun w => risTurn_c a0 w)
  have T2 := Lib.hid (fun w => risTurn_c b0 w)
  obtain ⟨r1, h1⟩ : ∃ r, nearB ⟨cx, cy, cz⟩ (-900) 900 = r := ⟨_, rfl⟩
  obtain ⟨r2, h2⟩ : ∃ r, nearB ⟨dx, dy, dz⟩ (-900) 900 = r := ⟨_, rfl⟩
  obtain ⟨r3, h3⟩ : ∃ r, inB 0 23 a0 = r := ⟨_, rfl⟩
  obtain ⟨r4, h4⟩ : ∃ r, inB 0 23 b0 = r := ⟨_, rfl⟩
  rw [h1] at N1
  rw [h2] at N2
  rw [h3] at T1
  rw [h4] at T2
  obtain ⟨C, hC⟩ : ∃ C, w.heap.size = C := ⟨_, rfl⟩
  obtain ⟨D, hD⟩ : ∃ D, W1.heap.size = D := ⟨_, rfl⟩
  rw [hC] at B12
  rw [hD] at B2
  have HC := Lib.hid hC
  have HD := Lib.hid hD
  clear hz1 hz2 hC hD E1 E2 B1
  cases r1
  · clear h1 h2 h3 h4
    go_enter Tryz.func9, Tryz.ntmps9
    go_upto_region 1 with (fail)
    rw [HC.out, HD.out]
    clear hW1 hW2 b1 b2
    go_wp2_with fail
    refine (alive_c _).mono ?_
    rintro e W3 ⟨rfl, E3⟩
    have B13 := B12.ext E3
    have B23 := B2.ext E3
    have E := E12.trans E3
    clear E3
    have b1 := B13.cell
    go_wp2_with fail
    refine (N1.out _).mono ?_
    rintro e W4 ⟨rfl, E4⟩
    have B14 := B13.ext E4
    have B24 := B23.ext E4
    replace E := E.trans E4
    clear E4 b1 B13 B23
    have b1 := B14.cell
    have b2 := B24.cell
    go_wp2_with fail
    go_ret
    exact ⟨rfl, E⟩
  cases r2
  · clear h1 h2 h3 h4
    go_enter Tryz.func9, Tryz.ntmps9
    go_upto_region 1 with (fail)
    rw [HC.out, HD.out]
    clear hW1 hW2 b1 b2
    go_wp2_with fail
    refine (alive_c _).mono ?_
    rintro e W3 ⟨rfl, E3⟩
    have B13 := B12.ext E3
    have B23 := B2.ext E3
    have E := E12.trans E3
    clear E3
    have b1 := B13.cell
    go_wp2_with fail
    refine (N1.out _).mono ?_
    rintro e W4 ⟨rfl, E4⟩
    have B14 := B13.ext E4
    have B24 := B23.ext E4
    replace E := E.trans E4
    clear E4 b1 B13 B23
    have b1 := B14.cell
    have b2 := B24.cell
    go_wp2_with fail
    refine (N2.out _).mono ?_
    rintro e W5 ⟨rfl, E5⟩
    have B15 := B14.ext E5
    have B25 := B24.ext E5
    replace E := E.trans E5
    clear E5 b1 b2 B14 B24
    have b1 := B15.cell
    have b2 := B25.cell
    go_wp2_with fail
    go_ret
    exact ⟨rfl, E⟩
  cases r3
  · clear h1 h2 h3 h4
    go_enter Tryz.func9, Tryz.ntmps9
    go_upto_region 1 with (fail)
    rw [HC.out, HD.out]
    clear hW1 hW2 b1 b2
    go_wp2_with fail
    refine (alive_c _).mono ?_
    rintro e W3 ⟨rfl, E3⟩
    have B13 := B12.ext E3
    have B23 := B2.ext E3
    have E := E12.trans E3
    clear E3
    have b1 := B13.cell
    go_wp2_with fail
    refine (N1.out _).mono ?_
    rintro e W4 ⟨rfl, E4⟩
    have B14 := B13.ext E4
    have B24 := B23.ext E4
    replace E := E.trans E4
    clear E4 b1 B13 B23
    have b1 := B14.cell
    have b2 := B24.cell
    go_wp2_with fail
    refine (N2.out _).mono ?_
    rintro e W5 ⟨rfl, E5⟩
    have B15 := B14.ext E5
    have B25 := B24.ext E5
    replace E := E.trans E5
    clear E5 b1 b2 B14 B24
    have b1 := B15.cell
    have b2 := B25.cell
    go_wp2_with fail
    refine (T1.out _).mono ?_
    rintro e W6 ⟨rfl, rfl⟩
    go_wp2_with fail
    go_ret
    exact ⟨rfl, E⟩
  cases r4
  · clear h1 h2 h3 h4
    go_enter Tryz.func9, Tryz.ntmps9
    go_upto_region 1 with (fail)
    rw [HC.out, HD.out]
    clear hW1 hW2 b1 b2
    go_wp2_with fail
    refine (alive_c _).mono ?_
    rintro e W3 ⟨rfl, E3⟩
    have B13 := B12.ext E3
    have B23 := B2.ext E3
    have E := E12.trans E3
    clear E3
    have b1 := B13.cell
    go_wp2_with fail
    refine (N1.out _).mono ?_
    rintro e W4 ⟨rfl, E4⟩
    have B14 := B13.ext E4
    have B24 := B23.ext E4
    replace E := E.trans E4
    clear E4 b1 B13 B23
    have b1 := B14.cell
    have b2 := B24.cell
    go_wp2_with fail
    refine (N2.out _).mono ?_
    rintro e W5 ⟨rfl, E5⟩
    have B15 := B14.ext E5
    have B25 := B24.ext E5
    replace E := E.trans E5
    clear E5 b1 b2 B14 B24
    have b1 := B15.cell
    have b2 := B25.cell
    go_wp2_with fail
    refine (T1.out _).mono ?_
    rintro e W6 ⟨rfl, rfl⟩
    go_wp2_with fail
    refine (T2.out _).mono ?_
    rintro e W7 ⟨rfl, rfl⟩
    go_wp2_with fail
    go_ret
    exact ⟨rfl, E⟩
  rw [nearB_iff] at h1 h2
  rw [inB_iff] at h3 h4
  have hcin : Pt.in_ 900 ⟨cx, cy, cz⟩ := by unfold Pt.in_; omega
  have hdin : Pt.in_ 900 ⟨dx, dy, dz⟩ := by unfold Pt.in_; omega
  obtain ⟨a, rfl⟩ : ∃ n : Nat, a0 = n := ⟨a0.toNat, by omega⟩
  obtain ⟨b, rfl⟩ : ∃ n : Nat, b0 = n := ⟨b0.toNat, by omega⟩
  have ha : a < 24 := by omega
  have hb : b < 24 := by omega
  clear h1 h2 h3 h4
  have near2 : ∀ {p : Pt} {m : Int}, m ≤ 2000 → p.in_ m → nearB p (-2000) 2000 = true := fun {p m} hm h => by
    rw [nearB_iff]
    unfold Pt.in_ at h
    omega
  have hab := compT_lt ha hb
  have hia := (compT_inv a ha).1
  -- what each turn gives
  have KX := Lib.hid (fun w => Turn_ok cx cy cz a w ha (near2 (by omega) hcin))
  have hxin := turnS_in hcin a
  have eY := turnS_comp ha hb ⟨cx, cy, cz⟩
  have eBack := turnS_inv ha ⟨cx, cy, cz⟩
  have eSum := turnS_add ⟨cx, cy, cz⟩ ⟨dx, dy, dz⟩ a
  have eFar := sqD_turn ⟨cx, cy, cz⟩ ⟨dx, dy, dz⟩ a
  have huin := turnS_in hdin a
  obtain ⟨⟨xx, xy, xz⟩, hx⟩ : ∃ p, turnS ⟨cx, cy, cz⟩ a = p := ⟨_, rfl⟩
  rw [hx] at KX hxin eY eBack eSum eFar
  simp only at KX
  have KY := Lib.hid (fun w => Turn_ok xx xy xz b w hb (near2 (by omega) hxin))
  obtain ⟨⟨yx, yy, yz⟩, hy⟩ : ∃ p, turnS ⟨xx, xy, xz⟩ b = p := ⟨_, rfl⟩
  rw [hy] at KY eY
  simp only at KY
  have KC := Lib.hid (fun w => Compose_ok a b ha hb w)
  obtain ⟨n, hn⟩ : ∃ n, compT a b = n := ⟨_, rfl⟩
  rw [hn] at KC eY hab
  have KZ := Lib.hid (fun w => Turn_ok cx cy cz n w hab (near2 (by omega) hcin))
  rw [← eY] at KZ
  simp only at KZ
  have KI := Lib.hid (fun w => Invert_ok a ha w)
  obtain ⟨i, hi⟩ : ∃ n, invT a = n := ⟨_, rfl⟩
  rw [hi] at KI hia eBack
  have KB := Lib.hid (fun w => Turn_ok xx xy xz i w hia (near2 (by omega) hxin))
  rw [eBack] at KB
  simp only at KB
  have KU := Lib.hid (fun w => Turn_ok dx dy dz a w ha (near2 (by omega) hdin))
  obtain ⟨⟨ux, uy, uz⟩, hu⟩ : ∃ p, turnS ⟨dx, dy, dz⟩ a = p := ⟨_, rfl⟩
  rw [hu] at KU huin eSum eFar
  simp only at KU
  have KP := Lib.hid (fun w => lPlus_c cx cy cz dx dy dz w (hcin.ok (by omega)) (hdin.ok (by omega)))
  have KS := Lib.hid (fun w => Turn_ok (cx + dx) (cy + dy) (cz + dz) a w ha (near2 (m := 1800) (by omega) (addP_in hcin hdin)))
  rw [show turnS ⟨cx + dx, cy + dy, cz + dz⟩ a = addP ⟨xx, xy, xz⟩ ⟨ux, uy, uz⟩ from eSum] at KS
  unfold addP at KS
  simp only at KS
  have KQ := Lib.hid (fun w => lPlus_c xx xy xz ux uy uz w (hxin.ok (by omega)) (huin.ok (by omega)))
  obtain ⟨fr, hfr⟩ : ∃ n, sqD ⟨cx, cy, cz⟩ ⟨dx, dy, dz⟩ = n := ⟨_, rfl⟩
  have KF := Lib.hid (fun w a b c d e f => far_ok fr a b c d e f w)
  have hf1 : FarOk fr xx xy xz ux uy uz := ⟨eFar.trans hfr, by unfold Pt.in_ at hxin ⊢; simp only at hxin ⊢; omega, by unfold Pt.in_ at huin ⊢; simp only at huin ⊢; omega⟩
  have hf2 : FarOk fr cx cy cz dx dy dz := ⟨hfr, by unfold Pt.in_ at hcin ⊢; simp only at hcin ⊢; omega, by unfold Pt.in_ at hdin ⊢; simp only at hdin ⊢; omega⟩
  have KV := Lib.hid (fun w => Turn_ok 1 2 3 a w ha (by decide))
  have KW := Lib.hid (fun w => Turn_ok 1 2 3 b w hb (by decide))
  have hvw : ∀ w : World, (binOp .eql 50 (.agg #[.int .i64 (turnS ⟨1, 2, 3⟩ a).x, .int .i64 (turnS ⟨1, 2, 3⟩ a).y, .int .i64 (turnS ⟨1, 2, 3⟩ a).z]) (.agg #[.int .i64 (turnS ⟨1, 2, 3⟩ b).x, .int .i64 (turnS ⟨1, 2, 3⟩ b).y, .int .i64 (turnS ⟨1, 2, 3⟩ b).z])).run Tryz.prog w = .ok (.bool ((a : Int) == b)) w := fun w => by
    rw [pt_eql]
    by_cases e : a = b
    · subst e
      rw [Pt.eqB_iff.2 rfl]
      simp
    · have h1 : ¬ ((a : Int) = b) := by omega
      rw [beq_eq_false_iff_ne.2 h1]
      cases hq : Pt.eqB ⟨(turnS ⟨1, 2, 3⟩ a).x, (turnS ⟨1, 2, 3⟩ a).y, (turnS ⟨1, 2, 3⟩ a).z⟩ ⟨(turnS ⟨1, 2, 3⟩ b).x, (turnS ⟨1, 2, 3⟩ b).y, (turnS ⟨1, 2, 3⟩ b).z⟩
      · rfl
      · exact absurd (turnS_faith a ha b hb (Pt.eqB_iff.1 hq)) e
  obtain ⟨vx, hvx⟩ : ∃ x, (turnS ⟨1, 2, 3⟩ a).x = x := ⟨_, rfl⟩
  obtain ⟨vy, hvy⟩ : ∃ x, (turnS ⟨1, 2, 3⟩ a).y = x := ⟨_, rfl⟩
  obtain ⟨vz, hvz⟩ : ∃ x, (turnS ⟨1, 2, 3⟩ a).z = x := ⟨_, rfl⟩
  obtain ⟨wx_, hwx⟩ : ∃ x, (turnS ⟨1, 2, 3⟩ b).x = x := ⟨_, rfl⟩
  obtain ⟨wy_, hwy⟩ : ∃ x, (turnS ⟨1, 2, 3⟩ b).y = x := ⟨_, rfl⟩
  obtain ⟨wz_, hwz⟩ : ∃ x, (turnS ⟨1, 2, 3⟩ b).z = x := ⟨_, rfl⟩
  rw [hvx, hvy, hvz] at KV
  rw [hwx, hwy, hwz] at KW
  simp only [hvx, hvy, hvz, hwx, hwy, hwz] at hvw
  obtain ⟨ab, hab'⟩ : ∃ r : Bool, ((a : Int) == b) = r := ⟨_, rfl⟩
  simp only [hab'] at hvw
  have neq := pt_neq_self
  have eql := pt_eql_self
  clear hx hy hn hi hu hfr hvx hvy hvz hwx hwy hwz eY eBack eSum eFar hcin hdin hxin huin ha hb hab hia near2
  go_enter Tryz.func9, Tryz.ntmps9
  go_upto_region 1 with (fail)
  rw [HC.out, HD.out]
  clear hW1 hW2 b1 b2
  go_wp2_with fail
  refine (alive_c _).mono ?_
  rintro e W3 ⟨rfl, E3⟩
  have B13 := B12.ext E3
  have B23 := B2.ext E3
  have E := E12.trans E3
  clear E3
  have b1 := B13.cell
  go_wp2_with fail
  refine (N1.out _).mono ?_
  rintro e W4 ⟨rfl, E4⟩
  have B14 := B13.ext E4
  have B24 := B23.ext E4
  replace E := E.trans E4
  clear E4 b1 B13 B23
  have b1 := B14.cell
  have b2 := B24.cell
  go_wp2_with fail
  refine (N2.out _).mono ?_
  rintro e W5 ⟨rfl, E5⟩
  have B15 := B14.ext E5
  have B25 := B24.ext E5
  replace E := E.trans E5
  clear E5 b1 b2 B14 B24
  have b1 := B15.cell
  have b2 := B25.cell
  go_wp2_with fail
  refine (T1.out _).mono ?_
  rintro e W6 ⟨rfl, rfl⟩
  go_wp2_with fail
  refine (T2.out _).mono ?_
  rintro e W7 ⟨rfl, rfl⟩
  clear N1 N2 T1 T2
  go_wp2_with fail
  refine (KX.out _).mono ?_
  rintro e W8 ⟨rfl, E8⟩
  obtain ⟨WX, hWX, EX, BX, -⟩ := mk_ W8 #[.int .i64 xx, .int .i64 xy, .int .i64 xz] 50
  replace E := E.trans (E8.trans EX)
  have B1x := B15.ext (E8.trans EX)
  have B2x := B25.ext (E8.trans EX)
  clear b1 b2 E8 EX B15 B25 KX
  have bx := BX.cell
  go_wp2_with fail
  refine (KY.out _).mono ?_
  rintro e W9 ⟨rfl, E9⟩
  obtain ⟨WY, hWY, EY, BY, -⟩ := mk_ W9 #[.int .i64 yx, .int .i64 yy, .int .i64 yz] 50
  replace E := E.trans (E9.trans EY)
  replace B1x := B1x.ext (E9.trans EY)
  replace B2x := B2x.ext (E9.trans EY)
  replace BX := BX.ext (E9.trans EY)
  clear bx E9 EY KY
  go_wp2_with fail
  refine (KC.out _).mono ?_
  rintro e Wa ⟨rfl, E9⟩
  replace E := E.trans E9
  replace B1x := B1x.ext E9
  replace B2x := B2x.ext E9
  replace BX := BX.ext E9
  replace BY := BY.ext E9
  clear E9 KC
  have cB1x := B1x.cell
  go_wp2_with fail
  refine (KZ.out _).mono ?_
  rintro e Wb ⟨rfl, E9⟩
  obtain ⟨WZ, hWZ, EY, BZ, -⟩ := mk_ Wb #[.int .i64 yx, .int .i64 yy, .int .i64 yz] 50
  replace E := E.trans (E9.trans EY)
  replace B1x := B1x.ext (E9.trans EY)
  replace B2x := B2x.ext (E9.trans EY)
  replace BX := BX.ext (E9.trans EY)
  replace BY := BY.ext (E9.trans EY)
  clear cB1x
  clear E9 EY KZ hWY
  go_wp2_with fail
  refine (KI.out _).mono ?_
  rintro e Wc ⟨rfl, E9⟩
  replace E := E.trans E9
  replace B1x := B1x.ext E9
  replace B2x := B2x.ext E9
  replace BX := BX.ext E9
  replace BY := BY.ext E9
  replace BZ := BZ.ext E9
  clear E9 KI hWZ
  have cBX := BX.cell
  go_wp2_with fail
  refine (KB.out _).mono ?_
  rintro e Wd ⟨rfl, E9⟩
  obtain ⟨WK, hWK, EY, BK, -⟩ := mk_ Wd #[.int .i64 cx, .int .i64 cy, .int .i64 cz] 50
  replace E := E.trans (E9.trans EY)
  replace B1x := B1x.ext (E9.trans EY)
  replace B2x := B2x.ext (E9.trans EY)
  replace BX := BX.ext (E9.trans EY)
  replace BY := BY.ext (E9.trans EY)
  replace BZ := BZ.ext (E9.trans EY)
  clear cBX
  clear E9 EY KB
  have cBY := BY.cell
  have cBZ := BZ.cell
  have cBK := BK.cell
  have cB1x := B1x.cell
  have cB2x := B2x.cell
  go_wp2_with fail
  refine (KU.out _).mono ?_
  rintro e We ⟨rfl, E9⟩
  obtain ⟨WU, hWU, EY, BU, -⟩ := mk_ We #[.int .i64 ux, .int .i64 uy, .int .i64 uz] 50
  replace E := E.trans (E9.trans EY)
  replace B1x := B1x.ext (E9.trans EY)
  replace B2x := B2x.ext (E9.trans EY)
  replace BX := BX.ext (E9.trans EY)
  replace BY := BY.ext (E9.trans EY)
  replace BZ := BZ.ext (E9.trans EY)
  replace BK := BK.ext (E9.trans EY)
  clear cBY cBZ cBK cB1x cB2x
  clear E9 EY KU hWK BY BZ BK
  have cB1x := B1x.cell
  have cB2x := B2x.cell
  go_wp2_with fail
  refine (KP.out _).mono ?_
  rintro e Wf ⟨rfl, E9⟩
  replace E := E.trans E9
  replace B1x := B1x.ext E9
  replace B2x := B2x.ext E9
  replace BX := BX.ext E9
  replace BU := BU.ext E9
  clear cB1x cB2x
  clear E9 KP hWU
  go_wp2_with fail
  refine (KS.out _).mono ?_
  rintro e Wg ⟨rfl, E9⟩
  obtain ⟨WM, hWM, EY, BM, -⟩ := mk_ Wg #[.int .i64 (xx + ux), .int .i64 (xy + uy), .int .i64 (xz + uz)] 50
  replace E := E.trans (E9.trans EY)
  replace B1x := B1x.ext (E9.trans EY)
  replace B2x := B2x.ext (E9.trans EY)
  replace BX := BX.ext (E9.trans EY)
  replace BU := BU.ext (E9.trans EY)
  clear E9 EY KS
  obtain ⟨WO, hWO, EY, BO, -⟩ := mk_ WM #[.int .i64 1, .int .i64 2, .int .i64 3] 50
  replace E := E.trans EY
  replace B1x := B1x.ext EY
  replace B2x := B2x.ext EY
  replace BX := BX.ext EY
  replace BU := BU.ext EY
  replace BM := BM.ext EY
  clear EY
  have cBO := BO.cell
  go_wp2_with fail
  refine (KV.out _).mono ?_
  rintro e Wh ⟨rfl, E9⟩
  obtain ⟨WV, hWV, EY, BV, -⟩ := mk_ Wh #[.int .i64 vx, .int .i64 vy, .int .i64 vz] 50
  replace E := E.trans (E9.trans EY)
  replace B1x := B1x.ext (E9.trans EY)
  replace B2x := B2x.ext (E9.trans EY)
  replace BX := BX.ext (E9.trans EY)
  replace BU := BU.ext (E9.trans EY)
  replace BM := BM.ext (E9.trans EY)
  replace BO := BO.ext (E9.trans EY)
  clear cBO
  clear E9 EY KV hWM hWO
  have cBO := BO.cell
  go_wp2_with fail
  refine (KW.out _).mono ?_
  rintro e Wi ⟨rfl, E9⟩
  obtain ⟨WW, hWW, EY, BW, -⟩ := mk_ Wi #[.int .i64 wx_, .int .i64 wy_, .int .i64 wz_] 50
  replace E := E.trans (E9.trans EY)
  replace B1x := B1x.ext (E9.trans EY)
  replace B2x := B2x.ext (E9.trans EY)
  replace BX := BX.ext (E9.trans EY)
  replace BU := BU.ext (E9.trans EY)
  replace BM := BM.ext (E9.trans EY)
  replace BO := BO.ext (E9.trans EY)
  replace BV := BV.ext (E9.trans EY)
  clear cBO
  clear E9 EY KW hWV
  have cBM := BM.cell
  have cBX := BX.cell
  have cBU := BU.cell
  have cB1x := B1x.cell
  have cB2x := B2x.cell
  have cBV := BV.cell
  have cBW := BW.cell
  go_upto_region 18 with (fail)
  refine wp_region_grow (by kernel_rfl) (by kernel_rfl) ?_
  repeat (go_big_quiet_step ((first | (go_at_call 38; exact quiet_ext (KQ.out _)) | (go_at_call 41; exact quiet_ext (KF.out _ _ _ _ _ _ _ (by assumption))))))
  refine wpQuiet_nil ?_
  intro WR hWR
  have ER : Ext WW WR := by
    obtain ⟨x, rfl⟩ := hWR
    exact (Ext.refl _).grow x
  clear hWR
  obtain ⟨hcWR, hfWR, hzWR⟩ := ext_facts ER
  go_wp2_with fail
  go_ret
  exact ⟨by simp, E.trans ER⟩
end Go.Proofs.YtenigkngmdofiaaGreat
namespace Go.Proofs.YtenigkngmdofiaaGreat
open Go.RowKit Go.ChangeShapes Go.WideShapes Go.ChangeAt Go.Deep Go.Joins

set_option maxRecDepth 100000 in
theorem latticeGroup_lifted (os : Os) (started : os.Started) (H : Type) (enc : TypeId × Value → H) :
    ReturnsInHanded {} Tryz.checked os 9 .any (Rows.latticeGroupSpec.pre6 enc Tryz.prog Tryz.f9 Rows.latticeGroupRow.domain false) (Rows.latticeGroupSpec.post enc Tryz.prog Tryz.f9 false true false false) := by
  refine returnsInHanded_of_change (C := Tryz.checked) Tryz.own started (by kernel_rfl) Tryz.func9
    (ChangeSpec.witness6 (enc := enc) (C := Tryz.checked) false ⟨#[], #[.agg #[.int .i64 0, .int .i64 0, .int .i64 0], .agg #[.int .i64 0, .int .i64 0, .int .i64 0], .int .i64 0, .int .i64 0], []⟩ 8 (by kernel_rfl) (by kernel_rfl) (by kernel_rfl) (by kernel_rfl)) ?_
  intro W base args ds gs before hval0 hW hcnd _
  have hval : ∀ (j : Nat) t v, Tryz.f9.params[j]? = some t → args[j]? = some v → Value.okWide Tryz.prog W .any base t v := hval0
  have hW' := hW
  obtain ⟨p, q, hA0, hV, rfl, hfz, hnd⟩ := hW
  have hA : DataW.TrodAll enc Tryz.prog W 0 (fun _ => true) true Tryz.f9.params.toList args.toList ds p := hA0
  rw [Tryz.params9] at hA hval
  have hAll := hA
  obtain ⟨v0, v1, v2, v3, d0, d1, d2, d3, p0, p1, p2, p3, rfl, rfl, rfl, h0, h1, h2, h3⟩ := trodAll_four hA
  obtain ⟨rfl, rfl⟩ := trodVars_none hV
  obtain ⟨x0, y0, z0, rfl⟩ := cell_open (hval 0 50 v0 rfl rfl) h0
  obtain ⟨x1, y1, z1, rfl⟩ := cell_open (hval 1 50 v1 rfl rfl) h1
  obtain ⟨n2, rfl⟩ := int_open (hval 2 3 v2 rfl rfl) h2
  obtain ⟨n3, rfl⟩ := int_open (hval 3 3 v3 rfl rfl) h3
  clear hA0 hval0
  simp only [List.append_nil] at hW' hAll
  have hlt : ∀ q ∈ p0 ++ p1 ++ p2 ++ p3, q.block < W.heap.size := fun q hq => hW'.lt q hq
  refine (group_walk x0 y0 z0 x1 y1 z1 n2 n3 W).mono fun e W' ⟨he, hE⟩ => ?_
  subst he
  refine ⟨_, rfl, ?_⟩
  refine ⟨_, _, _, [], p0 ++ p1 ++ p2 ++ p3, [], hW', ?_, ?_, rfl, hE.frame _, fun h => by cases h⟩
  · exact trodAll_mk1 (shut_bool Tryz.underlying4 true)
  · exact trodAll_ext (ts := [50, 50, 3, 3]) Tryz.laidOut hE (by
      intro t ht
      simp only [List.mem_cons, List.not_mem_nil, or_false] at ht
      rcases ht with rfl | rfl | rfl | rfl <;> exact ⟨by kernel_rfl, of_decide_eq_true (by kernel_rfl)⟩) hAll hlt

theorem latticeGroup_holds : Rows.LatticeGroupSaid :=
  OpenClaim.holds_of_wide 9 Tryz.f9 rfl rfl rfl rfl rfl rfl rfl ⟨rfl, rfl, rfl, rfl, rfl⟩ rfl rfl rfl rfl rfl (by kernel_rfl) Tryz.func9 (by kernel_rfl)
    (of_decide_eq_true (by kernel_rfl)) (by unfold Func.isWrapper; rw [if_neg (of_decide_eq_false (by kernel_rfl))]; exact ⟨rfl, rfl⟩)
    (fun os started H enc _ => latticeGroup_lifted os started H enc)
#print axioms latticeGroup_holds
end Go.Proofs.YtenigkngmdofiaaGreat
