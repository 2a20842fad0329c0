/- studworkref01.Turned: the same turns. -/
import Derived.Test.YtenigkngmdofiaaTurn
namespace Go.Proofs.Ytenigkngmdofiaa
open Go.RowKit

def rotX (p : Pt) : Pt := ⟨p.x, -p.z, p.y⟩
def rotXn (p : Pt) : Nat → Pt
  | 0 => p
  | k + 1 => rotX (rotXn p k)
theorem rotXn_ok {p : Pt} (h : p.ok) (k : Nat) : (rotXn p k).ok := by
  induction k with
  | zero => exact h
  | succ k ih => exact ⟨ih.1, ih.2.2.neg, ih.2.1⟩

set_option maxHeartbeats 1600000 in
theorem aboutZ_c (x y z n : Int) (w : World) (h0 : 0 ≤ n) (h1 : n ≤ 1000) (hp : Pt.ok ⟨x, y, z⟩) :
    Calls Try.prog 79 #[.agg #[.int .i64 x, .int .i64 y, .int .i64 z], .int .i64 n] w fun e w' =>
      e = .returned (.agg #[.int .i64 (rotZn ⟨x, y, z⟩ n.toNat).x, .int .i64 (rotZn ⟨x, y, z⟩ n.toNat).y, .int .i64 (rotZn ⟨x, y, z⟩ n.toNat).z]) ∧ Ext w w' := by
  obtain ⟨m, rfl⟩ := Int.eq_ofNat_of_zero_le h0
  rw [Int.toNat_natCast]
  go_enter Try.func79, Try.ntmps79
  go_wp2
  go_loopw [5] (fun i wr => ∃ k : Nat, k ≤ m ∧ i = .int .i64 k ∧ Ext w wr ∧ Blk wr w.heap.size 23 #[.int .i64 (rotZn ⟨x, y, z⟩ k).x, .int .i64 (rotZn ⟨x, y, z⟩ k).y, .int .i64 (rotZn ⟨x, y, z⟩ k).z] ∧
      Blk wr (w.heap.size + 1) 23 #[.int .i64 0, .int .i64 0, .int .i64 0]) (fun i _ => m - (intOf i).toNat)
  case atStart =>
    refine ⟨0, by omega, rfl, by apply_rules [Ext.refl, Ext.alloc], (Blk.new _ _ _).alloc _, ?_⟩
    have := Blk.new (w.alloc (.cells #[.int .i64 x, .int .i64 y, .int .i64 z] 23)) #[.int .i64 0, .int .i64 0, .int .i64 0] 23
    rwa [World.size_alloc] at this
  case round =>
    obtain ⟨k, hk, rfl, E, B0, B1⟩ := hrel
    obtain ⟨p, hpk⟩ : ∃ p, rotZn ⟨x, y, z⟩ k = p := ⟨_, rfl⟩
    have hok : p.ok := hpk ▸ rotZn_ok hp k
    rw [hpk] at B0
    have Hp := Lib.hid hpk
    clear hpk
    obtain ⟨_, ⟨b1, b2⟩, b3, b4⟩ := hok
    have c0 := B0.cell
    have f0 := B0.frozen
    have c1 := B1.cell
    have f1 := B1.frozen
    by_cases hlt : k < m
    · go_wp2
      go_roundw
      case rel =>
        refine ⟨k + 1, by omega, by go_num, ((E.setCell (Nat.le_refl _) _).setCell (Nat.le_refl _) _).setCell (Nat.le_refl _) _, ?_, ((B1.far (by simp) _).far (by simp) _).far (by simp) _⟩
        have hr : rotZn ⟨x, y, z⟩ (k + 1) = ⟨(-p.y), p.x, p.z⟩ := by
          show rotZ (rotZn ⟨x, y, z⟩ k) = _
          rw [Hp.out]
          rfl
        rw [hr]
        have := ((B0.set_ 0 (.int .i64 (-p.y))).set_ 1 (.int .i64 p.x)).set_ 2 (.int .i64 p.z)
        simpa using this
      case measure => simp [intOf]; omega
    · obtain rfl : m = k := by omega
      go_wp2
      refine bodyPost_ret (v := .agg #[.int .i64 p.x, .int .i64 p.y, .int .i64 p.z]) (by simp [results, Try.results79, go_sem, c1]) rfl ⟨by rw [Hp.out], ?_⟩
      exact ((E.setCell (Nat.le_succ _) _).setCell (Nat.le_succ _) _).setCell (Nat.le_succ _) _

set_option maxHeartbeats 1600000 in
theorem aboutX_c (x y z n : Int) (w : World) (h0 : 0 ≤ n) (h1 : n ≤ 1000) (hp : Pt.ok ⟨x, y, z⟩) :
    Calls Try.prog 80 #[.agg #[.int .i64 x, .int .i64 y, .int .i64 z], .int .i64 n] w fun e w' =>
      e = .returned (.agg #[.int .i64 (rotXn ⟨x, y, z⟩ n.toNat).x, .int .i64 (rotXn ⟨x, y, z⟩ n.toNat).y, .int .i64 (rotXn ⟨x, y, z⟩ n.toNat).z]) ∧ Ext w w' := by
  obtain ⟨m, rfl⟩ := Int.eq_ofNat_of_zero_le h0
  rw [Int.toNat_natCast]
  go_enter Try.func80, Try.ntmps80
  go_wp2
  go_loopw [5] (fun i wr => ∃ k : Nat, k ≤ m ∧ i = .int .i64 k ∧ Ext w wr ∧ Blk wr w.heap.size 23 #[.int .i64 (rotXn ⟨x, y, z⟩ k).x, .int .i64 (rotXn ⟨x, y, z⟩ k).y, .int .i64 (rotXn ⟨x, y, z⟩ k).z] ∧
      Blk wr (w.heap.size + 1) 23 #[.int .i64 0, .int .i64 0, .int .i64 0]) (fun i _ => m - (intOf i).toNat)
  case atStart =>
    refine ⟨0, by omega, rfl, by apply_rules [Ext.refl, Ext.alloc], (Blk.new _ _ _).alloc _, ?_⟩
    have := Blk.new (w.alloc (.cells #[.int .i64 x, .int .i64 y, .int .i64 z] 23)) #[.int .i64 0, .int .i64 0, .int .i64 0] 23
    rwa [World.size_alloc] at this
  case round =>
    obtain ⟨k, hk, rfl, E, B0, B1⟩ := hrel
    obtain ⟨p, hpk⟩ : ∃ p, rotXn ⟨x, y, z⟩ k = p := ⟨_, rfl⟩
    have hok : p.ok := hpk ▸ rotXn_ok hp k
    rw [hpk] at B0
    have Hp := Lib.hid hpk
    clear hpk
    obtain ⟨_, ⟨b1, b2⟩, b3, b4⟩ := hok
    have c0 := B0.cell
    have f0 := B0.frozen
    have c1 := B1.cell
    have f1 := B1.frozen
    by_cases hlt : k < m
    · go_wp2
      go_roundw
      case rel =>
        refine ⟨k + 1, by omega, by go_num, ((E.setCell (Nat.le_refl _) _).setCell (Nat.le_refl _) _).setCell (Nat.le_refl _) _, ?_, ((B1.far (by simp) _).far (by simp) _).far (by simp) _⟩
        have hr : rotXn ⟨x, y, z⟩ (k + 1) = ⟨p.x, (-p.z), p.y⟩ := by
          show rotX (rotXn ⟨x, y, z⟩ k) = _
          rw [Hp.out]
          rfl
        rw [hr]
        have := ((B0.set_ 0 (.int .i64 p.x)).set_ 1 (.int .i64 (-p.z))).set_ 2 (.int .i64 p.y)
        simpa using this
      case measure => simp [intOf]; omega
    · obtain rfl : m = k := by omega
      go_wp2
      refine bodyPost_ret (v := .agg #[.int .i64 p.x, .int .i64 p.y, .int .i64 p.z]) (by simp [results, Try.results80, go_sem, c1]) rfl ⟨by rw [Hp.out], ?_⟩
      exact ((E.setCell (Nat.le_succ _) _).setCell (Nat.le_succ _) _).setCell (Nat.le_succ _) _

theorem aboutX_1 (x y z : Int) (w : World) (hp : Pt.ok ⟨x, y, z⟩) :
    Calls Try.prog 80 #[.agg #[.int .i64 x, .int .i64 y, .int .i64 z], .int .i64 1] w fun e w' => e = .returned (.agg #[.int .i64 x, .int .i64 (-z), .int .i64 y]) ∧ Ext w w' :=
  (aboutX_c x y z 1 w (by omega) (by omega) hp).mono fun _ _ ⟨he, hE⟩ => ⟨by rw [he]; rfl, hE⟩
theorem aboutZ_1 (x y z : Int) (w : World) (hp : Pt.ok ⟨x, y, z⟩) :
    Calls Try.prog 79 #[.agg #[.int .i64 x, .int .i64 y, .int .i64 z], .int .i64 1] w fun e w' => e = .returned (.agg #[.int .i64 (-y), .int .i64 x, .int .i64 z]) ∧ Ext w w' :=
  (aboutZ_c x y z 1 w (by omega) (by omega) hp).mono fun _ _ ⟨he, hE⟩ => ⟨by rw [he]; rfl, hE⟩
theorem aboutZ_3 (x y z : Int) (w : World) (hp : Pt.ok ⟨x, y, z⟩) :
    Calls Try.prog 79 #[.agg #[.int .i64 x, .int .i64 y, .int .i64 z], .int .i64 3] w fun e w' => e = .returned (.agg #[.int .i64 y, .int .i64 (-x), .int .i64 z]) ∧ Ext w w' :=
  (aboutZ_c x y z 3 w (by omega) (by omega) hp).mono fun _ _ ⟨he, hE⟩ => ⟨by rw [he]; show Ending.returned (.agg #[.int .i64 (- -y), .int .i64 (-x), .int .i64 z]) = _; rw [Int.neg_neg], hE⟩

theorem turnS_low (p : Pt) (n : Nat) (h : n / 4 < 4) : turnS p n = rotXn (rotZn p (n % 4)) (n / 4) := by
  unfold turnS
  generalize rotZn p (n % 4) = q
  have : n / 4 = 0 ∨ n / 4 = 1 ∨ n / 4 = 2 ∨ n / 4 = 3 := by omega
  rcases this with h | h | h | h <;> rw [h] <;> simp [turnQ, rotXn, rotX]
theorem turnS_four (p : Pt) (n : Nat) (h : n / 4 = 4) : turnS p n = rotZn (rotXn (rotZn p (n % 4)) 1) 1 := by
  unfold turnS
  rw [h]
  simp [turnQ, rotXn, rotX, rotZn, rotZ]
theorem turnS_five (p : Pt) (n : Nat) (h : n / 4 = 5) : turnS p n = rotZn (rotXn (rotZn p (n % 4)) 1) 3 := by
  unfold turnS
  rw [h]
  simp [turnQ, rotXn, rotX, rotZn, rotZ]

set_option maxHeartbeats 1600000 in
theorem turned_c (x y z : Int) (n : Nat) (w : World) (hn : n < 24) (hp : Pt.ok ⟨x, y, z⟩) :
    Calls Try.prog 46 #[.agg #[.int .i64 x, .int .i64 y, .int .i64 z], .int .i64 n] w fun e w' =>
      e = .returned (.agg #[.int .i64 (turnS ⟨x, y, z⟩ n).x, .int .i64 (turnS ⟨x, y, z⟩ n).y, .int .i64 (turnS ⟨x, y, z⟩ n).z]) ∧ Ext w w' := by
  have e1 : ((n : Int) % 4).toNat = n % 4 := by omega
  have e2 : ((n : Int) / 4).toNat = n / 4 := by omega
  have H1 := Lib.hid e1
  have H2 := Lib.hid e2
  clear e1 e2
  obtain ⟨W, hW, E, ba, bb, hz⟩ := boxes2 w #[.int .i64 x, .int .i64 y, .int .i64 z] #[.int .i64 0, .int .i64 0, .int .i64 0] 23 23
  have B0 : Blk W w.heap.size 23 #[.int .i64 x, .int .i64 y, .int .i64 z] := by rw [← hW]; exact (Blk.new _ _ _).alloc _
  have B1 : Blk W (w.heap.size + 1) 23 #[.int .i64 0, .int .i64 0, .int .i64 0] := by
    rw [← hW]
    have := Blk.new (w.alloc (.cells #[.int .i64 x, .int .i64 y, .int .i64 z] 23)) #[.int .i64 0, .int .i64 0, .int .i64 0] 23
    rwa [World.size_alloc] at this
  go_enter Try.func46, Try.ntmps46
  go_wp2_with fail
  refine (aboutZ_c x y z _ _ (by omega) (by omega) hp).mono ?_
  rintro e w1 ⟨rfl, E1⟩
  have hp1 := rotZn_ok hp (n % 4)
  rw [H1.out]
  obtain ⟨p, hpk⟩ : ∃ p, rotZn ⟨x, y, z⟩ (n % 4) = p := ⟨_, rfl⟩
  rw [hpk] at hp1 ⊢
  have Hp := Lib.hid hpk
  clear hpk
  have B01 := B0.ext E1
  have B11 := B1.ext E1
  have c0 := B01.cell
  have f0 := B01.frozen
  obtain ⟨w2, hw2, B02, far2, ext2, _⟩ := B01.store3 (.int .i64 p.x) (.int .i64 p.y) (.int .i64 p.z)
  have B12 := far2 _ _ _ (by omega) B11
  have E2 := ext2 w (E.trans E1) (Nat.le_refl _)
  clear far2 ext2
  have c2 := B02.cell
  by_cases h4 : n / 4 < 4
  · go_wp2_with fail
    refine (aboutX_c p.x p.y p.z _ _ (by omega) (by omega) hp1).mono ?_
    rintro e w3 ⟨rfl, E3⟩
    rw [H2.out]
    have Hf := Lib.hid (turnS_low ⟨x, y, z⟩ n h4)
    obtain ⟨q, hq⟩ : ∃ q, rotXn ⟨p.x, p.y, p.z⟩ (n / 4) = q := ⟨_, rfl⟩
    have Hq := Lib.hid hq
    rw [hq]
    clear hq
    have B13 := B12.ext E3
    have c3 := B13.cell
    have f3 := B13.frozen
    go_wp2_with fail
    refine bodyPost_ret (v := .agg #[.int .i64 q.x, .int .i64 q.y, .int .i64 q.z]) (by simp [results, Try.results46, go_sem, c3]) rfl ⟨by rw [Hf.out, Hp.out, show rotXn p (n / 4) = q from Hq.out], ?_⟩
    exact (((E2.trans E3).setCell (Nat.le_succ _) _).setCell (Nat.le_succ _) _).setCell (Nat.le_succ _) _
  · go_wp2_with fail
    refine (aboutX_1 p.x p.y p.z _ hp1).mono ?_
    rintro e w3 ⟨rfl, E3⟩
    have hp2 : Pt.ok ⟨p.x, -p.z, p.y⟩ := ⟨hp1.1, hp1.2.2.neg, hp1.2.1⟩
    have B03 := B02.ext E3
    have B13 := B12.ext E3
    have c3 := B03.cell
    have f3 := B03.frozen
    obtain ⟨w4, hw4, B04, far4, ext4, _⟩ := B03.store3 (.int .i64 p.x) (.int .i64 (-p.z)) (.int .i64 p.y)
    have B14 := far4 _ _ _ (by omega) B13
    have E4 := ext4 w (E2.trans E3) (Nat.le_refl _)
    clear far4 ext4
    have c4 := B04.cell
    by_cases h5 : n / 4 = 4
    · have Hf := Lib.hid (turnS_four ⟨x, y, z⟩ n h5)
      have hi : (n : Int) / 4 = 4 := by omega
      clear h5 h4
      go_wp2_with fail
      refine (aboutZ_1 p.x (-p.z) p.y _ hp2).mono ?_
      rintro e w5 ⟨rfl, E5⟩
      have B15 := B14.ext E5
      have c5 := B15.cell
      have f5 := B15.frozen
      go_wp2_with fail
      refine bodyPost_ret (v := .agg #[.int .i64 (- -p.z), .int .i64 p.x, .int .i64 p.y]) (by simp [results, Try.results46, go_sem, c5]) rfl ⟨by rw [Hf.out, Hp.out]; rfl, ?_⟩
      exact (((E4.trans E5).setCell (Nat.le_succ _) _).setCell (Nat.le_succ _) _).setCell (Nat.le_succ _) _
    · have Hf := Lib.hid (turnS_five ⟨x, y, z⟩ n (by omega))
      have hi : (n : Int) / 4 = 5 := by omega
      clear h5 h4
      go_wp2_with fail
      refine (aboutZ_3 p.x (-p.z) p.y _ hp2).mono ?_
      rintro e w5 ⟨rfl, E5⟩
      have B15 := B14.ext E5
      have c5 := B15.cell
      have f5 := B15.frozen
      go_wp2_with fail
      refine bodyPost_ret (v := .agg #[.int .i64 (-p.z), .int .i64 (-p.x), .int .i64 p.y]) (by simp [results, Try.results46, go_sem, c5]) rfl ⟨?_, ?_⟩
      · rw [Hf.out, Hp.out]
        show _ = Ending.returned (.agg #[.int .i64 (- -(-p.z)), .int .i64 (-p.x), .int .i64 p.y])
        rw [Int.neg_neg]
      exact (((E4.trans E5).setCell (Nat.le_succ _) _).setCell (Nat.le_succ _) _).setCell (Nat.le_succ _) _
end Go.Proofs.Ytenigkngmdofiaa
