/- lattice.turners and lattice.turn. -/
import Derived.Test.YtpikemglnnjemaaTurners
import Derived.Laws.EntriesVeiled
namespace Go.Proofs.Ytpikemglnnjemaa
open Go.RowKit

set_option maxHeartbeats 800000 in
theorem turners_c (w : World) :
    Calls Try.prog 40 #[] w fun e w' => ∃ g, e = .returned (.agg #[.func (.func 51) #[] #[], .func (.func 50) #[] #[],
      .func (.func 52) #[] #[.pointer (some ⟨g, 0, none⟩)], .func (.func 53) #[] #[.pointer (some ⟨g, 0, none⟩)],
      .func (.func 54) #[] #[], .func (.func 55) #[] #[]]) ∧ w'.cell? ⟨g, 0, none⟩ = some (.func (.func 50) #[] #[]) ∧ Ext w w' := by
  have hmf : ∀ (fn : Fn) (first cap : Array Value) (w : World), (Instr.makeFunc fn first cap).run Try.prog w = .ok (.func fn first cap) w := fun _ _ _ _ => rfl
  go_enter Try.func40, Try.ntmps40
  go_wp2
  refine bodyPost_ret (v := .agg #[.func (.func 51) #[] #[], .func (.func 50) #[] #[],
      .func (.func 52) #[] #[.pointer (some ⟨w.heap.size + 1, 0, none⟩)], .func (.func 53) #[] #[.pointer (some ⟨w.heap.size + 1, 0, none⟩)],
      .func (.func 54) #[] #[], .func (.func 55) #[] #[]]) (by simp [results, Try.results40, go_sem]) rfl ⟨w.heap.size + 1, rfl, ?_, by apply_rules [Ext.refl, Ext.alloc]⟩
  simp [go_sem]

/-- A cell of the lattice. -/
structure Pt where
  x : Int
  y : Int
  z : Int
def Pt.ok (p : Pt) : Prop := CB p.x ∧ CB p.y ∧ CB p.z
def rotZ (p : Pt) : Pt := ⟨-p.y, p.x, p.z⟩
def rotZn (p : Pt) : Nat → Pt
  | 0 => p
  | k + 1 => rotZ (rotZn p k)
/-- What is done to a cell after it was turned about z. -/
def turnQ (p : Pt) (q : Nat) : Pt :=
  match q with
  | 0 => p
  | 1 => ⟨p.x, -p.z, p.y⟩
  | 2 => ⟨p.x, -p.y, -p.z⟩
  | 3 => ⟨p.x, p.z, -p.y⟩
  | 4 => ⟨p.z, p.x, p.y⟩
  | _ => ⟨-p.z, -p.x, p.y⟩
def turnS (p : Pt) (n : Nat) : Pt := turnQ (rotZn p (n % 4)) (n / 4)
theorem rotZn_ok {p : Pt} (h : p.ok) (k : Nat) : (rotZn p k).ok := by
  induction k with
  | zero => exact h
  | succ k ih => exact ⟨ih.2.1.neg, ih.1, ih.2.2⟩
theorem turnQ_ok {p : Pt} (h : p.ok) (q : Nat) : (turnQ p q).ok := by
  obtain ⟨h1, h2, h3⟩ := h
  unfold turnQ
  split
  · exact ⟨h1, h2, h3⟩
  · exact ⟨h1, h3.neg, h2⟩
  · exact ⟨h1, h2.neg, h3.neg⟩
  · exact ⟨h1, h3, h2.neg⟩
  · exact ⟨h3, h1, h2⟩
  · exact ⟨h3.neg, h1.neg, h2⟩
theorem turnS_ok {p : Pt} (h : p.ok) (n : Nat) : (turnS p n).ok := turnQ_ok (rotZn_ok h _) _

set_option maxHeartbeats 3200000 in
theorem turn_c (x y z : Int) (n : Nat) (w : World) (hn : n < 24) (hp : Pt.ok ⟨x, y, z⟩) :
    Calls Try.prog 32 #[.agg #[.int .i64 x, .int .i64 y, .int .i64 z], .int .i64 n] w fun e w' =>
      e = .returned (.agg #[.int .i64 (turnS ⟨x, y, z⟩ n).x, .int .i64 (turnS ⟨x, y, z⟩ n).y, .int .i64 (turnS ⟨x, y, z⟩ n).z]) ∧ Ext w w' := by
  go_enter Try.func32, Try.ntmps32
  go_wp2
  go_loopw [7] (fun i wr => ∃ k : Nat, k ≤ n % 4 ∧ i = .int .i64 k ∧ Ext w wr ∧ Blk wr w.heap.size 62 #[.int .i64 (rotZn ⟨x, y, z⟩ k).x, .int .i64 (rotZn ⟨x, y, z⟩ k).y, .int .i64 (rotZn ⟨x, y, z⟩ k).z] ∧
      Blk wr (w.heap.size + 1) 62 #[.int .i64 0, .int .i64 0, .int .i64 0]) (fun i _ => n % 4 - (intOf i).toNat)
  case atStart =>
    refine ⟨0, by omega, rfl, by apply_rules [Ext.refl, Ext.alloc], (Blk.new _ _ _).alloc _, ?_⟩
    have := Blk.new (w.alloc (.cells #[.int .i64 x, .int .i64 y, .int .i64 z] 62)) #[.int .i64 0, .int .i64 0, .int .i64 0] 62
    rwa [World.size_alloc] at this
  case round =>
    obtain ⟨k, hk, rfl, E, B0, B1⟩ := hrel
    obtain ⟨p, hpk⟩ : ∃ p, rotZn ⟨x, y, z⟩ k = p := ⟨_, rfl⟩
    have hok : p.ok := hpk ▸ rotZn_ok hp k
    rw [hpk] at B0
    have Hp := Lib.hid hpk
    clear hpk
    have hz0 := hok.2.1
    obtain ⟨b1, b2⟩ := hz0
    have c0 := B0.cell
    have f0 := B0.frozen
    have c1 := B1.cell
    by_cases hlt : k < n % 4
    · go_wp2
      go_roundw
      case rel =>
        refine ⟨k + 1, by omega, by go_num, ((E.setCell (Nat.le_refl _) _).setCell (Nat.le_refl _) _).setCell (Nat.le_refl _) _, ?_, ((B1.far (by simp) _).far (by simp) _).far (by simp) _⟩
        have hr : rotZn ⟨x, y, z⟩ (k + 1) = ⟨-p.y, p.x, p.z⟩ := by
          show rotZ (rotZn ⟨x, y, z⟩ k) = _
          rw [Hp.out]
          rfl
        rw [hr]
        have := ((B0.set_ 0 (.int .i64 (-p.y))).set_ 1 (.int .i64 p.x)).set_ 2 (.int .i64 p.z)
        simpa using this
      case measure => simp [intOf]; omega
    · obtain rfl : n % 4 = k := by omega
      have hq6 : n / 4 = 0 ∨ n / 4 = 1 ∨ n / 4 = 2 ∨ n / 4 = 3 ∨ n / 4 = 4 ∨ n / 4 = 5 := by omega
      have Hq6 := Lib.hid hq6
      clear hq6
      go_wp2
      rcases Hq6.out with hq | hq | hq | hq | hq | hq
      · have Hfin := Lib.hid (show turnS ⟨x, y, z⟩ n = ⟨p.x, p.y, p.z⟩ from by unfold turnS; rw [Hp.out, hq]; rfl)
        have hqi : (n : Int) / 4 = 0 := by omega
        have hwq : IntKind.i64.wrap 0 = 0 := by decide
        have hfld : ∀ (w : World), (Instr.field 96 (.agg #[.func (.func 51) #[] #[]]) 0).run Try.prog w = .ok (.func (.func 51) #[] #[]) w := fun _ => by kernel_rfl
        have hidx : ∀ (g : Nat) (w : World), (Instr.index 97 (.agg #[.func (.func 51) #[] #[], .func (.func 50) #[] #[], .func (.func 52) #[] #[.pointer (some ⟨g, 0, none⟩)], .func (.func 53) #[] #[.pointer (some ⟨g, 0, none⟩)], .func (.func 54) #[] #[], .func (.func 55) #[] #[]]) (.int .i64 0)).run Try.prog w = .ok (.agg #[.func (.func 51) #[] #[]]) w := fun _ _ => by kernel_rfl
        clear hq Hq6
        go_region_law (first
          | (go_simp; go_at_call 40; refine (turners_c _).mono ?_; rintro e w1 ⟨g, rfl, HG, E1⟩; have B01 := B0.drew.ext E1; have B11 := B1.drew.ext E1; have c01 := B01.cell)
          | (go_simp; go_at_call 51; refine (tn2_c p.x p.y p.z _).mono ?_; rintro e w2 ⟨rfl, E2⟩; have B12 := B11.ext E2; have c12 := B12.cell; have f12 := B12.frozen))
        all_goals
          go_wp2
          refine bodyPost_ret (v := .agg #[.int .i64 p.x, .int .i64 p.y, .int .i64 p.z]) (by simp [results, Try.results32, go_sem, c12]) rfl ⟨by rw [Hfin.out], ?_⟩
          exact ((((E.drew.trans E1).trans E2).setCell (Nat.le_succ _) _).setCell (Nat.le_succ _) _).setCell (Nat.le_succ _) _
      · have Hfin := Lib.hid (show turnS ⟨x, y, z⟩ n = ⟨p.x, (-p.z), p.y⟩ from by unfold turnS; rw [Hp.out, hq]; rfl)
        have hqi : (n : Int) / 4 = 1 := by omega
        have hwq : IntKind.i64.wrap 1 = 1 := by decide
        have hfld : ∀ (w : World), (Instr.field 96 (.agg #[.func (.func 50) #[] #[]]) 0).run Try.prog w = .ok (.func (.func 50) #[] #[]) w := fun _ => by kernel_rfl
        have hidx : ∀ (g : Nat) (w : World), (Instr.index 97 (.agg #[.func (.func 51) #[] #[], .func (.func 50) #[] #[], .func (.func 52) #[] #[.pointer (some ⟨g, 0, none⟩)], .func (.func 53) #[] #[.pointer (some ⟨g, 0, none⟩)], .func (.func 54) #[] #[], .func (.func 55) #[] #[]]) (.int .i64 1)).run Try.prog w = .ok (.agg #[.func (.func 50) #[] #[]]) w := fun _ _ => by kernel_rfl
        clear hq Hq6
        go_region_law (first
          | (go_simp; go_at_call 40; refine (turners_c _).mono ?_; rintro e w1 ⟨g, rfl, HG, E1⟩; have B01 := B0.drew.ext E1; have B11 := B1.drew.ext E1; have c01 := B01.cell)
          | (go_simp; go_at_call 50; refine (tn1_c p.x p.y p.z _ hok.2.2).mono ?_; rintro e w2 ⟨rfl, E2⟩; have B12 := B11.ext E2; have c12 := B12.cell; have f12 := B12.frozen))
        all_goals
          go_wp2
          refine bodyPost_ret (v := .agg #[.int .i64 p.x, .int .i64 (-p.z), .int .i64 p.y]) (by simp [results, Try.results32, go_sem, c12]) rfl ⟨by rw [Hfin.out], ?_⟩
          exact ((((E.drew.trans E1).trans E2).setCell (Nat.le_succ _) _).setCell (Nat.le_succ _) _).setCell (Nat.le_succ _) _
      · have Hfin := Lib.hid (show turnS ⟨x, y, z⟩ n = ⟨p.x, (-p.y), (-p.z)⟩ from by unfold turnS; rw [Hp.out, hq]; rfl)
        have hqi : (n : Int) / 4 = 2 := by omega
        have hwq : IntKind.i64.wrap 2 = 2 := by decide
        have hfld : ∀ (g : Nat) (w : World), (Instr.field 96 (.agg #[.func (.func 52) #[] #[.pointer (some ⟨g, 0, none⟩)]]) 0).run Try.prog w = .ok (.func (.func 52) #[] #[.pointer (some ⟨g, 0, none⟩)]) w := fun _ _ => by kernel_rfl
        have hidx : ∀ (g : Nat) (w : World), (Instr.index 97 (.agg #[.func (.func 51) #[] #[], .func (.func 50) #[] #[], .func (.func 52) #[] #[.pointer (some ⟨g, 0, none⟩)], .func (.func 53) #[] #[.pointer (some ⟨g, 0, none⟩)], .func (.func 54) #[] #[], .func (.func 55) #[] #[]]) (.int .i64 2)).run Try.prog w = .ok (.agg #[.func (.func 52) #[] #[.pointer (some ⟨g, 0, none⟩)]]) w := fun _ _ => by kernel_rfl
        clear hq Hq6
        go_region_law (first
          | (go_simp; go_at_call 40; refine (turners_c _).mono ?_; rintro e w1 ⟨g, rfl, HG, E1⟩; have B01 := B0.drew.ext E1; have B11 := B1.drew.ext E1; have c01 := B01.cell)
          | (go_simp; go_at_call 52; refine (tn3_c p.x p.y p.z g _ hok.2.1 hok.2.2 HG).mono ?_; rintro e w2 ⟨rfl, E2⟩; have B12 := B11.ext E2; have c12 := B12.cell; have f12 := B12.frozen))
        all_goals
          go_wp2
          refine bodyPost_ret (v := .agg #[.int .i64 p.x, .int .i64 (-p.y), .int .i64 (-p.z)]) (by simp [results, Try.results32, go_sem, c12]) rfl ⟨by rw [Hfin.out], ?_⟩
          exact ((((E.drew.trans E1).trans E2).setCell (Nat.le_succ _) _).setCell (Nat.le_succ _) _).setCell (Nat.le_succ _) _
      · have Hfin := Lib.hid (show turnS ⟨x, y, z⟩ n = ⟨p.x, p.z, (-p.y)⟩ from by unfold turnS; rw [Hp.out, hq]; rfl)
        have hqi : (n : Int) / 4 = 3 := by omega
        have hwq : IntKind.i64.wrap 3 = 3 := by decide
        have hfld : ∀ (g : Nat) (w : World), (Instr.field 96 (.agg #[.func (.func 53) #[] #[.pointer (some ⟨g, 0, none⟩)]]) 0).run Try.prog w = .ok (.func (.func 53) #[] #[.pointer (some ⟨g, 0, none⟩)]) w := fun _ _ => by kernel_rfl
        have hidx : ∀ (g : Nat) (w : World), (Instr.index 97 (.agg #[.func (.func 51) #[] #[], .func (.func 50) #[] #[], .func (.func 52) #[] #[.pointer (some ⟨g, 0, none⟩)], .func (.func 53) #[] #[.pointer (some ⟨g, 0, none⟩)], .func (.func 54) #[] #[], .func (.func 55) #[] #[]]) (.int .i64 3)).run Try.prog w = .ok (.agg #[.func (.func 53) #[] #[.pointer (some ⟨g, 0, none⟩)]]) w := fun _ _ => by kernel_rfl
        clear hq Hq6
        go_region_law (first
          | (go_simp; go_at_call 40; refine (turners_c _).mono ?_; rintro e w1 ⟨g, rfl, HG, E1⟩; have B01 := B0.drew.ext E1; have B11 := B1.drew.ext E1; have c01 := B01.cell)
          | (go_simp; go_at_call 53; refine (tn4_c p.x p.y p.z g _ hok.2.1 hok.2.2 HG).mono ?_; rintro e w2 ⟨rfl, E2⟩; have B12 := B11.ext E2; have c12 := B12.cell; have f12 := B12.frozen))
        all_goals
          go_wp2
          refine bodyPost_ret (v := .agg #[.int .i64 p.x, .int .i64 p.z, .int .i64 (-p.y)]) (by simp [results, Try.results32, go_sem, c12]) rfl ⟨by rw [Hfin.out], ?_⟩
          exact ((((E.drew.trans E1).trans E2).setCell (Nat.le_succ _) _).setCell (Nat.le_succ _) _).setCell (Nat.le_succ _) _
      · have Hfin := Lib.hid (show turnS ⟨x, y, z⟩ n = ⟨p.z, p.x, p.y⟩ from by unfold turnS; rw [Hp.out, hq]; rfl)
        have hqi : (n : Int) / 4 = 4 := by omega
        have hwq : IntKind.i64.wrap 4 = 4 := by decide
        have hfld : ∀ (w : World), (Instr.field 96 (.agg #[.func (.func 54) #[] #[]]) 0).run Try.prog w = .ok (.func (.func 54) #[] #[]) w := fun _ => by kernel_rfl
        have hidx : ∀ (g : Nat) (w : World), (Instr.index 97 (.agg #[.func (.func 51) #[] #[], .func (.func 50) #[] #[], .func (.func 52) #[] #[.pointer (some ⟨g, 0, none⟩)], .func (.func 53) #[] #[.pointer (some ⟨g, 0, none⟩)], .func (.func 54) #[] #[], .func (.func 55) #[] #[]]) (.int .i64 4)).run Try.prog w = .ok (.agg #[.func (.func 54) #[] #[]]) w := fun _ _ => by kernel_rfl
        clear hq Hq6
        go_region_law (first
          | (go_simp; go_at_call 40; refine (turners_c _).mono ?_; rintro e w1 ⟨g, rfl, HG, E1⟩; have B01 := B0.drew.ext E1; have B11 := B1.drew.ext E1; have c01 := B01.cell)
          | (go_simp; go_at_call 54; refine (tn5_c p.x p.y p.z _).mono ?_; rintro e w2 ⟨rfl, E2⟩; have B12 := B11.ext E2; have c12 := B12.cell; have f12 := B12.frozen))
        all_goals
          go_wp2
          refine bodyPost_ret (v := .agg #[.int .i64 p.z, .int .i64 p.x, .int .i64 p.y]) (by simp [results, Try.results32, go_sem, c12]) rfl ⟨by rw [Hfin.out], ?_⟩
          exact ((((E.drew.trans E1).trans E2).setCell (Nat.le_succ _) _).setCell (Nat.le_succ _) _).setCell (Nat.le_succ _) _
      · have Hfin := Lib.hid (show turnS ⟨x, y, z⟩ n = ⟨(-p.z), (-p.x), p.y⟩ from by unfold turnS; rw [Hp.out, hq]; rfl)
        have hqi : (n : Int) / 4 = 5 := by omega
        have hwq : IntKind.i64.wrap 5 = 5 := by decide
        have hfld : ∀ (w : World), (Instr.field 96 (.agg #[.func (.func 55) #[] #[]]) 0).run Try.prog w = .ok (.func (.func 55) #[] #[]) w := fun _ => by kernel_rfl
        have hidx : ∀ (g : Nat) (w : World), (Instr.index 97 (.agg #[.func (.func 51) #[] #[], .func (.func 50) #[] #[], .func (.func 52) #[] #[.pointer (some ⟨g, 0, none⟩)], .func (.func 53) #[] #[.pointer (some ⟨g, 0, none⟩)], .func (.func 54) #[] #[], .func (.func 55) #[] #[]]) (.int .i64 5)).run Try.prog w = .ok (.agg #[.func (.func 55) #[] #[]]) w := fun _ _ => by kernel_rfl
        clear hq Hq6
        go_region_law (first
          | (go_simp; go_at_call 40; refine (turners_c _).mono ?_; rintro e w1 ⟨g, rfl, HG, E1⟩; have B01 := B0.drew.ext E1; have B11 := B1.drew.ext E1; have c01 := B01.cell)
          | (go_simp; go_at_call 55; refine (tn6_c p.x p.y p.z _ hok.1 hok.2.2).mono ?_; rintro e w2 ⟨rfl, E2⟩; have B12 := B11.ext E2; have c12 := B12.cell; have f12 := B12.frozen))
        all_goals
          go_wp2
          refine bodyPost_ret (v := .agg #[.int .i64 (-p.z), .int .i64 (-p.x), .int .i64 p.y]) (by simp [results, Try.results32, go_sem, c12]) rfl ⟨by rw [Hfin.out], ?_⟩
          exact ((((E.drew.trans E1).trans E2).setCell (Nat.le_succ _) _).setCell (Nat.le_succ _) _).setCell (Nat.le_succ _) _
end Go.Proofs.Ytpikemglnnjemaa
