/- lattice: the closures of turners, and turners itself. -/
import Derived.Test.YtpikemglnnjemaaBlk
import Derived.Test.YtpikemglnnjemaaTail
import Derived.Test.YtpikemglnnjemaaApp
namespace Go.Proofs.Ytpikemglnnjemaa
open Go.RowKit

/-- A coordinate that is not great. -/
def CB (x : Int) : Prop := -1000000 ≤ x ∧ x ≤ 1000000

set_option maxHeartbeats 400000 in
theorem tn1_c (x y z : Int) (w : World) (hz : CB z) :
    Calls Try.prog 50 #[.agg #[.int .i64 x, .int .i64 y, .int .i64 z]] w fun e w' => e = .returned (.agg #[.int .i64 x, .int .i64 (-z), .int .i64 y]) ∧ Ext w w' := by
  obtain ⟨z1, z2⟩ := hz
  go_enter Try.func50, Try.ntmps50
  go_wp2
  exact bodyPost_ret (v := .agg #[.int .i64 x, .int .i64 (-z), .int .i64 y]) (by simp [results, Try.results50, go_sem]) rfl ⟨rfl, by apply_rules [Ext.refl, Ext.alloc]⟩

set_option maxHeartbeats 400000 in
theorem tn2_c (x y z : Int) (w : World) :
    Calls Try.prog 51 #[.agg #[.int .i64 x, .int .i64 y, .int .i64 z]] w fun e w' => e = .returned (.agg #[.int .i64 x, .int .i64 y, .int .i64 z]) ∧ Ext w w' := by
  go_enter Try.func51, Try.ntmps51
  go_wp2
  exact bodyPost_ret (v := .agg #[.int .i64 x, .int .i64 y, .int .i64 z]) (by simp [results, Try.results51, go_sem]) rfl ⟨rfl, by apply_rules [Ext.refl, Ext.alloc]⟩

set_option maxHeartbeats 400000 in
theorem tn5_c (x y z : Int) (w : World) :
    Calls Try.prog 54 #[.agg #[.int .i64 x, .int .i64 y, .int .i64 z]] w fun e w' => e = .returned (.agg #[.int .i64 z, .int .i64 x, .int .i64 y]) ∧ Ext w w' := by
  go_enter Try.func54, Try.ntmps54
  go_wp2
  exact bodyPost_ret (v := .agg #[.int .i64 z, .int .i64 x, .int .i64 y]) (by simp [results, Try.results54, go_sem]) rfl ⟨rfl, by apply_rules [Ext.refl, Ext.alloc]⟩

set_option maxHeartbeats 400000 in
theorem tn6_c (x y z : Int) (w : World) (hx : CB x) (hz : CB z) :
    Calls Try.prog 55 #[.agg #[.int .i64 x, .int .i64 y, .int .i64 z]] w fun e w' => e = .returned (.agg #[.int .i64 (-z), .int .i64 (-x), .int .i64 y]) ∧ Ext w w' := by
  obtain ⟨x1, x2⟩ := hx
  obtain ⟨z1, z2⟩ := hz
  go_enter Try.func55, Try.ntmps55
  go_wp2
  exact bodyPost_ret (v := .agg #[.int .i64 (-z), .int .i64 (-x), .int .i64 y]) (by simp [results, Try.results55, go_sem]) rfl ⟨rfl, by apply_rules [Ext.refl, Ext.alloc]⟩

theorem CB.neg {x : Int} (h : CB x) : CB (-x) := by unfold CB at *; omega

set_option maxHeartbeats 800000 in
theorem tn3_c (x y z : Int) (g : Nat) (w : World) (hy : CB y) (hz : CB z) (hg : w.cell? ⟨g, 0, none⟩ = some (.func (.func 50) #[] #[])) :
    Calls Try.prog 52 #[.agg #[.int .i64 x, .int .i64 y, .int .i64 z], .pointer (some ⟨g, 0, none⟩)] w fun e w' => e = .returned (.agg #[.int .i64 x, .int .i64 (-y), .int .i64 (-z)]) ∧ Ext w w' := by
  obtain ⟨W, hW, E, ba, bb, hsz⟩ := boxes2 w #[.int .i64 x, .int .i64 y, .int .i64 z] #[.int .i64 0, .int .i64 0, .int .i64 0] 62 62
  have hgW := E.cell hg
  have hz' := hz.neg
  have B3 : Blk W (w.heap.size + 1) 62 #[.int .i64 0, .int .i64 0, .int .i64 0] := by
    rw [← hW]
    have := Blk.new (w.alloc (.cells #[.int .i64 x, .int .i64 y, .int .i64 z] 62)) #[.int .i64 0, .int .i64 0, .int .i64 0] 62
    rwa [World.size_alloc] at this
  go_enter Try.func52, Try.ntmps52
  go_wp2
  refine wp_region_tail 5 (by kernel_rfl) (by kernel_rfl) ?_
  simp only [List.take_succ_cons, List.take_zero, List.drop_succ_cons, List.drop_zero]
  repeat (go_big_quiet_step ((go_at_call 50; exact quiet_ext (tn1_c _ _ _ _ (by assumption)))))
  refine wpQuiet_nil ?_
  intro W2 hW2
  have E2 : Ext W W2 := by
    obtain ⟨x, rfl⟩ := hW2
    exact (Ext.refl _).grow x
  clear hW2
  have B32 := B3.ext E2
  have cc := B32.cell
  have ff := B32.frozen
  go_wp2
  refine bodyPost_ret (v := .agg #[.int .i64 x, .int .i64 (-y), .int .i64 (-z)]) (by simp [results, Try.results52, go_sem, cc]) rfl ⟨rfl, ?_⟩
  exact (((E.trans E2).setCell (Nat.le_succ _) _).setCell (Nat.le_succ _) _).setCell (Nat.le_succ _) _

set_option maxHeartbeats 800000 in
theorem tn4_c (x y z : Int) (g : Nat) (w : World) (hy : CB y) (hz : CB z) (hg : w.cell? ⟨g, 0, none⟩ = some (.func (.func 50) #[] #[])) :
    Calls Try.prog 53 #[.agg #[.int .i64 x, .int .i64 y, .int .i64 z], .pointer (some ⟨g, 0, none⟩)] w fun e w' => e = .returned (.agg #[.int .i64 x, .int .i64 z, .int .i64 (-y)]) ∧ Ext w w' := by
  obtain ⟨W, hW, E, ba, bb, hsz⟩ := boxes2 w #[.int .i64 x, .int .i64 y, .int .i64 z] #[.int .i64 0, .int .i64 0, .int .i64 0] 62 62
  have hgW := E.cell hg
  have hz' := hz.neg
  have hy' := hy.neg
  have B3 : Blk W (w.heap.size + 1) 62 #[.int .i64 0, .int .i64 0, .int .i64 0] := by
    rw [← hW]
    have := Blk.new (w.alloc (.cells #[.int .i64 x, .int .i64 y, .int .i64 z] 62)) #[.int .i64 0, .int .i64 0, .int .i64 0] 62
    rwa [World.size_alloc] at this
  go_enter Try.func53, Try.ntmps53
  go_wp2
  refine wp_region_tail 7 (by kernel_rfl) (by kernel_rfl) ?_
  simp only [List.take_succ_cons, List.take_zero, List.drop_succ_cons, List.drop_zero]
  repeat (go_big_quiet_step ((go_at_call 50; exact quiet_ext (tn1_c _ _ _ _ (by assumption)))))
  refine wpQuiet_nil ?_
  intro W2 hW2
  have E2 : Ext W W2 := by
    obtain ⟨x, rfl⟩ := hW2
    exact (Ext.refl _).grow x
  clear hW2
  have B32 := B3.ext E2
  have cc := B32.cell
  have ff := B32.frozen
  go_wp2
  refine bodyPost_ret (v := .agg #[.int .i64 x, .int .i64 z, .int .i64 (-y)]) (by simp [results, Try.results53, go_sem, cc]) rfl ⟨rfl, ?_⟩
  exact (((E.trans E2).setCell (Nat.le_succ _) _).setCell (Nat.le_succ _) _).setCell (Nat.le_succ _) _

end Go.Proofs.Ytpikemglnnjemaa
