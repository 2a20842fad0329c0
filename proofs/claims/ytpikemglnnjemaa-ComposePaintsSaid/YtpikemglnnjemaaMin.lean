/- Contracts of Paint's comparison, slices.MinFunc and slices.Index over hues. -/
import Derived.Test.YtpikemglnnjemaaNum
namespace Go.Proofs.Ytpikemglnnjemaa
open Go.RowKit

set_option maxHeartbeats 800000 in
theorem cmp_c (pr pg pb ar ag ab br bg bb : Int) (k : Nat) (hp : Hue.ok ⟨pr, pg, pb⟩) (ha : Hue.ok ⟨ar, ag, ab⟩) (hb : Hue.ok ⟨br, bg, bb⟩) (w : World)
    (h0 : w.cell? ⟨k, 0, none⟩ = some (.int .u8 pr)) (h1 : w.cell? ⟨k, 1, none⟩ = some (.int .u8 pg)) (h2 : w.cell? ⟨k, 2, none⟩ = some (.int .u8 pb)) :
    Calls Try.prog 17 #[.agg #[.int .u8 ar, .int .u8 ag, .int .u8 ab], .agg #[.int .u8 br, .int .u8 bg, .int .u8 bb], .pointer (some ⟨k, 0, none⟩)] w fun e w' =>
      e = .returned (.int .i64 (farS ⟨pr, pg, pb⟩ ⟨ar, ag, ab⟩ - farS ⟨pr, pg, pb⟩ ⟨br, bg, bb⟩)) ∧ Ext w w' := by
  have ⟨p1, p2⟩ := farS_bd _ _ hp ha
  have ⟨p3, p4⟩ := farS_bd _ _ hp hb
  obtain ⟨W, hW, E, ba, bb, hz⟩ := boxes2 w #[.int .u8 ar, .int .u8 ag, .int .u8 ab] #[.int .u8 br, .int .u8 bg, .int .u8 bb] 56 56
  have c0 := E.cell h0
  have c1 := E.cell h1
  have c2 := E.cell h2
  go_enter Try.func17, Try.ntmps17
  go_wp2
  refine wp_region_grow (by kernel_rfl) (by kernel_rfl) ?_
  repeat (go_big_quiet_step ((go_at_call 18; exact quiet_ext (far_c _ _ _ _ _ _ (by assumption) (by assumption) _))))
  refine wpQuiet_nil ?_
  intro _ hw'
  obtain ⟨x, hw''⟩ := hw'
  subst hw''
  go_wp2
  go_ret
  exact ⟨rfl, E.grow _⟩
end Go.Proofs.Ytpikemglnnjemaa
