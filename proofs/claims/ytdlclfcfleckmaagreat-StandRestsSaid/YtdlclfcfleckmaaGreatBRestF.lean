/- The closed facts of the row of StandRests, one by one. -/
import Derived.Test.YtdlclfcfleckmaaGreatBOpenR
namespace Go.Proofs.YtdlclfcfleckmaaGreat
open Go.RowKit Go.ChangeShapes Go.WideShapes Go.ChangeAt Go.Deep Go.Joins

theorem band {a b : Bool} (ha : a = true) (hb : b = true) : (a && b) = true := by rw [ha, hb]; rfl
set_option maxHeartbeats 4000000 in
theorem standRests_facts : joinedFacts Tryz.pinned.checked.prog 3 Tryz.f3 Rows.standRestsSpec Rows.standRestsRow = true := by
  unfold joinedFacts
  repeat' with_reducible refine band ?_ ?_
  all_goals (as_aux_lemma => kernel_rfl)
end Go.Proofs.YtdlclfcfleckmaaGreat
