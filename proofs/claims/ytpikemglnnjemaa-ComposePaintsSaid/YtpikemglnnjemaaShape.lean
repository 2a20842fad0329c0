/- studworkref07.SameShape at equal shapes. -/
import Derived.Test.YtpikemglnnjemaaApp
import Derived.Laws.BytesArg
namespace Go.Proofs.Ytpikemglnnjemaa
open Go.RowKit

theorem own_conv {w : World} {base n : Nat} {v : Value} {xs : List Int} (h : w.ownsRow base 5 1 v n (xs.map (Value.int .u8))) {w' : World} (E : Ext w w') : (convert 23 9 v).run Try.prog w' = .ok (.string (strOfNums xs)) w' := by
  have h' := own_ext h E
  rcases h'.2 with ⟨rfl, rfl⟩ | ⟨g, cap, cur, rfl, _, hh, hnc, _, hcs, htk⟩
  · have hx : xs = [] := by
      have := h.1
      simpa using this
    subst hx
    exact run_convert_bytes_nil w' 23 5 Try.underlying23 Try.underlying5 0 0 _ Try.underlying9
  · have hlen : xs.length = n := by have := h.1; simpa using this
    refine run_convert_bytes_arg w' 23 5 Try.underlying23 Try.underlying5 g 0 n cap xs hlen (fun i hi => ?_) _ Try.underlying9
    have hc := h'.cells (g := g) rfl i (.int .u8 (xs.getD i 0)) (by
      rw [List.getElem?_map, List.getD_eq_getElem?_getD, List.getElem?_eq_getElem (by omega)]
      rfl)
    rw [add_zero_addr] at hc
    simpa using hc

set_option maxHeartbeats 800000 in
theorem same_c (a b c : Int) (A1 A2 : Option Addr) (n c1 c2 b1 b2 : Nat) (xs : List Int) (w : World) (h1 : w.ownsRow b1 5 1 (.slice A1 n c1) n (xs.map (Value.int .u8))) (h2 : w.ownsRow b2 5 1 (.slice A2 n c2) n (xs.map (Value.int .u8))) :
    Calls Try.prog 7 #[.agg #[.int .i64 a, .int .i64 b, .int .i64 c, .slice A1 n c1], .agg #[.int .i64 a, .int .i64 b, .int .i64 c, .slice A2 n c2]] w fun e w' => e = .returned (.bool true) ∧ Ext w w' := by
  obtain ⟨W, hW, E, ba, bb, hz⟩ := boxes2 w #[.int .i64 a, .int .i64 b, .int .i64 c, .slice A1 n c1] #[.int .i64 a, .int .i64 b, .int .i64 c, .slice A2 n c2] 25 25
  have k1 := own_conv h1 E
  have k2 := own_conv h2 E
  go_enter Try.func7, Try.ntmps7
  go_wp2
  go_ret
  exact ⟨rfl, E⟩
end Go.Proofs.Ytpikemglnnjemaa
