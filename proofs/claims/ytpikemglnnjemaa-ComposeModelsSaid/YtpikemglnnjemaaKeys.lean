/- The keys of the maps of layer 7. -/
import Derived.Test.YtpikemglnnjemaaBoard
import Derived.Test.YtpikemglnnjemaaMap
import Derived.ChangeKeysEq
import Derived.Laws.StructEq
namespace Go.Proofs.Ytpikemglnnjemaa
open Go.RowKit

/-- A plate, turned or not. -/
def encSort (x : Int × Bool) : Value := .agg #[.int .i64 x.1, .bool x.2]
theorem sort_eq (w : World) (a c : Int) (b d : Bool) : (Op.equal 119 (.agg #[.int .i64 a, .bool b]) (.agg #[.int .i64 c, .bool d])).run Try.prog w = .ok (decide (a = c) && decide (b = d)) w := by
  have u3 := Try.underlying3
  have u4 := Try.underlying4
  have hS : Try.prog.underlying 119 = some (.struct (Try.prog.fieldsOf 119)) := by kernel_rfl
  have hp : Try.prog.stoodInHeld 119 = false := by kernel_rfl
  rw [Op.equal, Op.maxDepth, show (10000 : Nat) = 9999 + 1 from rfl, run_equalIn_agg w 9999 _ _ _ hS hp]
  simp only [Program.fieldsOf, Try.underlying119]
  go_simp
  by_cases h1 : a = c <;> cases b <;> cases d <;> simp [h1]
theorem sortKey : KeyEnc Try.prog 119 encSort where
  wide := by kernel_rfl
  eq w x y := by
    obtain ⟨a, b⟩ := x
    obtain ⟨c, d⟩ := y
    rw [encSort, encSort, sort_eq]
    simp
  check w em x := by
    obtain ⟨a, b⟩ := x
    show (Instr.checkKey em 10000 119 (.agg #[.int .i64 a, .bool b])).run Try.prog w = .ok () w
    kernel_rfl
  same x := by
    obtain ⟨a, b⟩ := x
    simp [encSort, Instr.sameBits]
/-- A pair of numbers. -/
def encPair (x : Int × Int) : Value := .agg #[.int .i64 x.1, .int .i64 x.2]
theorem pair_eq (w : World) (a b c d : Int) : (Op.equal 112 (.agg #[.int .i64 a, .int .i64 b]) (.agg #[.int .i64 c, .int .i64 d])).run Try.prog w = .ok (decide (a = c) && decide (b = d)) w := by
  have u3 := Try.underlying3
  have hS : Try.prog.underlying 112 = some (.array 2 3) := by kernel_rfl
  have hc : Try.prog.cellsOf 3 = 1 := by kernel_rfl
  obtain ⟨i, hi⟩ : ∃ i, Try.prog.info? 3 = some i := Option.isSome_iff_exists.1 (by kernel_rfl)
  rw [Op.equal, Op.maxDepth, show (10000 : Nat) = 9999 + 1 from rfl, run_equalIn_array w 9999 _ _ hS hi, hc]
  clear hi
  simp only [show List.range 2 = [0, 1] from rfl, Op.eqItems]
  go_simp
  by_cases h1 : a = c <;> by_cases h2 : b = d <;> simp [h1, h2]
theorem pairKey : KeyEnc Try.prog 112 encPair where
  wide := by kernel_rfl
  eq w x y := by
    obtain ⟨a, b⟩ := x
    obtain ⟨c, d⟩ := y
    rw [encPair, encPair, pair_eq]
    simp
  check w em x := by
    obtain ⟨a, b⟩ := x
    show (Instr.checkKey em 10000 112 (.agg #[.int .i64 a, .int .i64 b])).run Try.prog w = .ok () w
    kernel_rfl
  same x := by
    obtain ⟨a, b⟩ := x
    simp [encPair, Instr.sameBits]
end Go.Proofs.Ytpikemglnnjemaa
