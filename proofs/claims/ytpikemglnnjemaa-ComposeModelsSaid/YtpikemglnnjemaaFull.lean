/- Shapes; how many cells are full. -/
import Derived.Test.YtpikemglnnjemaaFrom
import Derived.Test.YtpikemglnnjemaaSlice
import Derived.Test.YtpikemglnnjemaaBlk
namespace Go.Proofs.Ytpikemglnnjemaa
open Go.RowKit

/-- A block made: the new world under one name. -/
theorem box_ (w : World) (ca : Array Value) (ta : TypeId) : ∃ W, w.alloc (.cells ca ta) = W ∧ Ext w W ∧ Blk W w.heap.size ta ca ∧ W.heap.size = w.heap.size + 1 :=
  ⟨_, rfl, (Ext.refl w).alloc _, Blk.new _ _ _, by simp⟩

structure Shape where
  W : Int
  D : Int
  H : Int
  cells : List Int
/-- The slice reads as bytes. -/
def Bytes (w : World) (A : Option Addr) (cap : Nat) (cs : List Int) : Prop := SliceIs w A cs.length cap 1 (cs.map fun c => [.int .u8 c]) ∧ ∀ c ∈ cs, byteOk c
theorem Bytes.ext {w w' : World} {A : Option Addr} {cap : Nat} {cs : List Int} (h : Bytes w A cap cs) (e : Ext w w') : Bytes w' A cap cs := ⟨h.1.ext e, h.2⟩
theorem Bytes.len {w : World} {A : Option Addr} {cap : Nat} {cs : List Int} (h : Bytes w A cap cs) : cs.length ≤ maxLen := Nat.le_trans h.1.le h.1.small
/-- One byte of it. -/
theorem Bytes.at_ {w : World} {A : Option Addr} {cap : Nat} {cs : List Int} (h : Bytes w A cap cs) {k : Nat} (hk : k < cs.length) :
    ∃ b off c, A = some ⟨b, off, none⟩ ∧ cs[k]? = some c ∧ byteOk c ∧ b < w.heap.size ∧ w.cell? ⟨b, off + k, none⟩ = some (.int .u8 c) := by
  obtain ⟨b, off, rfl, hb, hc⟩ := h.1.cells (by omega)
  have hn : cs[k]? = some cs[k] := List.getElem?_eq_getElem hk
  have hc0 := hc k [.int .u8 cs[k]] (by rw [List.getElem?_map, hn]; rfl) 0 _ rfl
  simp only [Nat.mul_one, Nat.add_zero] at hc0
  exact ⟨b, off, _, rfl, hn, h.2 _ (List.mem_of_getElem? hn), hb, hc0⟩

/-- How many are full. -/
def fullN (cs : List Int) : Nat := cs.countP (fun c => decide (c ≠ 0))
theorem fullN_le (cs : List Int) : fullN cs ≤ cs.length := List.countP_le_length
theorem fullN_succ {cs : List Int} {k : Nat} {c : Int} (h : cs[k]? = some c) : fullN (cs.take (k + 1)) = fullN (cs.take k) + if c = 0 then 0 else 1 := by
  rw [List.take_add_one, h]
  unfold fullN
  rw [Option.toList_some, List.countP_append]
  by_cases hc : c = 0 <;> simp [hc]

set_option maxHeartbeats 800000 in
theorem full_c (A : Option Addr) (cap : Nat) (wd d h : Int) (cs : List Int) (w : World) (hs : Bytes w A cap cs) :
    Calls Try.prog 61 #[.agg #[.int .i64 wd, .int .i64 d, .int .i64 h, .slice A cs.length cap]] w fun e w' => e = .returned (.int .i64 (fullN cs)) ∧ Ext w w' := by
  have hl := hs.len
  unfold maxLen at hl
  obtain ⟨W, hW, E, B, hz⟩ := box_ w #[.int .i64 wd, .int .i64 d, .int .i64 h, .slice A cs.length cap] 25
  have bc := B.cell
  have hb := B.lt
  have hs2 := hs.ext E
  go_enter Try.func61, Try.ntmps61
  go_wp2
  go_loop [3, 9] (fun n i => ∃ k : Nat, k ≤ cs.length ∧ i = .int .i64 k ∧ n = .int .i64 (fullN (cs.take k))) (fun _ i => cs.length - (intOf i).toNat)
  case atStart => exact ⟨0, by omega, rfl, rfl⟩
  case round =>
    obtain ⟨k, hk, rfl, rfl⟩ := hrel
    by_cases hlt : k < cs.length
    · obtain ⟨b, off, c, rfl, hc, hok, hbl, hcell⟩ := hs2.at_ hlt
      have hf := fullN_succ hc
      have hle := fullN_le (cs.take k)
      rw [List.length_take, Nat.min_eq_left (by omega)] at hle
      by_cases h0 : c = 0
      · have Hf := Lib.hid hf
        clear hf
        subst h0
        go_wp2
        go_round
        case rel => exact ⟨k + 1, by omega, by go_num, by rw [Hf.out]; rfl⟩
        case measure => simp only [intOf]; omega
      · rw [if_neg h0] at hf
        have Hf := Lib.hid hf
        clear hf
        go_wp2
        go_round
        case rel => exact ⟨k + 1, by omega, by go_num, by rw [Hf.out]; go_num⟩
        case measure => simp only [intOf]; omega
    · obtain rfl : k = cs.length := by omega
      go_wp2
      go_ret
      exact ⟨by simp, E⟩
end Go.Proofs.Ytpikemglnnjemaa
