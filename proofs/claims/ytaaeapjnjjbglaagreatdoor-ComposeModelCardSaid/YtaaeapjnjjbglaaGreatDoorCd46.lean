/- math/bits.OnesCount32. -/
import Derived.Test.YtaaeapjnjjbglaaGreatDoorCd1
import Derived.Test.YtaaeapjnjjbglaaGreatDoorCd45
import Derived.BigQuiet
import Derived.KernelRfl

namespace Go.Proofs.YtaaeapjnjjbglaaGreatDoor
open Go.RowKit

theorem and32 (a b : Nat) (ha : a < 4294967296) (hb : b < 4294967296) : bits .and .u32 (a : Int) (b : Int) = ((a &&& b : Nat) : Int) := by
  have hx : a &&& b < 2 ^ 32 := Nat.and_lt_two_pow _ (by omega)
  have h1 : (BitVec.ofInt 32 (a : Int)).toNat = a := by
    rw [BitVec.ofInt_natCast, BitVec.toNat_ofNat]; exact Nat.mod_eq_of_lt (by omega)
  have h2 : (BitVec.ofInt 32 (b : Int)).toNat = b := by
    rw [BitVec.ofInt_natCast, BitVec.toNat_ofNat]; exact Nat.mod_eq_of_lt (by omega)
  show IntKind.u32.wrap ((BitVec.ofInt 32 (a : Int) &&& BitVec.ofInt 32 (b : Int)).toNat : Int) = _
  rw [BitVec.toNat_and, h1, h2, IntKind.wrap_u32]
  omega

def tabA : Array UInt8 := #[0, 1, 1, 2, 1, 2, 2, 3, 1, 2, 2, 3, 2, 3, 3, 4, 1, 2, 2, 3, 2, 3, 3, 4, 2, 3, 3, 4, 3, 4, 4, 5, 1, 2, 2, 3, 2, 3, 3, 4, 2, 3, 3, 4, 3, 4, 4, 5, 2, 3, 3, 4, 3, 4, 4, 5, 3, 4, 4, 5, 4, 5, 5, 6, 1, 2, 2, 3, 2, 3, 3, 4, 2, 3, 3, 4, 3, 4, 4, 5, 2, 3, 3, 4, 3, 4, 4, 5, 3, 4, 4, 5, 4, 5, 5, 6, 2, 3, 3, 4, 3, 4, 4, 5, 3, 4, 4, 5, 4, 5, 5, 6, 3, 4, 4, 5, 4, 5, 5, 6, 4, 5, 5, 6, 5, 6, 6, 7, 1, 2, 2, 3, 2, 3, 3, 4, 2, 3, 3, 4, 3, 4, 4, 5, 2, 3, 3, 4, 3, 4, 4, 5, 3, 4, 4, 5, 4, 5, 5, 6, 2, 3, 3, 4, 3, 4, 4, 5, 3, 4, 4, 5, 4, 5, 5, 6, 3, 4, 4, 5, 4, 5, 5, 6, 4, 5, 5, 6, 5, 6, 6, 7, 2, 3, 3, 4, 3, 4, 4, 5, 3, 4, 4, 5, 4, 5, 5, 6, 3, 4, 4, 5, 4, 5, 5, 6, 4, 5, 5, 6, 5, 6, 6, 7, 3, 4, 4, 5, 4, 5, 5, 6, 4, 5, 5, 6, 5, 6, 6, 7, 4, 5, 5, 6, 5, 6, 6, 7, 5, 6, 6, 7, 6, 7, 7, 8]
theorem tab_all : (List.range 256).all (fun i => (tabA.getD i 0).toNat == pop8 i) = true := by kernel_rfl
theorem tab_size : tabA.size = 256 := by kernel_rfl
theorem tab_at (i : Nat) (h : i < (ByteArray.mk tabA).size) : ((((ByteArray.mk tabA)[i]'h).toNat : Nat) : Int) = (pop8 i : Int) := by
  have hi : i < 256 := by have : (ByteArray.mk tabA).size = 256 := tab_size; omega
  have h1 := List.all_eq_true.1 tab_all i (List.mem_range.2 hi)
  have h2 : tabA.getD i 0 = (ByteArray.mk tabA)[i]'h := by
    have h3 : i < tabA.size := by rw [tab_size]; exact hi
    rw [Array.getD_eq_getD_getElem?, Array.getElem?_eq_getElem h3]
    rfl
  rw [← h2]
  exact congrArg _ (by simpa using h1)

set_option maxRecDepth 100000 in
set_option maxHeartbeats 2000000 in
theorem ones_c (m : Nat) (hm : m < 4294967296) (w : World) :
    Calls Tryz.prog 44 #[.int .u32 m] w fun e w' => e = .returned (.int .i64 (pop m)) ∧ Ext w w' := by
  have Hp := Lib.hid (pop_bytes m)
  have hm0 : (0 : Int) ≤ m := by omega
  have hp8 : ∀ k, pop8 k ≤ 8 := fun k => by
    unfold pop8
    exact Nat.le_trans (List.length_filter_le _ _) (by simp)
  have hlt : ∀ k : Nat, (k &&& 255) < 256 := fun k => Nat.lt_of_le_of_lt Nat.and_le_right (by omega)
  have n24 : m / 16777216 = m >>> 24 &&& 255 := by
    have := Nat.and_two_pow_sub_one_eq_mod (m >>> 24) 8
    rw [show (255 : Nat) = 2 ^ 8 - 1 from rfl, this, Nat.shiftRight_eq_div_pow]
    omega
  have e24 : (m : Int) / 16777216 = ((m >>> 24 &&& 255 : Nat) : Int) := by
    have h1 : m >>> 24 < 256 := by rw [Nat.shiftRight_eq_div_pow]; omega
    have h2 : m >>> 24 &&& 255 = m >>> 24 := by
      have := Nat.and_two_pow_sub_one_eq_mod (m >>> 24) 8
      rw [show (255 : Nat) = 2 ^ 8 - 1 from rfl, this]
      omega
    rw [h2, Nat.shiftRight_eq_div_pow]
    omega
  have a16 : bits .and .u32 ((m : Int) / 65536) 255 = ((m >>> 16 &&& 255 : Nat) : Int) := by
    rw [← and32 (m >>> 16) 255 (by rw [Nat.shiftRight_eq_div_pow]; omega) (by omega), Nat.shiftRight_eq_div_pow]
    rfl
  have a8 : bits .and .u32 ((m : Int) / 256) 255 = ((m >>> 8 &&& 255 : Nat) : Int) := by
    rw [← and32 (m >>> 8) 255 (by rw [Nat.shiftRight_eq_div_pow]; omega) (by omega), Nat.shiftRight_eq_div_pow]
    rfl
  have a0 : bits .and .u32 (m : Int) 255 = ((m &&& 255 : Nat) : Int) := by
    rw [← and32 m 255 hm (by omega)]
    rfl
  have l1 := hlt (m >>> 24)
  have l2 := hlt (m >>> 16)
  have l3 := hlt (m >>> 8)
  have l4 := hlt m
  have p1 := hp8 (m >>> 24 &&& 255)
  have p2 := hp8 (m >>> 16 &&& 255)
  have p3 := hp8 (m >>> 8 &&& 255)
  have p4 := hp8 (m &&& 255)
  generalize m >>> 24 &&& 255 = q1 at *
  generalize m >>> 16 &&& 255 = q2 at *
  generalize m >>> 8 &&& 255 = q3 at *
  generalize m &&& 255 = q4 at *
  clear hlt hp8
  go_enter Tryz.func44, Tryz.ntmps44
  go_wp2_with fail
  refine wp_region_grow (by kernel_rfl) (by kernel_rfl) ?_
  repeat (go_big_quiet_step ((rw [dif_pos (by omega)]; exact ⟨rfl, congrArg (Value.int .u8) (tab_at _ _)⟩)))
  refine wpQuiet_nil ?_
  intro W2 hW2
  have E2 : Ext w W2 := by
    obtain ⟨x, rfl⟩ := hW2
    exact (Ext.refl _).grow x
  clear hW2
  go_wp2_with fail
  go_ret
  exact ⟨by rw [Hp.out]; simp only [n24]; go_num, E2⟩
end Go.Proofs.YtaaeapjnjjbglaaGreatDoor
