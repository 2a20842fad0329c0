/- The set of the cells of a block. -/
import Derived.Test.YtpikemglnnjemaaBoard
namespace Go.Proofs.Ytpikemglnnjemaa
open Go.RowKit

def cellStep (s : Shape) (color z v u : Int) (m : Nat) : Option Nat :=
  if s.num u v z < 0 ∨ s.cells.getD (s.idx u v z).toNat 0 ≠ color then none else some (m ||| 2 ^ (s.num u v z).toNat)
def rowStep (s : Shape) (color z x : Int) (w : Nat) (v : Int) (m : Nat) : Option Nat := runs (fun j m => cellStep s color z v (x + j) m) w m
/-- The set of the cells of a block, if all have a colour. -/
def blockS (s : Shape) (x y z : Int) (w d : Nat) (color : Int) : Option Nat := runs (fun i m => rowStep s color z x w (y + i) m) d 0
def blockV : Option Nat → Value
  | some m => .tuple #[.int .u32 (m : Int), .bool true]
  | none => .tuple #[.int .u32 0, .bool false]

theorem num_lt {s : Shape} (ok : s.Ok) (x y z : Int) : s.num x y z < 16 := by
  unfold Shape.num
  split
  · rename_i h
    have h1 := s.idx_in ok h
    have h2 := numOf_hi (cs := s.cells) (i := (s.idx x y z).toNat) (by omega)
    have := ok.full
    omega
  · omega
theorem num_in {s : Shape} {x y z : Int} (h : ¬ s.num x y z < 0) : s.inside x y z = true := by
  cases hi : s.inside x y z
  · rw [Shape.num, hi] at h
    simp at h
  · rfl
theorem or_lt {m n : Nat} (h : m < 65536) (hn : n < 16) : m ||| 2 ^ n < 65536 := by
  have h2 : 2 ^ n < 2 ^ 16 := Nat.pow_lt_pow_right (by omega) hn
  have := Nat.or_lt_two_pow (x := m) (y := 2 ^ n) (n := 16) (by omega) h2
  omega
theorem or_bit {k n : Nat} (hk : k < 65536) (hn : n < 16) : bits .or .u32 (k : Int) ((2 : Int) ^ n % 4294967296) = ((k ||| 2 ^ n : Nat) : Int) := by
  have h2 : 2 ^ n < 2 ^ 16 := Nat.pow_lt_pow_right (by omega) hn
  have e : (2 : Int) ^ n % 4294967296 = ((2 ^ n : Nat) : Int) := by
    rw [Int.emod_eq_of_lt]
    · exact (Int.natCast_pow 2 n).symm
    · exact Int.pow_nonneg (by omega)
    · have : ((2 ^ n : Nat) : Int) < 4294967296 := by omega
      rwa [Int.natCast_pow] at this
  rw [e]
  exact u32_or_nat k (2 ^ n) (by omega) (by omega)

set_option maxRecDepth 100000 in
set_option maxHeartbeats 4000000 in
theorem block_c (x y z : Int) (wd dd : Nat) (color : Int) (g : Nat) (s : Shape) (A : Option Addr) (cap : Nat) (NA : Option Addr) (ncap : Nat) (ok : s.Ok) (hx : 0 ≤ x ∧ x ≤ 8) (hy : 0 ≤ y ∧ y ≤ 8) (hwd : wd ≤ 8) (hdd : dd ≤ 8)
    (w : World) (h : Base w g s A cap NA ncap) :
    Calls Try.prog 62 #[.pointer (some ⟨g, 0, none⟩), .int .i64 x, .int .i64 y, .int .i64 z, .int .i64 wd, .int .i64 dd, .int .u8 color] w fun e w' => e = .returned (blockV (blockS s x y z wd dd color)) ∧ Ext w w' := by
  obtain ⟨x1, x2⟩ := hx
  obtain ⟨y1, y2⟩ := hy
  go_enter Try.func62, Try.ntmps62
  go_wp2_with fail
  go_loopw [16, 17] (fun st v wr => ∃ i m : Nat, i ≤ dd ∧ v = .int .i64 (y + (i : Int)) ∧ st = .int .u32 (m : Int) ∧ runs (fun i m => rowStep s color z x wd (y + i) m) i 0 = some m ∧ m < 65536 ∧ Ext w wr) (fun _ v _ => (y + (dd : Int) - intOf v).toNat)
  case atStart => exact ⟨0, 0, by omega, by simp, rfl, rfl, by omega, Ext.refl _⟩
  case round =>
    obtain ⟨i, m, hi, rfl, rfl, hrun, hm, E⟩ := hrel
    have Hrun := Lib.hid hrun
    clear hrun
    by_cases hlt : i < dd
    · obtain ⟨wo, rfl⟩ : ∃ wo : World, wo = wr := ⟨_, rfl⟩
      go_wp2_with fail
      go_loopw [16, 18] (fun st u wr => ∃ j k : Nat, j ≤ wd ∧ u = .int .i64 (x + (j : Int)) ∧ st = .int .u32 (k : Int) ∧ runs (fun j m => cellStep s color z (y + i) (x + j) m) j m = some k ∧ k < 65536 ∧ Ext w wr) (fun _ u _ => (x + (wd : Int) - intOf u).toNat)
      case atStart => exact ⟨0, m, by omega, by simp, rfl, rfl, by omega, E⟩
      case round =>
        obtain ⟨j, k, hj, rfl, rfl, hrun2, hk, E2⟩ := hrel
        have Hrun2 := Lib.hid hrun2
        clear hrun2
        by_cases hlt2 : j < wd
        · have base := h.ext E2
          go_wp2_with fail
          refine (at_c (x + j) (y + i) z g s A cap NA ncap ok _ base).mono ?_
          rintro e w1 ⟨rfl, E3⟩
          have base := base.ext E3
          have hstep : cellStep s color z (y + i) (x + j) k = if s.num (x + j) (y + i) z < 0 ∨ s.cells.getD (s.idx (x + j) (y + i) z).toNat 0 ≠ color then none else some (k ||| 2 ^ (s.num (x + j) (y + i) z).toNat) := rfl
          have Hstep := Lib.hid hstep
          clear hstep
          have bad : cellStep s color z (y + i) (x + j) k = none → blockV (blockS s x y z wd dd color) = .tuple #[.int .u32 0, .bool false] := fun hf => by
            have h1 : rowStep s color z x wd (y + i) m = none := runs_fail Hrun2.out hf hlt2
            have h2 : blockS s x y z wd dd color = none := runs_fail Hrun.out h1 hlt
            rw [h2]
            rfl
          have Bad := Lib.hid bad
          clear bad
          have Fin := E2.trans E3
          by_cases hn : s.num (x + j) (y + i) z < 0
          · have hd : decide (s.num (x + j) (y + i) z < 0) = true := by simpa using hn
            go_wp2_with fail
            refine wp_region_grow (by kernel_rfl) (by kernel_rfl) ?_
            repeat (go_big_quiet_step (fail))
            refine wpQuiet_nil ?_
            intro W3 hW3
            have E4 : Ext w1 W3 := by
              obtain ⟨x, rfl⟩ := hW3
              exact (Ext.refl _).grow x
            clear hW3
            obtain ⟨hcW3, hfW3, hzW3⟩ := ext_facts E4
            go_wp2_with fail
            go_ret2
            exact ⟨by rw [Bad.out (by rw [Hstep.out, if_pos (Or.inl hn)])]; rfl, Fin.trans E4⟩
          · have hd : decide (s.num (x + j) (y + i) z < 0) = false := by simpa using hn
            have hin := num_in hn
            obtain ⟨i1, i2, i3, i4, i5, i6, i7⟩ := s.idx_in ok hin
            have hlo := num_lt ok (x + j) (y + i) z
            obtain ⟨b, off, c, rfl, hc, hok, hbl, hcell⟩ := base.bytes.at_ (k := (s.idx (x + j) (y + i) z).toNat) (by omega)
            have hcc : s.cells.getD (s.idx (x + j) (y + i) z).toNat 0 = c := by simp [hc]
            have Hc := Lib.hid hcc
            clear hcc hc
            obtain ⟨c0, c1, c2, c3, c5, -, -⟩ := base
            have ei : (z * s.D + (y + i)) * s.W + (x + j) = s.idx (x + j) (y + i) z := rfl
            have w1' := ok.w
            have d1' := ok.d
            obtain ⟨n, hnn⟩ := Int.eq_ofNat_of_zero_le (a := s.num (x + j) (y + i) z) (by omega)
            have hn16 : n < 16 := by omega
            have hz : z * s.D ≤ 32 := i4
            by_cases hcol : c = color
            · have hcol' : (c == color) = true := by simpa using hcol
              have hcol2 : (c != color) = false := by simpa using hcol
              have hgood : cellStep s color z (y + i) (x + j) k = some (k ||| 2 ^ n) := by
                rw [Hstep.out, if_neg (by rw [Hc.out]; exact fun h => h.elim hn (fun h => h hcol)), hnn]
                rfl
              have Hgood := Lib.hid hgood
              clear hgood
              have hor := or_lt hk hn16
              rw [hnn]
              rw [hnn] at hd hn
              clear hnn
              go_wp2_with fail
              refine wp_region_grow (by kernel_rfl) (by kernel_rfl) ?_
              repeat (go_big_quiet_step (fail))
              refine wpQuiet_nil ?_
              intro W3 hW3
              have E4 : Ext w1 W3 := by
                obtain ⟨x, rfl⟩ := hW3
                exact (Ext.refl _).grow x
              clear hW3
              obtain ⟨hcW3, hfW3, hzW3⟩ := ext_facts E4
              go_wp2_with fail
              go_roundw
              case rel => exact ⟨j + 1, k ||| 2 ^ n, by omega, by go_num, by rw [or_bit hk hn16], by rw [runs_succ Hrun2.out]; exact Hgood.out, hor, Fin.trans E4⟩
              case measure => simp only [intOf]; omega
            · have hcol2 : (c != color) = true := by simpa using hcol
              rw [hnn]
              rw [hnn] at hd hn
              clear hnn
              go_wp2_with fail
              refine wp_region_grow (by kernel_rfl) (by kernel_rfl) ?_
              repeat (go_big_quiet_step (fail))
              refine wpQuiet_nil ?_
              intro W3 hW3
              have E4 : Ext w1 W3 := by
                obtain ⟨x, rfl⟩ := hW3
                exact (Ext.refl _).grow x
              clear hW3
              obtain ⟨hcW3, hfW3, hzW3⟩ := ext_facts E4
              go_wp2_with fail
              go_ret2
              exact ⟨by rw [Bad.out (by rw [Hstep.out, Hc.out, if_pos (Or.inr hcol)])]; rfl, Fin.trans E4⟩
        · obtain rfl : j = wd := by omega
          go_wp2_with fail
          go_roundw
          case rel => exact ⟨i + 1, k, by omega, by go_num, rfl, by rw [runs_succ Hrun.out]; exact Hrun2.out, hk, E2⟩
          case measure => simp only [intOf]; omega
    · obtain rfl : i = dd := by omega
      have Hb := Lib.hid (show blockS s x y z wd i color = some m from Hrun.out)
      go_wp2_with fail
      go_ret2
      exact ⟨by rw [Hb.out]; rfl, E⟩
theorem block_i (x y z wi di color : Int) (g : Nat) (s : Shape) (A : Option Addr) (cap : Nat) (NA : Option Addr) (ncap : Nat) (ok : s.Ok) (hx : 0 ≤ x ∧ x ≤ 8) (hy : 0 ≤ y ∧ y ≤ 8) (hwd : 0 ≤ wi ∧ wi ≤ 8) (hdd : 0 ≤ di ∧ di ≤ 8)
    (w : World) (h : Base w g s A cap NA ncap) :
    Calls Try.prog 62 #[.pointer (some ⟨g, 0, none⟩), .int .i64 x, .int .i64 y, .int .i64 z, .int .i64 wi, .int .i64 di, .int .u8 color] w fun e w' => e = .returned (blockV (blockS s x y z wi.toNat di.toNat color)) ∧ Ext w w' := by
  obtain ⟨wd, rfl⟩ := Int.eq_ofNat_of_zero_le hwd.1
  obtain ⟨dd, rfl⟩ := Int.eq_ofNat_of_zero_le hdd.1
  exact block_c x y z wd dd color g s A cap NA ncap ok hx hy (by omega) (by omega) w h
end Go.Proofs.Ytpikemglnnjemaa
