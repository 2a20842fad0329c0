/- slices.Index over hues, at a hue that the list has. -/
import Derived.Test.YtpikemglnnjemaaNum
import Derived.Test.YtpikemglnnjemaaSlice
namespace Go.Proofs.Ytpikemglnnjemaa
open Go.RowKit

/-- A slice of hues. -/
def Hues (w : World) (A : Option Addr) (cap : Nat) (hs : List Hue) : Prop := SliceIs w A hs.length cap 3 (hs.map Hue.cells) ∧ ∀ h ∈ hs, h.ok
theorem Hues.ext {w w' : World} {A : Option Addr} {cap : Nat} {hs : List Hue} (h : Hues w A cap hs) (e : Ext w w') : Hues w' A cap hs := ⟨h.1.ext e, h.2⟩
def hueAt (hs : List Hue) (k : Nat) : Hue := hs.getD k ⟨0, 0, 0⟩
theorem Hues.at_ {w : World} {A : Option Addr} {cap : Nat} {hs : List Hue} (h : Hues w A cap hs) {k : Nat} (hk : k < hs.length) :
    ∃ b off, A = some ⟨b, off, none⟩ ∧ b < w.heap.size ∧ (hueAt hs k).ok ∧ w.cell? ⟨b, off + k * 3, none⟩ = some (.int .u8 (hueAt hs k).r) ∧
      w.cell? ⟨b, off + k * 3 + 1, none⟩ = some (.int .u8 (hueAt hs k).g) ∧ w.cell? ⟨b, off + k * 3 + 2, none⟩ = some (.int .u8 (hueAt hs k).b) := by
  obtain ⟨b, off, hA, hb, hc⟩ := h.1.cells (by omega)
  have hget : hs[k]? = some (hueAt hs k) := by simp [hueAt, List.getElem?_eq_getElem hk]
  have hr : (hs.map Hue.cells)[k]? = some (hueAt hs k).cells := by rw [List.getElem?_map, hget]; rfl
  exact ⟨b, off, hA, hb, h.2 _ (List.mem_of_getElem? hget), hc k _ hr 0 _ rfl, hc k _ hr 1 _ rfl, hc k _ hr 2 _ rfl⟩
theorem Hue.eq_of {a b : Hue} (h1 : a.r = b.r) (h2 : a.g = b.g) (h3 : a.b = b.b) : a = b := by cases a; cases b; simp_all

def Hue.eqB (a b : Hue) : Bool := a.r == b.r && (a.g == b.g && a.b == b.b)
theorem Hue.eqB_iff {a b : Hue} : a.eqB b = true ↔ a = b := by
  constructor
  · intro h
    simp [Hue.eqB] at h
    exact Hue.eq_of h.1 h.2.1 h.2.2
  · rintro rfl
    simp [Hue.eqB]
theorem hue_eql (a b c d e f : Int) (w : World) : (binOp .eql 56 (.agg #[.int .u8 a, .int .u8 b, .int .u8 c]) (.agg #[.int .u8 d, .int .u8 e, .int .u8 f])).run Try.prog w = .ok (.bool (Hue.eqB ⟨a, b, c⟩ ⟨d, e, f⟩)) w := by
  unfold Hue.eqB
  by_cases h1 : a = d <;> by_cases h2 : b = e <;> by_cases h3 : c = f <;> simp [go_sem, h1, h2, h3]

set_option maxHeartbeats 800000 in
theorem index_c (A : Option Addr) (cap m : Nat) (hs : List Hue) (r g b : Int) (w : World) (hh : Hues w A cap hs) (hm : m < hs.length) (he : hueAt hs m = ⟨r, g, b⟩) (hne : ∀ j, j < m → hueAt hs j ≠ ⟨r, g, b⟩) :
    Calls Try.prog 19 #[.slice A hs.length cap, .agg #[.int .u8 r, .int .u8 g, .int .u8 b]] w fun e w' =>
      e = .returned (.int .i64 m) ∧ Ext w w' := by
  have hl : hs.length ≤ 9223372036854775807 := by have := hh.1.le; have := hh.1.small; unfold maxLen at this; omega
  obtain ⟨W, hW, E, ba, hz⟩ := boxes1 w #[.int .u8 r, .int .u8 g, .int .u8 b] 56
  have hhW := hh.ext E
  go_enter Try.func19, Try.ntmps19
  go_wp2
  go_loopw [8] (fun i wr => ∃ k : Nat, k ≤ m ∧ i = .int .i64 k ∧ ∃ n, wr = W.drewN n) (fun i _ => m + 1 - (intOf i).toNat)
  case atStart => exact ⟨0, Nat.zero_le _, rfl, 0, rfl⟩
  case round =>
    obtain ⟨k, hk, rfl, n, rfl⟩ := hrel
    obtain ⟨b', off, rfl, hb', _, c0, c1, c2⟩ := hhW.at_ (k := k) (by omega)
    have hkl : k < hs.length := by omega
    by_cases hkm : k = m
    · subst hkm
      rw [he] at c0 c1 c2
      dsimp only at c0 c1 c2
      go_wp2
      go_quiet (fail)
      go_wp2
      go_ret
      exact ⟨rfl, by apply_rules [Ext.drewN, Ext.trans E, Ext.refl]⟩
    · have hq : ∀ w, (binOp .eql 56 (.agg #[.int .u8 r, .int .u8 g, .int .u8 b]) (.agg #[.int .u8 (hueAt hs k).r, .int .u8 (hueAt hs k).g, .int .u8 (hueAt hs k).b])).run Try.prog w = .ok (.bool false) w := fun w => by
        rw [hue_eql]
        have : Hue.eqB ⟨r, g, b⟩ (hueAt hs k) = false := by
          rw [Bool.eq_false_iff]
          intro h
          exact hne k (by omega) (Hue.eqB_iff.1 h).symm
        rw [show (⟨(hueAt hs k).r, (hueAt hs k).g, (hueAt hs k).b⟩ : Hue) = hueAt hs k from rfl, this]
      go_wp2
      go_quiet (fail)
      go_wp2
      go_roundw
      case rel => exact ⟨k + 1, by omega, by go_num, n + nq, rfl⟩
      case measure => simp [intOf]; omega
end Go.Proofs.Ytpikemglnnjemaa
