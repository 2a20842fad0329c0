/- slices.MinFunc over hues by the distance to a hue. -/
import Derived.Test.YtpikemglnnjemaaMin
import Derived.Test.YtpikemglnnjemaaIdx
import Derived.Test.YtpikemglnnjemaaBlk
namespace Go.Proofs.Ytpikemglnnjemaa
open Go.RowKit

/-- The index of the first nearest one of the first k hues. -/
def bestTo (p : Hue) (hs : List Hue) : Nat → Nat
  | 0 => 0
  | k + 1 => if farS p (hueAt hs k) < farS p (hueAt hs (bestTo p hs k)) then k else bestTo p hs k
theorem bestTo_one (p : Hue) (hs : List Hue) : bestTo p hs 1 = 0 := by
  simp [bestTo]
theorem bestTo_lt (p : Hue) (hs : List Hue) (k : Nat) (hk : 0 < k) : bestTo p hs k < k := by
  induction k with
  | zero => omega
  | succ k ih =>
    unfold bestTo
    split
    · omega
    · rcases Nat.eq_zero_or_pos k with h | h
      · subst h; simp [bestTo]
      · have := ih h; omega

set_option maxHeartbeats 1600000 in
theorem min_c (A : Option Addr) (cap kp : Nat) (hs : List Hue) (pr pg pb : Int) (w : World) (hp : Hue.ok ⟨pr, pg, pb⟩) (hh : Hues w A cap hs) (hn : 0 < hs.length)
    (h0 : w.cell? ⟨kp, 0, none⟩ = some (.int .u8 pr)) (h1 : w.cell? ⟨kp, 1, none⟩ = some (.int .u8 pg)) (h2 : w.cell? ⟨kp, 2, none⟩ = some (.int .u8 pb)) :
    Calls Try.prog 16 #[.slice A hs.length cap, .func (.func 17) #[] #[.pointer (some ⟨kp, 0, none⟩)]] w fun e w' =>
      e = .returned ((hueAt hs (bestTo ⟨pr, pg, pb⟩ hs hs.length)).v) ∧ Ext w w' := by
  have hl : hs.length ≤ 9223372036854775807 := by have := hh.1.le; have := hh.1.small; unfold maxLen at this; omega
  have hn1 : (decide ((hs.length : Int) < 1)) = false := by simp; omega
  obtain ⟨b, off, rfl, hb, hok0, d0, d1, d2⟩ := hh.at_ hn
  simp only [Nat.zero_mul, Nat.add_zero] at d0 d1 d2
  go_enter Try.func16, Try.ntmps16
  go_wp2
  go_loopw [6] (fun i wr => ∃ k : Nat, 1 ≤ k ∧ k ≤ hs.length ∧ i = .int .i64 k ∧ Ext w wr ∧ Blk wr w.heap.size 56 #[.int .u8 0, .int .u8 0, .int .u8 0] ∧
      Blk wr (w.heap.size + 1) 56 #[.int .u8 (hueAt hs (bestTo ⟨pr, pg, pb⟩ hs k)).r, .int .u8 (hueAt hs (bestTo ⟨pr, pg, pb⟩ hs k)).g, .int .u8 (hueAt hs (bestTo ⟨pr, pg, pb⟩ hs k)).b]) (fun i _ => hs.length - (intOf i).toNat)
  case atStart =>
    refine ⟨1, by omega, by omega, rfl, by apply_rules [Ext.refl, Ext.alloc], (Blk.new _ _ _).alloc _, ?_⟩
    rw [bestTo_one]
    have := Blk.new (w.alloc (.cells #[.int .u8 0, .int .u8 0, .int .u8 0] 56)) #[.int .u8 (hueAt hs 0).r, .int .u8 (hueAt hs 0).g, .int .u8 (hueAt hs 0).b] 56
    rwa [World.size_alloc] at this
  case round =>
    obtain ⟨k, hk1, hk, rfl, E, B4, B5⟩ := hrel
    have hbest := bestTo_lt ⟨pr, pg, pb⟩ hs k (by omega)
    obtain ⟨m, hm⟩ : ∃ m, bestTo ⟨pr, pg, pb⟩ hs k = m := ⟨_, rfl⟩
    have Hm := Lib.hid hm
    rw [hm] at B5 hbest
    clear hm
    have cz := B5.cell
    by_cases hlt : k < hs.length
    · obtain ⟨b2, off2, hA2, _, hokk, c0, c1, c2⟩ := hh.at_ hlt
      cases hA2
      have hokm : (hueAt hs m).ok := by
        obtain ⟨_, _, _, _, h, _⟩ := hh.at_ (k := m) (by omega)
        exact h
      have e0 := E.cell c0
      have e1 := E.cell c1
      have e2 := E.cell c2
      have f0 := E.cell h0
      have f1 := E.cell h1
      have f2 := E.cell h2
      clear c0 c1 c2
      go_wp2
      refine wp_region_grow (by kernel_rfl) (by kernel_rfl) ?_
      repeat (go_big_quiet_step ((go_at_call 17; exact quiet_ext (cmp_c pr pg pb (hueAt hs k).r (hueAt hs k).g (hueAt hs k).b (hueAt hs m).r (hueAt hs m).g (hueAt hs m).b kp hp hokk hokm _ (by simp [go_sem, *]) (by simp [go_sem, *]) (by simp [go_sem, *])))))
      refine wpQuiet_nil ?_
      intro W hW
      have EW : Ext wr W := by
        obtain ⟨x, rfl⟩ := hW
        exact (Ext.refl _).grow x
      clear hW
      have B4W := B4.ext EW
      have B5W := B5.ext EW
      have g0 := EW.cell e0
      have g1 := EW.cell e1
      have g2 := EW.cell e2
      have cW := B5W.cell
      have fW := B5W.frozen
      clear cz e0 e1 e2 f0 f1 f2
      go_wp2
      · go_roundw
        case rel =>
          have hc : farS ⟨pr, pg, pb⟩ (hueAt hs k) - farS ⟨pr, pg, pb⟩ (hueAt hs m) < 0 := by assumption
          have hb1 : bestTo ⟨pr, pg, pb⟩ hs (k + 1) = k := by
            show (if farS ⟨pr, pg, pb⟩ (hueAt hs k) < farS ⟨pr, pg, pb⟩ (hueAt hs (bestTo ⟨pr, pg, pb⟩ hs k)) then k else bestTo ⟨pr, pg, pb⟩ hs k) = k
            rw [Hm.out, if_pos (by omega)]
          refine ⟨k + 1, by omega, by omega, by go_num, (((E.trans EW).setCell (Nat.le_succ _) _).setCell (Nat.le_succ _) _).setCell (Nat.le_succ _) _,
            ((B4W.far (by simp) _).far (by simp) _).far (by simp) _, ?_⟩
          rw [hb1]
          have := ((B5W.set_ 0 (.int .u8 (hueAt hs k).r)).set_ 1 (.int .u8 (hueAt hs k).g)).set_ 2 (.int .u8 (hueAt hs k).b)
          simpa using this
        case measure => simp [intOf]; omega
      · go_roundw
        case rel =>
          have hc : 0 ≤ farS ⟨pr, pg, pb⟩ (hueAt hs k) - farS ⟨pr, pg, pb⟩ (hueAt hs m) := by assumption
          have hb1 : bestTo ⟨pr, pg, pb⟩ hs (k + 1) = m := by
            show (if farS ⟨pr, pg, pb⟩ (hueAt hs k) < farS ⟨pr, pg, pb⟩ (hueAt hs (bestTo ⟨pr, pg, pb⟩ hs k)) then k else bestTo ⟨pr, pg, pb⟩ hs k) = m
            rw [Hm.out, if_neg (by omega)]
          refine ⟨k + 1, by omega, by omega, by go_num, E.trans EW, B4W, ?_⟩
          rw [hb1]
          exact B5W
        case measure => simp [intOf]; omega
    · obtain rfl : hs.length = k := by omega
      have cr := B4.cell
      have fr := B4.frozen
      go_wp2
      refine bodyPost_ret (v := (hueAt hs m).v) ?_ rfl ?_
      · simp [results, Try.results16, go_sem, Hue.v, cr]
      · refine ⟨by rw [Hm.out], ((E.setCell (Nat.le_refl _) _).setCell (Nat.le_refl _) _).setCell (Nat.le_refl _) _⟩
end Go.Proofs.Ytpikemglnnjemaa
