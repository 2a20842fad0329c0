/- The given statement ComposePaintedCardSaid: for every input the law returns true, and each argument reads behind the call as it did; the listed table is tied to the program's text. No other conditions. -/
import Derived.Test.YtpikemglnnjemaaDoorCm14
import Derived.Handy
import Derived.SevenTiedAt

namespace Go.Proofs.YtpikemglnnjemaaDoor
open Go.RowKit

/-- The square of a difference. -/
def sqd (x y : Int) : Int := (x - y) * (x - y)
theorem sqd_bd (x y : Int) (hx : 0 ≤ x) (hx' : x ≤ 255) (hy : 0 ≤ y) (hy' : y ≤ 255) : 0 ≤ sqd x y ∧ sqd x y ≤ 65025 := by
  unfold sqd
  have h1 : (x - y).natAbs ≤ 255 := by omega
  have h2 : (x - y).natAbs * (x - y).natAbs ≤ 255 * 255 := Nat.mul_le_mul h1 h1
  have h3 : (((x - y).natAbs * (x - y).natAbs : Nat) : Int) = (x - y) * (x - y) := by
    rw [Int.natCast_mul, Int.natAbs_mul_self']
  omega
theorem sqd_wrap (x y : Int) (hx : 0 ≤ x) (hx' : x ≤ 255) (hy : 0 ≤ y) (hy' : y ≤ 255) : wrap64 ((x - y) * (x - y)) = sqd x y := by
  have := sqd_bd x y hx hx' hy hy'
  exact IntWalk.wrap64_in _ (by unfold sqd at this; omega)

set_option maxHeartbeats 400000 in
theorem sq_c (x y : Int) (w : World) (hx : 0 ≤ x) (hx' : x ≤ 255) (hy : 0 ≤ y) (hy' : y ≤ 255) :
    Calls Tryd.prog 104 #[.int .u8 x, .int .u8 y] w fun e w' => e = .returned (.int .i64 (sqd x y)) ∧ w = w' := by
  go_enter Tryd.func104, Tryd.ntmps104
  go_wp2
  go_ret
  exact ⟨ret_int (sqd_wrap x y hx hx' hy hy'), rfl⟩

/-- A hue. -/
structure Hue where
  r : Int
  g : Int
  b : Int
def Hue.cells (h : Hue) : List Value := [.int .u8 h.r, .int .u8 h.g, .int .u8 h.b]
def Hue.v (h : Hue) : Value := .agg #[.int .u8 h.r, .int .u8 h.g, .int .u8 h.b]
def Hue.ok (h : Hue) : Prop := byteOk h.r ∧ byteOk h.g ∧ byteOk h.b
def farS (a b : Hue) : Int := sqd a.r b.r + sqd a.g b.g + sqd a.b b.b
theorem farS_bd (a b : Hue) (ha : a.ok) (hb : b.ok) : 0 ≤ farS a b ∧ farS a b ≤ 195075 := by
  obtain ⟨⟨a1, a2⟩, ⟨a3, a4⟩, a5, a6⟩ := ha
  obtain ⟨⟨b1, b2⟩, ⟨b3, b4⟩, b5, b6⟩ := hb
  have h1 := sqd_bd a.r b.r a1 a2 b1 b2
  have h2 := sqd_bd a.g b.g a3 a4 b3 b4
  have h3 := sqd_bd a.b b.b a5 a6 b5 b6
  unfold farS
  omega

set_option maxHeartbeats 800000 in
theorem far_c (ar ag ab br bg bb : Int) (ha : Hue.ok ⟨ar, ag, ab⟩) (hb : Hue.ok ⟨br, bg, bb⟩) (w : World) :
    Calls Tryd.prog 75 #[.agg #[.int .u8 ar, .int .u8 ag, .int .u8 ab], .agg #[.int .u8 br, .int .u8 bg, .int .u8 bb]] w fun e w' => e = .returned (.int .i64 (farS ⟨ar, ag, ab⟩ ⟨br, bg, bb⟩)) ∧ Ext w w' := by
  obtain ⟨⟨a1, a2⟩, ⟨a3, a4⟩, a5, a6⟩ := ha
  obtain ⟨⟨b1, b2⟩, ⟨b3, b4⟩, b5, b6⟩ := hb
  dsimp only at *
  have ⟨p1, p2⟩ := sqd_bd ar br a1 a2 b1 b2
  have ⟨p3, p4⟩ := sqd_bd ag bg a3 a4 b3 b4
  have ⟨p5, p6⟩ := sqd_bd ab bb a5 a6 b5 b6
  go_enter Tryd.func75, Tryd.ntmps75
  go_wp2
  go_quiet ((go_at_call 104; exact quiet_left (sq_c _ _ _ (by assumption) (by assumption) (by assumption) (by assumption))))
  go_wp2
  go_ret
  exact ⟨rfl, by apply_rules [Ext.refl, Ext.alloc, Ext.drewN]⟩

end Go.Proofs.YtpikemglnnjemaaDoor

namespace Go.Proofs.YtpikemglnnjemaaDoor
open Go.RowKit

set_option maxHeartbeats 800000 in
theorem cmp_c (pr pg pb ar ag ab br bg bb : Int) (k : Nat) (hp : Hue.ok ⟨pr, pg, pb⟩) (ha : Hue.ok ⟨ar, ag, ab⟩) (hb : Hue.ok ⟨br, bg, bb⟩) (w : World)
    (h0 : w.cell? ⟨k, 0, none⟩ = some (.int .u8 pr)) (h1 : w.cell? ⟨k, 1, none⟩ = some (.int .u8 pg)) (h2 : w.cell? ⟨k, 2, none⟩ = some (.int .u8 pb)) :
    Calls Tryd.prog 74 #[.agg #[.int .u8 ar, .int .u8 ag, .int .u8 ab], .agg #[.int .u8 br, .int .u8 bg, .int .u8 bb], .pointer (some ⟨k, 0, none⟩)] w fun e w' =>
      e = .returned (.int .i64 (farS ⟨pr, pg, pb⟩ ⟨ar, ag, ab⟩ - farS ⟨pr, pg, pb⟩ ⟨br, bg, bb⟩)) ∧ Ext w w' := by
  have ⟨p1, p2⟩ := farS_bd _ _ hp ha
  have ⟨p3, p4⟩ := farS_bd _ _ hp hb
  obtain ⟨W, hW, E, ba, bb, hz⟩ := boxes2 w #[.int .u8 ar, .int .u8 ag, .int .u8 ab] #[.int .u8 br, .int .u8 bg, .int .u8 bb] 61 61
  have c0 := E.cell h0
  have c1 := E.cell h1
  have c2 := E.cell h2
  go_enter Tryd.func74, Tryd.ntmps74
  go_wp2
  refine wp_region_grow (by kernel_rfl) (by kernel_rfl) ?_
  repeat (go_big_quiet_step ((go_at_call 75; exact quiet_ext (far_c _ _ _ _ _ _ (by assumption) (by assumption) _))))
  refine wpQuiet_nil ?_
  intro _ hw'
  obtain ⟨x, hw''⟩ := hw'
  subst hw''
  go_wp2
  go_ret
  exact ⟨rfl, E.grow _⟩
end Go.Proofs.YtpikemglnnjemaaDoor

namespace Go.Proofs.YtpikemglnnjemaaDoor
open Go.RowKit

/-- A slice of hues. -/
def Hues (w : World) (A : Option Addr) (cap : Nat) (hs : List Hue) : Prop := SliceIs w A hs.length cap 3 (hs.map Hue.cells) ∧ ∀ h ∈ hs, h.ok
theorem Hues.ext {w w' : World} {A : Option Addr} {cap : Nat} {hs : List Hue} (h : Hues w A cap hs) (e : Ext w w') : Hues w' A cap hs := ⟨h.1.ext e, h.2⟩
def hueAt (hs : List Hue) (k : Nat) : Hue := hs.getD k ⟨0, 0, 0⟩
theorem Hues.at_ {w : World} {A : Option Addr} {cap : Nat} {hs : List Hue} (h : Hues w A cap hs) {k : Nat} (hk : k < hs.length) :
    ∃ b off, A = some ⟨b, off, none⟩ ∧ b < w.heap.size ∧ (hueAt hs k).ok ∧ w.cell? ⟨b, off + k * 3, none⟩ = some (.int .u8 (hueAt hs k).r) ∧
      w.cell? ⟨b, off + k * 3 + 1, none⟩ = some (.int .u8 (hueAt hs k).g) ∧ w.cell? ⟨b, off + k * 3 + 2, none⟩ = some (.int .u8 (hueAt hs k).b) := by
  obtain ⟨b, off, hA, hb, hc⟩ := h.1.cells (by omega)
  have hget : hs[k]? = some (hueAt hs k) := by simp [hueAt, List.getElem?_eq_getElem hk]
  have hr : (hs.map Hue.cells)[k]? = some (hueAt hs k).cells := by rw [List.getElem?_map, hget]; rfl
  exact ⟨b, off, hA, hb, h.2 _ (List.mem_of_getElem? hget), hc k _ hr 0 _ rfl, hc k _ hr 1 _ rfl, hc k _ hr 2 _ rfl⟩
theorem Hue.eq_of {a b : Hue} (h1 : a.r = b.r) (h2 : a.g = b.g) (h3 : a.b = b.b) : a = b := by cases a; cases b; simp_all

def Hue.eqB (a b : Hue) : Bool := a.r == b.r && (a.g == b.g && a.b == b.b)
theorem Hue.eqB_iff {a b : Hue} : a.eqB b = true ↔ a = b := by
  constructor
  · intro h
    simp [Hue.eqB] at h
    exact Hue.eq_of h.1 h.2.1 h.2.2
  · rintro rfl
    simp [Hue.eqB]
theorem hue_eql (a b c d e f : Int) (w : World) : (binOp .eql 61 (.agg #[.int .u8 a, .int .u8 b, .int .u8 c]) (.agg #[.int .u8 d, .int .u8 e, .int .u8 f])).run Tryd.prog w = .ok (.bool (Hue.eqB ⟨a, b, c⟩ ⟨d, e, f⟩)) w := by
  unfold Hue.eqB
  by_cases h1 : a = d <;> by_cases h2 : b = e <;> by_cases h3 : c = f <;> simp [go_sem, h1, h2, h3]

set_option maxHeartbeats 800000 in
theorem hueIndex_c (A : Option Addr) (cap m : Nat) (hs : List Hue) (r g b : Int) (w : World) (hh : Hues w A cap hs) (hm : m < hs.length) (he : hueAt hs m = ⟨r, g, b⟩) (hne : ∀ j, j < m → hueAt hs j ≠ ⟨r, g, b⟩) :
    Calls Tryd.prog 76 #[.slice A hs.length cap, .agg #[.int .u8 r, .int .u8 g, .int .u8 b]] w fun e w' =>
      e = .returned (.int .i64 m) ∧ Ext w w' := by
  have hl : hs.length ≤ 9223372036854775807 := by have := hh.1.le; have := hh.1.small; unfold maxLen at this; omega
  obtain ⟨W, hW, E, ba, hz⟩ := boxes1 w #[.int .u8 r, .int .u8 g, .int .u8 b] 61
  have hhW := hh.ext E
  go_enter Tryd.func76, Tryd.ntmps76
  go_wp2
  go_loopw [8] (fun i wr => ∃ k : Nat, k ≤ m ∧ i = .int .i64 k ∧ ∃ n, wr = W.drewN n) (fun i _ => m + 1 - (intOf i).toNat)
  case atStart => exact ⟨0, Nat.zero_le _, rfl, 0, rfl⟩
  case round =>
    obtain ⟨k, hk, rfl, n, rfl⟩ := hrel
    obtain ⟨b', off, rfl, hb', _, c0, c1, c2⟩ := hhW.at_ (k := k) (by omega)
    have hkl : k < hs.length := by omega
    by_cases hkm : k = m
    · subst hkm
      rw [he] at c0 c1 c2
      dsimp only at c0 c1 c2
      go_wp2
      go_quiet (fail)
      go_wp2
      go_ret
      exact ⟨rfl, by apply_rules [Ext.drewN, Ext.trans E, Ext.refl]⟩
    · have hq : ∀ w, (binOp .eql 61 (.agg #[.int .u8 r, .int .u8 g, .int .u8 b]) (.agg #[.int .u8 (hueAt hs k).r, .int .u8 (hueAt hs k).g, .int .u8 (hueAt hs k).b])).run Tryd.prog w = .ok (.bool false) w := fun w => by
        rw [hue_eql]
        have : Hue.eqB ⟨r, g, b⟩ (hueAt hs k) = false := by
          rw [Bool.eq_false_iff]
          intro h
          exact hne k (by omega) (Hue.eqB_iff.1 h).symm
        rw [show (⟨(hueAt hs k).r, (hueAt hs k).g, (hueAt hs k).b⟩ : Hue) = hueAt hs k from rfl, this]
      go_wp2
      go_quiet (fail)
      go_wp2
      go_roundw
      case rel => exact ⟨k + 1, by omega, by go_num, n + nq, rfl⟩
      case measure => simp [intOf]; omega
end Go.Proofs.YtpikemglnnjemaaDoor

namespace Go.Proofs.YtpikemglnnjemaaDoor
open Go.RowKit

/-- The index of the first nearest one of the first k hues. -/
def bestTo (p : Hue) (hs : List Hue) : Nat → Nat
  | 0 => 0
  | k + 1 => if farS p (hueAt hs k) < farS p (hueAt hs (bestTo p hs k)) then k else bestTo p hs k
theorem bestTo_one (p : Hue) (hs : List Hue) : bestTo p hs 1 = 0 := by
  simp [bestTo]
theorem bestTo_lt (p : Hue) (hs : List Hue) (k : Nat) (hk : 0 < k) : bestTo p hs k < k := by
  induction k with
  | zero => omega
  | succ k ih =>
    unfold bestTo
    split
    · omega
    · rcases Nat.eq_zero_or_pos k with h | h
      · subst h; simp [bestTo]
      · have := ih h; omega

set_option maxHeartbeats 1600000 in
theorem min_c (A : Option Addr) (cap kp : Nat) (hs : List Hue) (pr pg pb : Int) (w : World) (hp : Hue.ok ⟨pr, pg, pb⟩) (hh : Hues w A cap hs) (hn : 0 < hs.length)
    (h0 : w.cell? ⟨kp, 0, none⟩ = some (.int .u8 pr)) (h1 : w.cell? ⟨kp, 1, none⟩ = some (.int .u8 pg)) (h2 : w.cell? ⟨kp, 2, none⟩ = some (.int .u8 pb)) :
    Calls Tryd.prog 73 #[.slice A hs.length cap, .func (.func 74) #[] #[.pointer (some ⟨kp, 0, none⟩)]] w fun e w' =>
      e = .returned ((hueAt hs (bestTo ⟨pr, pg, pb⟩ hs hs.length)).v) ∧ Ext w w' := by
  have hl : hs.length ≤ 9223372036854775807 := by have := hh.1.le; have := hh.1.small; unfold maxLen at this; omega
  have hn1 : (decide ((hs.length : Int) < 1)) = false := by simp; omega
  obtain ⟨b, off, rfl, hb, hok0, d0, d1, d2⟩ := hh.at_ hn
  simp only [Nat.zero_mul, Nat.add_zero] at d0 d1 d2
  go_enter Tryd.func73, Tryd.ntmps73
  go_wp2
  go_loopw [6] (fun i wr => ∃ k : Nat, 1 ≤ k ∧ k ≤ hs.length ∧ i = .int .i64 k ∧ Ext w wr ∧ Blk wr w.heap.size 61 #[.int .u8 0, .int .u8 0, .int .u8 0] ∧
      Blk wr (w.heap.size + 1) 61 #[.int .u8 (hueAt hs (bestTo ⟨pr, pg, pb⟩ hs k)).r, .int .u8 (hueAt hs (bestTo ⟨pr, pg, pb⟩ hs k)).g, .int .u8 (hueAt hs (bestTo ⟨pr, pg, pb⟩ hs k)).b]) (fun i _ => hs.length - (intOf i).toNat)
  case atStart =>
    refine ⟨1, by omega, by omega, rfl, by apply_rules [Ext.refl, Ext.alloc], (Blk.new _ _ _).alloc _, ?_⟩
    rw [bestTo_one]
    have := Blk.new (w.alloc (.cells #[.int .u8 0, .int .u8 0, .int .u8 0] 61)) #[.int .u8 (hueAt hs 0).r, .int .u8 (hueAt hs 0).g, .int .u8 (hueAt hs 0).b] 61
    rwa [World.size_alloc] at this
  case round =>
    obtain ⟨k, hk1, hk, rfl, E, B4, B5⟩ := hrel
    have hbest := bestTo_lt ⟨pr, pg, pb⟩ hs k (by omega)
    obtain ⟨m, hm⟩ : ∃ m, bestTo ⟨pr, pg, pb⟩ hs k = m := ⟨_, rfl⟩
    have Hm := Lib.hid hm
    rw [hm] at B5 hbest
    clear hm
    have cz := B5.cell
    by_cases hlt : k < hs.length
    · obtain ⟨b2, off2, hA2, _, hokk, c0, c1, c2⟩ := hh.at_ hlt
      cases hA2
      have hokm : (hueAt hs m).ok := by
        obtain ⟨_, _, _, _, h, _⟩ := hh.at_ (k := m) (by omega)
        exact h
      have e0 := E.cell c0
      have e1 := E.cell c1
      have e2 := E.cell c2
      have f0 := E.cell h0
      have f1 := E.cell h1
      have f2 := E.cell h2
      clear c0 c1 c2
      go_wp2
      refine wp_region_grow (by kernel_rfl) (by kernel_rfl) ?_
      repeat (go_big_quiet_step ((go_at_call 74; exact quiet_ext (cmp_c pr pg pb (hueAt hs k).r (hueAt hs k).g (hueAt hs k).b (hueAt hs m).r (hueAt hs m).g (hueAt hs m).b kp hp hokk hokm _ (by simp [go_sem, *]) (by simp [go_sem, *]) (by simp [go_sem, *])))))
      refine wpQuiet_nil ?_
      intro W hW
      have EW : Ext wr W := by
        obtain ⟨x, rfl⟩ := hW
        exact (Ext.refl _).grow x
      clear hW
      have B4W := B4.ext EW
      have B5W := B5.ext EW
      have g0 := EW.cell e0
      have g1 := EW.cell e1
      have g2 := EW.cell e2
      have cW := B5W.cell
      have fW := B5W.frozen
      clear cz e0 e1 e2 f0 f1 f2
      go_wp2
      · go_roundw
        case rel =>
          have hc : farS ⟨pr, pg, pb⟩ (hueAt hs k) - farS ⟨pr, pg, pb⟩ (hueAt hs m) < 0 := by assumption
          have hb1 : bestTo ⟨pr, pg, pb⟩ hs (k + 1) = k := by
            show (if farS ⟨pr, pg, pb⟩ (hueAt hs k) < farS ⟨pr, pg, pb⟩ (hueAt hs (bestTo ⟨pr, pg, pb⟩ hs k)) then k else bestTo ⟨pr, pg, pb⟩ hs k) = k
            rw [Hm.out, if_pos (by omega)]
          refine ⟨k + 1, by omega, by omega, by go_num, (((E.trans EW).setCell (Nat.le_succ _) _).setCell (Nat.le_succ _) _).setCell (Nat.le_succ _) _,
            ((B4W.far (by simp) _).far (by simp) _).far (by simp) _, ?_⟩
          rw [hb1]
          have := ((B5W.set_ 0 (.int .u8 (hueAt hs k).r)).set_ 1 (.int .u8 (hueAt hs k).g)).set_ 2 (.int .u8 (hueAt hs k).b)
          simpa using this
        case measure => simp [intOf]; omega
      · go_roundw
        case rel =>
          have hc : 0 ≤ farS ⟨pr, pg, pb⟩ (hueAt hs k) - farS ⟨pr, pg, pb⟩ (hueAt hs m) := by assumption
          have hb1 : bestTo ⟨pr, pg, pb⟩ hs (k + 1) = m := by
            show (if farS ⟨pr, pg, pb⟩ (hueAt hs k) < farS ⟨pr, pg, pb⟩ (hueAt hs (bestTo ⟨pr, pg, pb⟩ hs k)) then k else bestTo ⟨pr, pg, pb⟩ hs k) = m
            rw [Hm.out, if_neg (by omega)]
          refine ⟨k + 1, by omega, by omega, by go_num, E.trans EW, B4W, ?_⟩
          rw [hb1]
          exact B5W
        case measure => simp [intOf]; omega
    · obtain rfl : hs.length = k := by omega
      have cr := B4.cell
      have fr := B4.frozen
      go_wp2
      refine bodyPost_ret (v := (hueAt hs m).v) ?_ rfl ?_
      · simp [results, Tryd.results73, go_sem, Hue.v, cr]
      · refine ⟨by rw [Hm.out], ((E.setCell (Nat.le_refl _) _).setCell (Nat.le_refl _) _).setCell (Nat.le_refl _) _⟩
end Go.Proofs.YtpikemglnnjemaaDoor

namespace Go.Proofs.YtpikemglnnjemaaDoor
open Go.RowKit

theorem Tryd.infoU8 : (Tryd.prog.info? 5).map (fun i => (i.zero, i.size, i.bytes)) = some (some (.int .u8 0), 1, 1) := by kernel_rfl

def paintOk (n m : Nat) (wd : Int) : Prop := 1 ≤ wd ∧ wd ≤ 8 ∧ 1 ≤ n ∧ n ≤ 16 ∧ (n : Int) % wd = 0 ∧ (n : Int) / wd ≤ 8 ∧ 1 ≤ m ∧ m ≤ 15
def pcell (pal : List Hue) (p : Hue) : Value := .int .u8 ((bestTo p pal pal.length : Int) + 1)

theorem bestTo_le (p : Hue) (hs : List Hue) (k : Nat) : ∀ j, j < k → farS p (hueAt hs (bestTo p hs k)) ≤ farS p (hueAt hs j) := by
  induction k with
  | zero => intro j hj; omega
  | succ k ih =>
    intro j hj
    unfold bestTo
    split <;> rename_i h
    · rcases Nat.lt_or_ge j k with h1 | h1
      · have := ih j h1; omega
      · have : j = k := by omega
        subst this; omega
    · rcases Nat.lt_or_ge j k with h1 | h1
      · exact ih j h1
      · have : j = k := by omega
        subst this; omega
theorem bestTo_first (p : Hue) (hs : List Hue) (k : Nat) : ∀ j, j < bestTo p hs k → farS p (hueAt hs (bestTo p hs k)) < farS p (hueAt hs j) := by
  induction k with
  | zero => intro j hj; simp [bestTo] at hj
  | succ k ih =>
    intro j hj
    unfold bestTo at hj ⊢
    split at hj <;> rename_i h
    · rw [if_pos h]
      rcases Nat.lt_trichotomy j (bestTo p hs k) with h1 | h1 | h1
      · have := ih j h1; omega
      · subst h1; exact h
      · -- between the old best and k
        have := bestTo_le p hs k j hj
        omega
    · rw [if_neg h]
      exact ih j hj

theorem min_c' (A : Option Addr) (cap kp : Nat) (hs : List Hue) (pr pg pb : Int) (w : World) (hp : Hue.ok ⟨pr, pg, pb⟩) (hh : Hues w A cap hs) (hn : 0 < hs.length)
    (h0 : w.cell? ⟨kp, 0, none⟩ = some (.int .u8 pr)) (h1 : w.cell? ⟨kp, 1, none⟩ = some (.int .u8 pg)) (h2 : w.cell? ⟨kp, 2, none⟩ = some (.int .u8 pb)) :
    Calls Tryd.prog 73 #[.slice A hs.length cap, .func (.func 74) #[] #[.pointer (some ⟨kp, 0, none⟩)]] w fun e w' =>
      ∃ m, Hid (bestTo ⟨pr, pg, pb⟩ hs hs.length = m) ∧ m < hs.length ∧ e = .returned (.agg #[.int .u8 (hueAt hs m).r, .int .u8 (hueAt hs m).g, .int .u8 (hueAt hs m).b]) ∧ Ext w w' :=
  (min_c A cap kp hs pr pg pb w hp hh hn h0 h1 h2).mono fun _ _ ⟨he, hE⟩ => ⟨_, rfl, bestTo_lt _ _ _ hn, he, hE⟩

set_option maxHeartbeats 1600000 in
theorem paint_ok (A B : Option Addr) (ca cb : Nat) (px pal : List Hue) (wd : Int) (w : World) (hx : Hues w A ca px) (hp : Hues w B cb pal) (ok : paintOk px.length pal.length wd) :
    Calls Tryd.prog 32 #[.slice A px.length ca, .slice B pal.length cb, .int .i64 wd] w fun e w' =>
      ∃ v, e = .returned (.tuple #[.agg #[.int .i64 wd, .int .i64 ((px.length : Int) / wd), .int .i64 1, v], .int .i64 0]) ∧ w'.ownsRow w.heap.size 5 1 v px.length (px.map (pcell pal)) ∧ Ext w w' := by
  obtain ⟨o1, o2, o3, o4, o5, o6, o7, o8⟩ := ok
  have i1 : inB 1 8 wd = true := inB_iff.2 ⟨o1, o2⟩
  have i2 : inB 1 16 (px.length : Int) = true := inB_iff.2 ⟨by omega, by omega⟩
  have i3 : inB 1 15 (pal.length : Int) = true := inB_iff.2 ⟨by omega, by omega⟩
  have i4 : ((px.length : Int) % wd != 0) = false := by simp [o5]
  have i5 : decide (8 < (px.length : Int) / wd) = false := by simp; omega
  have q0 : 0 ≤ (px.length : Int) / wd := Int.ediv_nonneg (by omega) (by omega)
  clear o5
  have hmf : ∀ (fn : Fn) (first cap : Array Value) (w : World), (Instr.makeFunc fn first cap).run Tryd.prog w = .ok (.func fn first cap) w := fun _ _ _ _ => rfl
  go_enter Tryd.func32, Tryd.ntmps32
  go_wp2_with (go_at_call 53; refine (from_c _ _ _ _).mono ?_; rintro e w' ⟨rfl, rfl⟩)
  go_loopw [49] (fun i wr => ∃ k : Nat, k ≤ px.length ∧ i = .int .i64 k ∧ Ext w wr ∧ Blk wr w.heap.size 24 #[.int .i64 0, .int .i64 0, .int .i64 0, .slice none 0 0] ∧
      ∃ v, Blk wr (w.heap.size + 1) 24 #[.int .i64 wd, .int .i64 ((px.length : Int) / wd), .int .i64 1, v] ∧ wr.ownsRow (w.heap.size + 2) 5 1 v k ((px.take k).map (pcell pal))) (fun i _ => px.length - (intOf i).toNat)
  case atStart =>
    refine ⟨0, by omega, rfl, by apply_rules [Ext.refl, Ext.alloc], (Blk.new _ _ _).alloc _, .slice none 0 0, ?_, World.ownsRow_nil _ _ _ _⟩
    have := Blk.new (w.alloc (.cells #[.int .i64 0, .int .i64 0, .int .i64 0, .slice none 0 0] 24)) #[.int .i64 wd, .int .i64 ((px.length : Int) / wd), .int .i64 1, .slice none 0 0] 24
    rwa [World.size_alloc] at this
  case round =>
    obtain ⟨k, hk, rfl, E, B0, v, B1, own⟩ := hrel
    have hsz : w.heap.size + 2 ≤ wr.heap.size := by have := B1.lt; omega
    by_cases hlt : k < px.length
    · obtain ⟨b2, off2, rfl, _, hok, c0, c1, c2⟩ := hx.at_ hlt
      have e0 := E.cell c0
      have e1 := E.cell c1
      have e2 := E.cell c2
      clear c0 c1 c2
      obtain ⟨W, hW, EW, ba, hz⟩ := boxes1 wr #[.int .u8 (hueAt px k).r, .int .u8 (hueAt px k).g, .int .u8 (hueAt px k).b] 61
      have ba0 := ba 0
      have ba1 := ba 1
      have ba2 := ba 2
      go_wp2_with (go_at_call 73; refine (min_c' B cb wr.heap.size pal _ _ _ _ hok (hp.ext (E.trans EW)) (by omega) ba0 ba1 ba2).mono ?_; rintro e w1 ⟨m, Hm, hm, rfl, E1⟩)
      obtain ⟨W2, hW2, EW2, bb, hz2⟩ := boxes1 w1 #[.int .u8 (hueAt pal m).r, .int .u8 (hueAt pal m).g, .int .u8 (hueAt pal m).b] 61
      rw [hW2]
      clear hW2 hW
      have E2 : Ext wr W2 := (EW.trans E1).trans EW2
      have B0' := (B0.ext E2).drew
      have B1' := (B1.ext E2).drew
      have own' : W2.drew.ownsRow _ _ _ _ _ _ := (own_ext own E2).drew
      have hp' : Hues W2.drew B cb pal := hp.ext ((E.trans E2).drew)
      have c13 := B1'.cell 3
      have hfirst : ∀ j, j < m → hueAt pal j ≠ hueAt pal m := fun j hj he => by
        have hb : bestTo (hueAt px k) pal pal.length = m := Hm.out
        have h1 := bestTo_first (hueAt px k) pal pal.length j (by rw [hb]; exact hj)
        rw [hb, he] at h1
        omega
      have s1 : IntKind.i64.wrap (1 + (m : Int)) = 1 + (m : Int) := IntWalk.i64_in _ (by omega)
      have s2 : IntKind.u8.wrap (1 + (m : Int)) = 1 + (m : Int) := IntWalk.u8_in _ (by omega)
      have bb0 := bb 0
      have bb1 := bb 1
      have bb2 := bb 2
      obtain ⟨i0, hi, hz0, hz1, hz2⟩ := info_parts Tryd.infoU8
      have hml : k + 1 ≤ maxLen := by unfold maxLen; omega
      go_region_law (first
          | (go_simp; go_at_call 76; refine (hueIndex_c B cb m pal _ _ _ _ hp' hm rfl hfirst).mono ?_; rintro e w3 ⟨rfl, E3⟩; have c13' := E3.cell c13; have own3 := own_ext own' E3; have hsz3 : w.heap.size + 2 ≤ w3.heap.size := Nat.le_trans (Nat.le_trans hsz E2.size) E3.size; have hlt3 : w.heap.size + 1 < w3.heap.size := hsz3; have B1_3 := B1'.ext E3; have B0_3 := B0'.ext E3)
          | (refine step_append_one #[.int .u8 (1 + (m : Int))] rfl (.tmp 57) (.tmp 63) 22 rfl (w.heap.size + 2) 5 5 i0 (.int .u8 0) 1 1 Tryd.underlying22 hi hz0 hz1 hz2 rfl (by decide) v k _ _ rfl own3 rfl rfl (by simp [Value.oneCell']) hml (by omega) hsz3 ?_; intro g4 cap4 w4 own4 hg4; have B1_4 := (B1_3.alloc _).grown hg4 (own_ne own3 (by omega)); have c14 := B1_4.cell 3; have f14 := B1_4.frozen 3; have B0_4 := (B0_3.alloc (.cells #[.int .u8 (1 + (m : Int))] 5)).grown hg4 (own_ne own3 (by omega)); have E4 := (((E.trans E2).drew.trans E3).alloc (.cells #[.int .u8 (1 + (m : Int))] 5)).grown hg4 (fun q hq => by have := (own3.lt q hq).1; omega)))
      all_goals
        go_wp2
        go_roundw
        case rel =>
          refine ⟨k + 1, by omega, by go_num, E4.setCell (Nat.le_succ _) _, B0_4.far (by simp) _, .slice (some ⟨g4, 0, none⟩) (k + 1) cap4, B1_4.set_ 3 _, own_setCell ?_ (Nat.lt_succ_self _) _⟩
          have hpix : px[k]? = some (hueAt px k) := by simp [hueAt, List.getElem?_eq_getElem hlt]
          have hb : bestTo (hueAt px k) pal pal.length = m := Hm.out
          rw [List.take_add_one, hpix, Option.toList_some, List.map_append, List.map_singleton]
          have hc : pcell pal (hueAt px k) = .int .u8 (1 + (m : Int)) := by rw [pcell, hb, Int.add_comm]
          rw [hc]
          exact own4
        case measure => simp [intOf]; omega
    · obtain rfl : px.length = k := by omega
      obtain ⟨g, cap, rfl⟩ := own_form own (by omega)
      have cr0 := B0.cell
      have fr0 := B0.frozen
      have cr1 := B1.cell
      go_wp2
      refine bodyPost_ret (v := .tuple #[.agg #[.int .i64 wd, .int .i64 ((px.length : Int) / wd), .int .i64 1, .slice (some ⟨g, 0, none⟩) px.length cap], .int .i64 0]) ?_ rfl ?_
      · simp [results, Tryd.results32, go_sem, cr0]
      · rw [List.take_length] at own
        exact ⟨_, rfl, own_base (own_setCell (own_setCell (own_setCell (own_setCell own (by show w.heap.size < _; omega) _) (by show w.heap.size < _; omega) _) (by show w.heap.size < _; omega) _) (by show w.heap.size < _; omega) _) (by omega),
          (((E.setCell (Nat.le_refl _) _).setCell (Nat.le_refl _) _).setCell (Nat.le_refl _) _).setCell (Nat.le_refl _) _⟩

set_option maxHeartbeats 1600000 in
theorem paint_bad (A B : Option Addr) (ca cb n m : Nat) (wd : Int) (w : World) (hn : n ≤ 100) (hm : m ≤ 100) (hwd : -9223372036854775808 ≤ wd ∧ wd ≤ 9223372036854775807) (ok : ¬ paintOk n m wd) :
    Calls Tryd.prog 32 #[.slice A n ca, .slice B m cb, .int .i64 wd] w fun e w' =>
      e = .returned (.tuple #[.agg #[.int .i64 0, .int .i64 0, .int .i64 0, .slice none 0 0], .int .i64 2]) ∧ Ext w w' := by
  unfold paintOk at ok
  by_cases h1 : 1 ≤ wd ∧ wd ≤ 8
  case neg =>
    have i1 : inB 1 8 wd = false := inB_not.2 h1
    clear ok hwd
    go_enter Tryd.func32, Tryd.ntmps32
    go_wp2_with (go_at_call 53; refine (from_c _ _ _ _).mono ?_; rintro e w' ⟨rfl, rfl⟩)
    refine bodyPost_ret (v := .tuple #[.agg #[.int .i64 0, .int .i64 0, .int .i64 0, .slice none 0 0], .int .i64 2]) ?_ rfl ⟨rfl, by repeat (first | exact Ext.refl _ | refine Ext.setCell ?_ (Nat.le_refl _) _ | refine Ext.alloc ?_ _)⟩
    simp [results, Tryd.results32, go_sem]
  obtain ⟨o1, o2⟩ := h1
  have i1 : inB 1 8 wd = true := inB_iff.2 ⟨o1, o2⟩
  have q0 : 0 ≤ (n : Int) / wd := Int.ediv_nonneg (by omega) (by omega)
  have q1 : (n : Int) / wd ≤ n := Int.ediv_le_self _ (by omega)
  by_cases h2 : 1 ≤ n ∧ n ≤ 16
  case neg =>
    have i2 : inB 1 16 (n : Int) = false := inB_not.2 (by omega)
    clear ok
    go_enter Tryd.func32, Tryd.ntmps32
    go_wp2_with (go_at_call 53; refine (from_c _ _ _ _).mono ?_; rintro e w' ⟨rfl, rfl⟩)
    refine bodyPost_ret (v := .tuple #[.agg #[.int .i64 0, .int .i64 0, .int .i64 0, .slice none 0 0], .int .i64 2]) ?_ rfl ⟨rfl, by repeat (first | exact Ext.refl _ | refine Ext.setCell ?_ (Nat.le_refl _) _ | refine Ext.alloc ?_ _)⟩
    simp [results, Tryd.results32, go_sem]
  have i2 : inB 1 16 (n : Int) = true := inB_iff.2 (by omega)
  by_cases h3 : (n : Int) % wd = 0
  case neg =>
    have i3 : ((n : Int) % wd != 0) = true := by simp [h3]
    clear ok
    go_enter Tryd.func32, Tryd.ntmps32
    go_wp2_with (go_at_call 53; refine (from_c _ _ _ _).mono ?_; rintro e w' ⟨rfl, rfl⟩)
    refine bodyPost_ret (v := .tuple #[.agg #[.int .i64 0, .int .i64 0, .int .i64 0, .slice none 0 0], .int .i64 2]) ?_ rfl ⟨rfl, by repeat (first | exact Ext.refl _ | refine Ext.setCell ?_ (Nat.le_refl _) _ | refine Ext.alloc ?_ _)⟩
    simp [results, Tryd.results32, go_sem]
  have i3 : ((n : Int) % wd != 0) = false := by simp [h3]
  by_cases h4 : (n : Int) / wd ≤ 8
  case neg =>
    have i4 : decide (8 < (n : Int) / wd) = true := by simp; omega
    clear ok h3
    go_enter Tryd.func32, Tryd.ntmps32
    go_wp2_with (go_at_call 53; refine (from_c _ _ _ _).mono ?_; rintro e w' ⟨rfl, rfl⟩)
    refine bodyPost_ret (v := .tuple #[.agg #[.int .i64 0, .int .i64 0, .int .i64 0, .slice none 0 0], .int .i64 2]) ?_ rfl ⟨rfl, by repeat (first | exact Ext.refl _ | refine Ext.setCell ?_ (Nat.le_refl _) _ | refine Ext.alloc ?_ _)⟩
    simp [results, Tryd.results32, go_sem]
  have i4 : decide (8 < (n : Int) / wd) = false := by simp; omega
  have i5 : inB 1 15 (m : Int) = false := inB_not.2 (fun h => ok ⟨o1, o2, by omega, by omega, h3, h4, by omega, by omega⟩)
  clear ok h3
  · have _ht : True := trivial
    go_enter Tryd.func32, Tryd.ntmps32
    go_wp2_with (go_at_call 53; refine (from_c _ _ _ _).mono ?_; rintro e w' ⟨rfl, rfl⟩)
    refine bodyPost_ret (v := .tuple #[.agg #[.int .i64 0, .int .i64 0, .int .i64 0, .slice none 0 0], .int .i64 2]) ?_ rfl ⟨rfl, by repeat (first | exact Ext.refl _ | refine Ext.setCell ?_ (Nat.le_refl _) _ | refine Ext.alloc ?_ _)⟩
    simp [results, Tryd.results32, go_sem]
end Go.Proofs.YtpikemglnnjemaaDoor

namespace Go.Proofs.YtpikemglnnjemaaDoor
open Go.RowKit

set_option maxRecDepth 100000 in
set_option maxHeartbeats 1600000 in
theorem far7_c (ar ag ab br bg bb : Int) (ha : Hue.ok ⟨ar, ag, ab⟩) (hb : Hue.ok ⟨br, bg, bb⟩) (w : World) :
    Calls Tryd.prog 33 #[.agg #[.int .u8 ar, .int .u8 ag, .int .u8 ab], .agg #[.int .u8 br, .int .u8 bg, .int .u8 bb]] w fun e w' => e = .returned (.int .i64 (farS ⟨ar, ag, ab⟩ ⟨br, bg, bb⟩)) ∧ Ext w w' := by
  obtain ⟨⟨a1, a2⟩, ⟨a3, a4⟩, a5, a6⟩ := ha
  obtain ⟨⟨b1, b2⟩, ⟨b3, b4⟩, b5, b6⟩ := hb
  dsimp only at *
  have ⟨p1, p2⟩ := sqd_bd ar br a1 a2 b1 b2
  have ⟨p3, p4⟩ := sqd_bd ag bg a3 a4 b3 b4
  have ⟨p5, p6⟩ := sqd_bd ab bb a5 a6 b5 b6
  have q1 := sqd_wrap ar br a1 a2 b1 b2
  have q2 := sqd_wrap ag bg a3 a4 b3 b4
  have q3 := sqd_wrap ab bb a5 a6 b5 b6
  have i0 : ∀ w, (Instr.index 117 (.agg #[.int .i64 (ar - br), .int .i64 (ag - bg), .int .i64 (ab - bb)]) (.int .i64 0)).run Tryd.prog w = .ok (.int .i64 (ar - br)) w := fun _ => by kernel_rfl
  have i1 : ∀ w, (Instr.index 117 (.agg #[.int .i64 (ar - br), .int .i64 (ag - bg), .int .i64 (ab - bb)]) (.int .i64 1)).run Tryd.prog w = .ok (.int .i64 (ag - bg)) w := fun _ => by kernel_rfl
  have i2 : ∀ w, (Instr.index 117 (.agg #[.int .i64 (ar - br), .int .i64 (ag - bg), .int .i64 (ab - bb)]) (.int .i64 2)).run Tryd.prog w = .ok (.int .i64 (ab - bb)) w := fun _ => by kernel_rfl
  go_enter Tryd.func33, Tryd.ntmps33
  go_wp2_with fail
  go_rounds 4
  go_ret
  exact ⟨rfl, by apply_rules [Ext.refl, Ext.alloc, Ext.drewN]⟩
end Go.Proofs.YtpikemglnnjemaaDoor

namespace Go.Proofs.YtpikemglnnjemaaDoor
open Go.RowKit

def paintCells (px pal : List Hue) : List Int := px.map fun p => (bestTo p pal pal.length : Int) + 1
theorem paint_bytes {w : World} {base g cap : Nat} {px pal : List Hue} (hm : pal.length ≤ 15) (h0 : 0 < pal.length) (own : w.ownsRow base 5 1 (.slice (some ⟨g, 0, none⟩) px.length cap) px.length (px.map (pcell pal))) : Bytes w (some ⟨g, 0, none⟩) cap (paintCells px pal) := by
  have hlen : (paintCells px pal).length = px.length := by unfold paintCells; rw [List.length_map]
  have hf : ((paintCells px pal).map fun c => [Value.int .u8 c]).flatten = px.map (pcell pal) := by
    unfold paintCells
    induction px with
    | nil => rfl
    | cons p px ih =>
      simp only [List.map_cons, List.flatten_cons, List.map_map] at ih ⊢
      have : ∀ qs : List Hue, (qs.map ((fun c => [Value.int IntKind.u8 c]) ∘ fun p => (bestTo p pal pal.length : Int) + 1)).flatten = qs.map (pcell pal) := by
        intro qs
        induction qs with
        | nil => rfl
        | cons q qs ih =>
          rw [List.map_cons, List.flatten_cons, ih, List.map_cons]
          rfl
      rw [this]
      rfl
  refine ⟨?_, fun c hc => ?_⟩
  · rw [← hf] at own
    have := own_any (rows := (paintCells px pal).map fun c => [Value.int .u8 c]) (by decide) (by simp) (by rw [List.length_map, hlen]) own
    rw [hlen]
    exact this
  · unfold paintCells at hc
    obtain ⟨p, _, rfl⟩ := List.mem_map.1 hc
    have := bestTo_lt p pal pal.length h0
    unfold byteOk
    omega
theorem paint_valid {px pal : List Hue} {wd : Int} (ok : paintOk px.length pal.length wd) : Shape.valid ⟨wd, (px.length : Int) / wd, 1, paintCells px pal⟩ = true := by
  obtain ⟨o1, o2, o3, o4, o5, o6, o7, o8⟩ := ok
  have hlen : (paintCells px pal).length = px.length := by unfold paintCells; rw [List.length_map]
  have hmul : wd * ((px.length : Int) / wd) = px.length := by
    have := Int.mul_ediv_add_emod (px.length : Int) wd
    omega
  have hd : 1 ≤ (px.length : Int) / wd := by
    rcases Int.lt_or_le ((px.length : Int) / wd) 1 with h | h
    · exfalso
      have h1 : (px.length : Int) / wd ≤ 0 := by omega
      have := Int.mul_le_mul_of_nonneg_left h1 (show 0 ≤ wd by omega)
      omega
    · exact h
  have hcell : ∀ c ∈ paintCells px pal, 1 ≤ c ∧ c ≤ 15 := fun c hc => by
    unfold paintCells at hc
    obtain ⟨p, _, rfl⟩ := List.mem_map.1 hc
    have := bestTo_lt p pal pal.length (by omega)
    omega
  have hfull : fullN (paintCells px pal) = px.length := by
    unfold fullN
    rw [← hlen, List.countP_eq_length]
    intro c hc
    have := hcell c hc
    simp
    omega
  unfold Shape.valid
  simp only [Bool.and_eq_true, inB_iff, decide_eq_true_eq, hlen, hfull, hmul]
  refine ⟨⟨o1, o2⟩, ⟨hd, o6⟩, ⟨by omega, by omega⟩, by omega, ?_, by omega, by omega⟩
  unfold plainB
  rw [List.all_eq_true]
  intro c hc
  have := hcell c hc
  simp
  omega
end Go.Proofs.YtpikemglnnjemaaDoor

namespace Go.Proofs.YtpikemglnnjemaaDoor
open Go.RowKit

set_option maxRecDepth 100000 in
set_option maxHeartbeats 8000000 in
theorem painted_walk (A B : Option Addr) (ca cb : Nat) (px pal : List Hue) (wd : Int) (w : World) (hx : Hues w A ca px) (hp : Hues w B cb pal) (hwd : -9223372036854775808 ≤ wd ∧ wd ≤ 9223372036854775807) (hT : TzTab w) :
    Calls Tryd.prog 8 #[.slice A px.length ca, .slice B pal.length cb, .int .i64 wd] w fun e w' => e = .returned (.bool true) ∧ Ext w w' := by
  have hn1 : px.length ≤ 2 ^ 63 - 1 := Nat.le_trans hx.1.le hx.1.small
  have hn2 : pal.length ≤ 2 ^ 63 - 1 := Nat.le_trans hp.1.le hp.1.small
  go_enter Tryd.func8, Tryd.ntmps8
  go_wp2_with fail
  refine (alive_c _ hT).mono ?_
  rintro e W2 ⟨rfl, E⟩
  by_cases hnx : 100 < px.length
  · go_wp2_with fail
    go_ret
    exact ⟨rfl, E⟩
  · by_cases hnp : 30 < pal.length
    · go_wp2_with fail
      go_ret
      exact ⟨rfl, E⟩
    · by_cases ok : paintOk px.length pal.length wd
      · go_wp2_with fail
        refine (paint_ok A B ca cb px pal wd _ (hx.ext E) (hp.ext E) ok).mono ?_
        rintro e W3 ⟨v, rfl, own, E3⟩
        have hv := paint_valid ok
        obtain ⟨o1, o2, o3, o4, o5, o6, o7, o8⟩ := ok
        obtain ⟨g, cap, rfl⟩ := own_form own (by omega)
        have hB := paint_bytes (by omega) (by omega) own
        have hlen : (paintCells px pal).length = px.length := by unfold paintCells; rw [List.length_map]
        have hse : shapeErr ⟨wd, (px.length : Int) / wd, 1, paintCells px pal⟩ = 0 := shapeErr_ok hv
        obtain ⟨dd, hdd⟩ : ∃ dd, (px.length : Int) / wd = dd := ⟨_, rfl⟩
        rw [hdd] at hse ⊢
        replace E := E.trans E3
        have B4 := Blk.new W3 #[.int .i64 wd, .int .i64 dd, .int .i64 1, .slice (some ⟨g, 0, none⟩) px.length cap] 24
        have E4 := ext_alloc W3 (.cells #[.int .i64 wd, .int .i64 dd, .int .i64 1, .slice (some ⟨g, 0, none⟩) px.length cap] 24)
        have hc := checkShape_c (some ⟨g, 0, none⟩) cap wd dd 1 (paintCells px pal) _ (hB.ext E4)
        rw [hse, hlen] at hc
        have HC := Lib.hid hc
        have HB := Lib.hid hB
        have Hlen := Lib.hid hlen
        clear hc hv hse hB hlen own hdd
        have EE := Lib.hid (E.trans E4)
        go_wp2_with fail
        refine HC.out.mono ?_
        rintro e W5 ⟨rfl, E5⟩
        have B5 := B4.ext E5
        have b5 := B5.cell
        go_wp2_with fail
        clear b5
        have EE5 := EE.out.trans E5
        have E35 := E4.trans E5
        go_loopw [71] (fun iv wr => ∃ i : Nat, i ≤ px.length ∧ iv = .int .i64 i ∧ Ext W5 wr) (fun iv _ => px.length - (intOf iv).toNat)
        case atStart => exact ⟨0, by omega, rfl, Ext.refl _⟩
        case round =>
          obtain ⟨i, hi, rfl, E6⟩ := hrel
          by_cases hlt : i < px.length
          · have Ew := EE5.trans E6
            obtain ⟨bx, ox, rfl, hbx, okx, x0, x1, x2⟩ := (hx.ext Ew).at_ hlt
            obtain ⟨m, hm⟩ : ∃ m, bestTo (hueAt px i) pal pal.length = m := ⟨_, rfl⟩
            have hml : m < pal.length := by rw [← hm]; exact bestTo_lt _ _ _ (by omega)
            obtain ⟨bp, op, rfl, hbp, okp, y0, y1, y2⟩ := (hp.ext Ew).at_ hml
            have hcs : ((paintCells px pal).map fun c => [Value.int .u8 c])[i]? = some [.int .u8 ((m : Int) + 1)] := by
              unfold paintCells
              rw [List.map_map, List.getElem?_map, List.getElem?_eq_getElem hlt]
              have : hueAt px i = px[i] := by unfold hueAt; rw [List.getD_eq_getElem?_getD, List.getElem?_eq_getElem hlt]; rfl
              rw [← hm, this]
              rfl
            obtain ⟨bg, og, hge, hbg, hgc⟩ := HB.out.1.cells (by rw [Hlen.out]; omega)
            cases hge
            have c0 := (E35.trans E6).cell (hgc i _ hcs 0 _ rfl)
            have hgl : g < wr.heap.size := Nat.lt_of_lt_of_le hbg (E35.trans E6).size
            simp only [Nat.zero_add, Nat.mul_one, Nat.add_zero] at c0
            obtain ⟨⟨r, gg, bb⟩, hh⟩ : ∃ h, hueAt px i = h := ⟨_, rfl⟩
            obtain ⟨⟨pr, pg, pb⟩, hhp⟩ : ∃ h, hueAt pal m = h := ⟨_, rfl⟩
            rw [hh] at okx x0 x1 x2 hm
            rw [hhp] at okp y0 y1 y2
            have Hm := Lib.hid hm
            have Hhp := Lib.hid hhp
            have Hokx := Lib.hid okx
            have Hokp := Lib.hid okp
            simp only at x0 x1 x2 y0 y1 y2
            clear hcs hgc hm hh hhp okx okp
            go_wp2_with fail
            refine wp_region_grow (by kernel_rfl) (by kernel_rfl) ?_
            repeat (go_big_quiet_step (((go_at_call 33; exact quiet_ext (far7_c _ _ _ _ _ _ Hokx.out Hokp.out _)))))
            refine wpQuiet_nil ?_
            intro W7 hW7
            have E7 : Ext wr W7 := by
              obtain ⟨x, rfl⟩ := hW7
              exact (Ext.refl _).grow x
            clear hW7
            obtain ⟨hcW7, hfW7, hzW7⟩ := ext_facts E7
            obtain ⟨dv, hdv⟩ : ∃ dv, farS ⟨r, gg, bb⟩ ⟨pr, pg, pb⟩ = dv := ⟨_, rfl⟩
            rw [hdv]
            have hbd := farS_bd _ _ Hokx.out Hokp.out
            rw [hdv] at hbd
            have Hle : Hid (∀ j, j < pal.length → dv ≤ farS ⟨r, gg, bb⟩ (hueAt pal j) ∧ (j < m → dv < farS ⟨r, gg, bb⟩ (hueAt pal j))) := Lib.hid (fun j hj => by
              have h1 := bestTo_le ⟨r, gg, bb⟩ pal pal.length j hj
              have h2 := bestTo_first ⟨r, gg, bb⟩ pal pal.length j
              rw [Hm.out, Hhp.out, hdv] at h1 h2
              exact ⟨h1, h2⟩)
            have Ew7 := Ew.trans E7
            have x0' := E7.cell x0
            have x1' := E7.cell x1
            have x2' := E7.cell x2
            clear x0 x1 x2 y0 y1 y2 c0 hdv
            go_wp2_with fail
            go_loopw [97] (fun jv wr2 => ∃ j : Nat, j ≤ pal.length ∧ jv = .int .i64 j ∧ Ext W7 wr2) (fun jv _ => pal.length - (intOf jv).toNat)
            case atStart => exact ⟨0, by omega, rfl, Ext.refl _⟩
            case round =>
              obtain ⟨j, hj, rfl, E9⟩ := hrel
              by_cases hjl : j < pal.length
              · obtain ⟨bq, oq, hqe, hbq, okq, z0, z1, z2⟩ := (hp.ext (Ew7.trans E9)).at_ hjl
                cases hqe
                obtain ⟨hl1, hl2⟩ := Hle.out j hjl
                obtain ⟨⟨qr, qg, qb⟩, hhq⟩ : ∃ h, hueAt pal j = h := ⟨_, rfl⟩
                rw [hhq] at okq z0 z1 z2 hl1 hl2
                have Hokq := Lib.hid okq
                have Hl2 := Lib.hid hl2
                simp only at z0 z1 z2
                clear hhq okq hl2
                obtain ⟨W8, hW8, E8, B8, hz8⟩ := box_ wr #[.int .u8 qr, .int .u8 qg, .int .u8 qb] 61
                have b8 := B8.cell
                have E98 := E9.trans E8
                have x0 := E98.cell x0'
                have x1 := E98.cell x1'
                have x2 := E98.cell x2'
                have hbx8 : bx < W8.heap.size := Nat.lt_of_lt_of_le hbx (E7.trans E98).size
                go_wp2_with fail
                refine wp_region_grow (by kernel_rfl) (by kernel_rfl) ?_
                repeat (go_big_quiet_step (((go_at_call 33; exact quiet_ext (far7_c _ _ _ _ _ _ Hokx.out Hokq.out _)))))
                refine wpQuiet_nil ?_
                intro W9 hW9
                have E10 : Ext W8 W9 := by
                  obtain ⟨x, rfl⟩ := hW9
                  exact (Ext.refl _).grow x
                clear hW9
                obtain ⟨hcW9, hfW9, hzW9⟩ := ext_facts E10
                have hbj := farS_bd _ _ Hokx.out Hokq.out
                have Hlt := Hl2.out
                obtain ⟨dj, hdj⟩ : ∃ dj, farS ⟨r, gg, bb⟩ ⟨qr, qg, qb⟩ = dj := ⟨_, rfl⟩
                rw [hdj] at hl1 hbj Hlt ⊢
                have HLT := Lib.hid Hlt
                clear x0 x1 x2 z0 z1 z2 b8 hdj Hlt
                by_cases hjm : j < m
                · have hlt2 := HLT.out hjm
                  go_wp2_with fail
                  go_roundw
                  case rel => exact ⟨j + 1, by omega, by go_num, E98.trans E10⟩
                  case measure => simp only [intOf]; omega
                · by_cases hde : dj = dv
                  · go_wp2_with fail
                    go_roundw
                    case rel => exact ⟨j + 1, by omega, by go_num, E98.trans E10⟩
                    case measure => simp only [intOf]; omega
                  · go_wp2_with fail
                    go_roundw
                    case rel => exact ⟨j + 1, by omega, by go_num, E98.trans E10⟩
                    case measure => simp only [intOf]; omega
              · obtain rfl : j = pal.length := by omega
                go_wp2_with fail
                go_roundw
                case rel => exact ⟨i + 1, by omega, by go_num, (E6.trans E7).trans E9⟩
                case measure => simp only [intOf]; omega
          · obtain rfl : i = px.length := by omega
            go_wp2_with fail
            go_ret
            exact ⟨rfl, EE5.trans E6⟩
      · go_wp2_with fail
        refine (paint_bad A B ca cb px.length pal.length wd _ (by omega) (by omega) hwd ok).mono ?_
        rintro e W3 ⟨rfl, E3⟩
        have EE := Lib.hid ((E.trans E3).trans (ext_alloc W3 (.cells #[.int .i64 0, .int .i64 0, .int .i64 0, .slice none 0 0] 24)))
        go_wp2_with fail
        go_ret
        exact ⟨rfl, EE.out⟩
end Go.Proofs.YtpikemglnnjemaaDoor

namespace Go.Proofs.YtpikemglnnjemaaDoor
open Go.RowKit Go.ChangeShapes Go.WideShapes Go.ChangeAt Go.Deep Go.Joins

set_option maxRecDepth 100000 in
theorem hues_of_trod {H : Type} {enc : TypeId × Value → H} {w : World} {base : Nat} {spare : Nat → Bool} {held : Bool} {fuel n cap : Nat} {A : Option Addr} {x : DataW H × List MemPlace}
    (h : DataW.trod enc Tryd.prog w base spare held fuel 56 [.slice A n cap] = some x) : ∃ hs : List Hue, hs.length = n ∧ Hues w A cap hs := by
  have hC : Tryd.prog.cellsOf 61 = 3 := by kernel_rfl
  obtain ⟨rows, hS, hr⟩ := rows_of_trod Tryd.underlying56 hC (by omega) h
  obtain ⟨hs, hl, hp⟩ := list_of (fun i (h : Hue) => rows[i]? = some h.cells ∧ h.ok) n (fun i hi => by
    have hi' : i < rows.length := by rw [hS.len]; exact hi
    have hget : rows[i]? = some rows[i] := List.getElem?_eq_getElem hi'
    obtain ⟨m, y, hy⟩ := hr _ (List.mem_of_getElem? hget)
    obtain ⟨xs, m', _, _, hlen, hxl, hf⟩ := DataW.trod_struct Tryd.underlying61 hy
    rw [hC] at hlen
    generalize rows[i] = r at hget hy hlen hf
    match r, hlen with
    | [c0, c1, c2], _ =>
      have f0 := hf 0 _ rfl
      have f1 := hf 1 _ rfl
      have f2 := hf 2 _ rfl
      match xs, hxl with
      | [y0, y1, y2], _ =>
        obtain ⟨a, e0, _, wa⟩ := DataW.trod_int Tryd.underlying5 f0
        obtain ⟨b, e1, _, wb⟩ := DataW.trod_int Tryd.underlying5 f1
        obtain ⟨c, e2, _, wc⟩ := DataW.trod_int Tryd.underlying5 f2
        have hc1 : Tryd.prog.cellsOf 5 = 1 := by kernel_rfl
        change List.take (Tryd.prog.cellsOf 5) [c0, c1, c2] = _ at e0
        change List.take (Tryd.prog.cellsOf 5) [c1, c2] = _ at e1
        change List.take (Tryd.prog.cellsOf 5) [c2] = _ at e2
        rw [hc1] at e0 e1 e2
        simp at e0 e1 e2
        subst e0 e1 e2
        exact ⟨⟨a, b, c⟩, hget, bounds_u8 wa, bounds_u8 wb, bounds_u8 wc⟩)
  refine ⟨hs, hl, ?_, fun h hm => ?_⟩
  · have : rows = hs.map Hue.cells := by
      apply List.ext_getElem?
      intro i
      rw [List.getElem?_map]
      rcases Nat.lt_or_ge i n with hi | hi
      · have : hs[i]? = some hs[i] := List.getElem?_eq_getElem (by omega)
        rw [this, (hp i _ this).1]
        rfl
      · rw [List.getElem?_eq_none (by rw [hS.len]; exact hi), List.getElem?_eq_none (by omega)]
        rfl
    rw [← this, hl]
    exact hS
  · obtain ⟨i, hi⟩ := List.getElem?_of_mem hm
    exact (hp i h hi).2

set_option maxRecDepth 100000 in
theorem painted_lifted (os : Os) (started : os.Started) (H : Type) (enc : TypeId × Value → H) :
    ReturnsInHanded {} Tryd.checked os 8 .any (fun w args => (Rows.composePaintedSpec.pre enc Tryd.prog Tryd.f8 [] false w args ∧ laidMetH Tryd.prog laidTab w) ∧ sizedMet enc Tryd.prog Tryd.f8 (OpenSpec.ofChange Rows.composePaintedSpec) false w args)
      (Rows.composePaintedSpec.post enc Tryd.prog Tryd.f8 false true false false) := by
  refine returnsInHanded_of_change_and (C := Tryd.checked) (X := fun w _ => laidMetH Tryd.prog laidTab w) (fun _ _ _ hh h => h.of_heap hh) Tryd.own started (by kernel_rfl) Tryd.func8
    (ChangeSpec.witness_at (enc := enc) (C := Tryd.checked) (os := os) (X := fun w _ => laidMetH Tryd.prog laidTab w) false (laidWorld os) #[.slice none 0 0, .slice none 0 0, .int .i64 0] 8 rfl (by kernel_rfl) (by kernel_rfl) (by kernel_rfl) (by kernel_rfl) (by kernel_rfl) (laidWorld_met os _)) ?_
  intro W base args ds gs before hval0 hW _ _ hL _
  have hval : ∀ (j : Nat) t v, Tryd.f8.params[j]? = some t → args[j]? = some v → Value.okWide Tryd.prog W .any base t v := hval0
  have hW' := hW
  obtain ⟨p, q, hA0, hV, rfl, hfz, hnd⟩ := hW
  have hA : DataW.TrodAll enc Tryd.prog W 0 (fun _ => true) true Tryd.f8.params.toList args.toList ds p := hA0
  rw [Tryd.params8] at hA hval
  have hAll := hA
  obtain ⟨v0, v1, v2, d0, d1, d2, p0, p1, p2, rfl, rfl, rfl, h0, h1, h2⟩ := trodAll_three hA
  obtain ⟨rfl, rfl⟩ := trodVars_none hV
  obtain ⟨A, n, ca, rfl⟩ := okWide_slice Tryd.underlying56 (hval 0 56 v0 rfl rfl)
  obtain ⟨B, n1, cb, rfl⟩ := okWide_slice Tryd.underlying56 (hval 1 56 v1 rfl rfl)
  obtain ⟨wd, rfl, rfl, rfl, wwd⟩ := open_int Tryd.underlying3 (hval 2 3 v2 rfl rfl) h2
  obtain ⟨fu0, hf0⟩ := h0
  obtain ⟨fu1, hf1⟩ := h1
  obtain ⟨px, rfl, hpx⟩ := hues_of_trod (by simpa [Value.cells] using hf0)
  obtain ⟨pal, rfl, hpal⟩ := hues_of_trod (by simpa [Value.cells] using hf1)
  clear hA0 hval0
  simp only [List.append_nil] at hW' hAll
  have hlt : ∀ q ∈ p0 ++ p1, q.block < W.heap.size := fun q hq => hW'.lt q hq
  refine (painted_walk A B ca cb px pal wd W hpx hpal (bounds_i64 wwd) (tz_of_laid hL)).mono fun e W' ⟨he, hE⟩ => ?_
  subst he
  refine ⟨_, rfl, ?_⟩
  refine ⟨_, _, _, [], p0 ++ p1, [], hW', ?_, ?_, rfl, hE.frame _, fun h => by cases h⟩
  · exact trodAll_mk1 (shut_bool Tryd.underlying4 true)
  · exact trodAll_ext (ts := [56, 56, 3]) Tryd.laidOut hE (by
      intro t ht
      simp only [List.mem_cons, List.not_mem_nil, or_false] at ht
      rcases ht with rfl | rfl | rfl <;> exact ⟨by kernel_rfl, of_decide_eq_true (by kernel_rfl)⟩) hAll hlt

theorem composePainted_row : Rows.ComposePaintedSaid :=
  OpenClaim.holds_of_wide 8 Tryd.f8 rfl rfl rfl rfl rfl rfl rfl ⟨rfl, rfl, rfl, rfl, rfl⟩ rfl rfl rfl rfl rfl (by kernel_rfl) Tryd.func8 (by kernel_rfl)
    (of_decide_eq_true (by kernel_rfl)) (by unfold Func.isWrapper; rw [if_neg (of_decide_eq_false (by kernel_rfl))]; exact ⟨rfl, rfl⟩)
    (fun os started H enc _ => painted_lifted os started H enc)
theorem composePainted_holds : Rows.ComposePaintedCardSaid :=
  Claim7.holds_tied_plain_at .later [] [.data] true Rows.composePaintedCard.stood.harness false
    composePainted_row (fun _ h => by cases h) (by kernel_rfl) (fun _ h => by cases h) composePainted_row_tie rfl ⟨rfl, rfl⟩ (by kernel_rfl) rfl
    (fun f fn hf hfn => by
      obtain rfl : f = 8 := Option.some.inj ((show Tryd.prog.funcNamed "studwork/studworklaw07.ComposePainted" = some 8 by kernel_rfl).symm.trans hf) |>.symm
      obtain rfl : fn = Tryd.f8 := (Option.some.inj (Tryd.func8.symm.trans hfn)).symm
      exact ⟨by kernel_rfl, fun j t ht => by
        rw [Tryd.params8] at ht
        have ht := List.mem_of_getElem? (show ([56, 56, 3] : List TypeId)[j]? = some t by simpa using ht)
        simp only [List.mem_cons, List.not_mem_nil, or_false] at ht
        rcases ht with rfl | rfl | rfl
        · exact (show Tryd.prog.wantsStandIn 56 = false by kernel_rfl)
        · exact (show Tryd.prog.wantsStandIn 56 = false by kernel_rfl)
        · exact (show Tryd.prog.wantsStandIn 3 = false by kernel_rfl)⟩)
    (by kernel_rfl)
#print axioms composePainted_holds
end Go.Proofs.YtpikemglnnjemaaDoor
