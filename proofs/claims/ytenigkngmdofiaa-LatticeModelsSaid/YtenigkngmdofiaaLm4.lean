/- Whether lists are equal (SameCells, slices.Equal, SameInts), whether a list has a knob (slices.Contains), whether lists have the same knobs (SameKnobs). No conditions. Maps that the call makes, whose keys are structs or arrays: they read as lists of pairs. which: the iterator over the 24 turns and what each makes of (1, 2, 3). Turn, Direction, and the reference's. The reference's Pointed, Direction, Composed, Compose, Inverse, Invert. The reference's Compose, Inverse, Invert. -/
import Derived.Test.YtenigkngmdofiaaLm3
import Derived.Maps.Own
import Derived.WideKeyRuns
import Derived.RangeFuncNested
import Derived.RangeFuncBound
import Derived.RangeFuncCalls
import Derived.RangeFuncLeaves
import Derived.Shelf.Abstract
import Derived.Shelf.RegionOpen
import Derived.OwnWalkIn
import Derived.TacticsInMore
import Derived.LoopNIn
import Derived.LoopIn

namespace Go.Proofs.Ytenigkngmdofiaa
open Go.RowKit

def eqC (a b : List Pt) : Bool := decide (a.length = b.length) && allR a.length fun i => (ptAt a i).eqB (ptAt b i)
theorem eqC_iff {a b : List Pt} : eqC a b = true ↔ a = b := by
  unfold eqC
  rw [Bool.and_eq_true, decide_eq_true_eq]
  constructor
  · rintro ⟨h1, h2⟩
    refine List.ext_getElem h1 fun i hi hj => ?_
    have := Pt.eqB_iff.1 (allR_at h2 hi)
    unfold ptAt at this
    simpa [hi, hj] using this
  · rintro rfl
    exact ⟨rfl, allR_good fun j _ => Pt.eqB_iff.2 rfl⟩
theorem eqC_len {a b : List Pt} (h : ¬ a.length = b.length) : eqC a b = false := by rw [eqC, decide_eq_false h]; rfl
theorem eqC_bad {a b : List Pt} {k : Nat} (hk : k < a.length) (h : (ptAt a k).eqB (ptAt b k) = false) : eqC a b = false := by rw [eqC, allR_bad hk h, Bool.and_false]
theorem eqC_good {a b : List Pt} (hl : a.length = b.length) (h : ∀ j, j < a.length → (ptAt a j).eqB (ptAt b j) = true) : eqC a b = true := by rw [eqC, decide_eq_true hl, allR_good h]; rfl
set_option maxHeartbeats 1600000 in
theorem rSameCells_c (A B : Option Addr) (ca cb : Nat) (a b : List Pt) (w : World) (ha : Cells w A ca a) (hb : Cells w B cb b) :
    Calls Try.prog 25 #[.slice A a.length ca, .slice B b.length cb] w fun e w' => e = .returned (.bool (eqC a b)) ∧ Ext w w' := by
  have hl1 : a.length ≤ 9223372036854775807 := by have := ha.len; unfold maxLen at this; omega
  have hl2 : b.length ≤ 9223372036854775807 := by have := hb.len; unfold maxLen at this; omega
  by_cases hlen : a.length = b.length
  rotate_left
  · have Hv := Lib.hid (eqC_len hlen)
    have h1 : ((a.length : Int) != b.length) = true := by rw [bne_iff_ne]; omega
    have h2 : (a.length != b.length) = true := by rw [bne_iff_ne]; omega
    go_enter Try.func25, Try.ntmps25
    go_wp2_with fail
    go_ret
    exact ⟨by rw [Hv.out]; rfl, Ext.refl w⟩
  obtain ⟨n, hn⟩ : ∃ n, a.length = n := ⟨_, rfl⟩
  have hm : b.length = n := by omega
  rw [hn, hm]
  have Hn := Lib.hid hn
  have Hm := Lib.hid hm
  rw [hn] at hl1
  clear hlen hl2 hn hm
  have hne := pt_neq
  go_enter Try.func25, Try.ntmps25
  go_wp2_with fail
  go_loopw [5] (fun i wr => ∃ k : Nat, k ≤ n ∧ i = .int .i64 k ∧ Ext w wr ∧ Hid (∀ j, j < k → (ptAt a j).eqB (ptAt b j) = true)) (fun i _ => n - (intOf i).toNat)
  case atStart => exact ⟨0, by omega, rfl, Ext.refl w, Lib.hid (fun j hj => by omega)⟩
  case round =>
    obtain ⟨k, hk, rfl, E, Hj⟩ := hrel
    by_cases hlt : k < n
    · obtain ⟨g, off, p, rfl, hp, hg, c0, c1, c2⟩ := (ha.ext E).at_ (k := k) (by rw [Hn.out]; exact hlt)
      obtain ⟨g', off', q, rfl, hq, hg', e0, e1, e2⟩ := (hb.ext E).at_ (k := k) (by rw [Hm.out]; exact hlt)
      have Hp := Lib.hid (ptAt_eq hp)
      have Hq := Lib.hid (ptAt_eq hq)
      clear hp hq
      have i1 : (0 : Int) ≤ k := by omega
      have i2 : (k : Int) < n := by omega
      go_upto_region 6 with (fail)
      refine wp_region_grow (by kernel_rfl) (by kernel_rfl) ?_
      repeat (go_big_quiet_step (fail))
      refine wpQuiet_nil ?_
      intro W3 hW3
      have E3 : Ext wr W3 := by
        obtain ⟨x, rfl⟩ := hW3
        exact (Ext.refl _).grow x
      clear hW3
      obtain ⟨hcW3, hfW3, hzW3⟩ := ext_facts E3
      replace E := E.trans E3
      clear hcW3 hfW3 hzW3 E3 c0 c1 c2 e0 e1 e2
      obtain ⟨r, hr⟩ : ∃ r, Pt.eqB ⟨p.x, p.y, p.z⟩ ⟨q.x, q.y, q.z⟩ = r := ⟨_, rfl⟩
      rw [hr]
      have Hr := Lib.hid hr
      clear hr
      cases r
      · have Hv := Lib.hid (eqC_bad (a := a) (b := b) (k := k) (by rw [Hn.out]; exact hlt) (by rw [Hp.out, Hq.out]; exact Hr.out))
        go_wp2_with fail
        go_ret
        exact ⟨by rw [Hv.out]; rfl, E⟩
      · go_wp2_with fail
        go_roundw
        case rel => exact ⟨k + 1, by omega, by go_num, E, Lib.hid (fun j hj => by
          rcases Nat.lt_or_ge j k with h' | h'
          · exact Hj.out j h'
          · obtain rfl : j = k := by omega
            rw [Hp.out, Hq.out]
            exact Hr.out)⟩
        case measure => simp only [intOf]; omega
    · obtain rfl : n = k := by omega
      have Hv := Lib.hid (eqC_good (a := a) (b := b) (by rw [Hn.out, Hm.out]) (by rw [Hn.out]; exact Hj.out))
      go_wp2_with fail
      go_ret
      exact ⟨by rw [Hv.out]; rfl, E⟩
set_option maxHeartbeats 1600000 in
theorem equal_c (A B : Option Addr) (ca cb : Nat) (a b : List Pt) (w : World) (ha : Cells w A ca a) (hb : Cells w B cb b) :
    Calls Try.prog 89 #[.slice A a.length ca, .slice B b.length cb] w fun e w' => e = .returned (.bool (eqC a b)) ∧ Ext w w' := by
  have hl1 : a.length ≤ 9223372036854775807 := by have := ha.len; unfold maxLen at this; omega
  have hl2 : b.length ≤ 9223372036854775807 := by have := hb.len; unfold maxLen at this; omega
  by_cases hlen : a.length = b.length
  rotate_left
  · have Hv := Lib.hid (eqC_len hlen)
    have h1 : ((a.length : Int) != b.length) = true := by rw [bne_iff_ne]; omega
    have h2 : (a.length != b.length) = true := by rw [bne_iff_ne]; omega
    go_enter Try.func89, Try.ntmps89
    go_wp2_with fail
    go_ret
    exact ⟨by rw [Hv.out]; rfl, Ext.refl w⟩
  obtain ⟨n, hn⟩ : ∃ n, a.length = n := ⟨_, rfl⟩
  have hm : b.length = n := by omega
  rw [hn, hm]
  have Hn := Lib.hid hn
  have Hm := Lib.hid hm
  rw [hn] at hl1
  clear hlen hl2 hn hm
  have hne := pt_neq
  go_enter Try.func89, Try.ntmps89
  go_wp2_with fail
  go_loopw [13] (fun i wr => ∃ k : Nat, k ≤ n ∧ i = .int .i64 k ∧ Ext w wr ∧ Hid (∀ j, j < k → (ptAt a j).eqB (ptAt b j) = true)) (fun i _ => n - (intOf i).toNat)
  case atStart => exact ⟨0, by omega, rfl, Ext.refl w, Lib.hid (fun j hj => by omega)⟩
  case round =>
    obtain ⟨k, hk, rfl, E, Hj⟩ := hrel
    by_cases hlt : k < n
    · obtain ⟨g, off, p, rfl, hp, hg, c0, c1, c2⟩ := (ha.ext E).at_ (k := k) (by rw [Hn.out]; exact hlt)
      obtain ⟨g', off', q, rfl, hq, hg', e0, e1, e2⟩ := (hb.ext E).at_ (k := k) (by rw [Hm.out]; exact hlt)
      have Hp := Lib.hid (ptAt_eq hp)
      have Hq := Lib.hid (ptAt_eq hq)
      clear hp hq
      have i1 : (0 : Int) ≤ k := by omega
      have i2 : (k : Int) < n := by omega
      go_upto_region 6 with (fail)
      refine wp_region_grow (by kernel_rfl) (by kernel_rfl) ?_
      repeat (go_big_quiet_step (fail))
      refine wpQuiet_nil ?_
      intro W3 hW3
      have E3 : Ext wr W3 := by
        obtain ⟨x, rfl⟩ := hW3
        exact (Ext.refl _).grow x
      clear hW3
      obtain ⟨hcW3, hfW3, hzW3⟩ := ext_facts E3
      replace E := E.trans E3
      clear hcW3 hfW3 hzW3 E3 c0 c1 c2 e0 e1 e2
      obtain ⟨r, hr⟩ : ∃ r, Pt.eqB ⟨p.x, p.y, p.z⟩ ⟨q.x, q.y, q.z⟩ = r := ⟨_, rfl⟩
      rw [hr]
      have Hr := Lib.hid hr
      clear hr
      cases r
      · have Hv := Lib.hid (eqC_bad (a := a) (b := b) (k := k) (by rw [Hn.out]; exact hlt) (by rw [Hp.out, Hq.out]; exact Hr.out))
        go_wp2_with fail
        go_ret
        exact ⟨by rw [Hv.out]; rfl, E⟩
      · go_wp2_with fail
        go_roundw
        case rel => exact ⟨k + 1, by omega, by go_num, E, Lib.hid (fun j hj => by
          rcases Nat.lt_or_ge j k with h' | h'
          · exact Hj.out j h'
          · obtain rfl : j = k := by omega
            rw [Hp.out, Hq.out]
            exact Hr.out)⟩
        case measure => simp only [intOf]; omega
    · obtain rfl : n = k := by omega
      have Hv := Lib.hid (eqC_good (a := a) (b := b) (by rw [Hn.out, Hm.out]) (by rw [Hn.out]; exact Hj.out))
      go_wp2_with fail
      go_ret
      exact ⟨by rw [Hv.out]; rfl, E⟩

/-! Knobs. -/
def Knb.eqB (a b : Knb) : Bool := a.at_.eqB b.at_ && (a.dir == b.dir && a.sort == b.sort)
theorem Knb.eqB_iff {a b : Knb} : a.eqB b = true ↔ a = b := by
  obtain ⟨p, d, s⟩ := a
  obtain ⟨q, e, t⟩ := b
  unfold Knb.eqB
  simp only [Bool.and_eq_true, beq_iff_eq, Pt.eqB_iff, Knb.mk.injEq]
theorem knb_eql (a b c d e a' b' c' d' e' : Int) (w : World) : (binOp .eql 68 (.agg #[.int .i64 a, .int .i64 b, .int .i64 c, .int .u8 d, .int .u8 e]) (.agg #[.int .i64 a', .int .i64 b', .int .i64 c', .int .u8 d', .int .u8 e'])).run Try.prog w = .ok (.bool (Knb.eqB ⟨⟨a, b, c⟩, d, e⟩ ⟨⟨a', b', c'⟩, d', e'⟩)) w := by
  unfold Knb.eqB Pt.eqB
  by_cases h1 : a = a' <;> by_cases h2 : b = b' <;> by_cases h3 : c = c' <;> by_cases h4 : d = d' <;> by_cases h5 : e = e' <;> simp [go_sem, h1, h2, h3, h4, h5]
theorem knb_neq (a b c d e a' b' c' d' e' : Int) (w : World) : (binOp .neq 68 (.agg #[.int .i64 a, .int .i64 b, .int .i64 c, .int .u8 d, .int .u8 e]) (.agg #[.int .i64 a', .int .i64 b', .int .i64 c', .int .u8 d', .int .u8 e'])).run Try.prog w = .ok (.bool (!Knb.eqB ⟨⟨a, b, c⟩, d, e⟩ ⟨⟨a', b', c'⟩, d', e'⟩)) w := by
  unfold Knb.eqB Pt.eqB
  by_cases h1 : a = a' <;> by_cases h2 : b = b' <;> by_cases h3 : c = c' <;> by_cases h4 : d = d' <;> by_cases h5 : e = e' <;> simp [go_sem, h1, h2, h3, h4, h5]
theorem Knb.eqB_comm (p q : Knb) : p.eqB q = q.eqB p := by rw [Bool.eq_iff_iff, Knb.eqB_iff, Knb.eqB_iff]; exact eq_comm
def hasK (l : List Knb) (p : Knb) : Bool := l.any fun q => q.eqB p
theorem hasK_iff {l : List Knb} {p : Knb} : hasK l p = true ↔ p ∈ l := by
  unfold hasK
  rw [List.any_eq_true]
  exact ⟨fun ⟨q, h, e⟩ => Knb.eqB_iff.1 e ▸ h, fun h => ⟨p, h, Knb.eqB_iff.2 rfl⟩⟩
theorem hasK_drop {l : List Knb} {p q : Knb} {k : Nat} (h : l[k]? = some q) : hasK (l.drop k) p = (q.eqB p || hasK (l.drop (k + 1)) p) := by
  obtain ⟨hk, hn⟩ := List.getElem?_eq_some_iff.1 h
  rw [List.drop_eq_getElem_cons hk, hn]
  rfl
/-- Knobs, of bytes or not. -/
def KnobsR (w : World) (A : Option Addr) (cap : Nat) (l : List Knb) : Prop := SliceIs w A l.length cap 5 (l.map Knb.cs)
theorem KnobsR.ext {w w' : World} {A : Option Addr} {cap : Nat} {l : List Knb} (h : KnobsR w A cap l) (e : Ext w w') : KnobsR w' A cap l := SliceIs.ext h e
theorem KnobsR.len {w : World} {A : Option Addr} {cap : Nat} {l : List Knb} (h : KnobsR w A cap l) : l.length ≤ maxLen := Nat.le_trans h.le h.small
theorem KnobsR.at_ {w : World} {A : Option Addr} {cap : Nat} {l : List Knb} (h : KnobsR w A cap l) {k : Nat} (hk : k < l.length) :
    ∃ b off p, A = some ⟨b, off, none⟩ ∧ l[k]? = some p ∧ b < w.heap.size ∧ w.cell? ⟨b, off + k * 5, none⟩ = some (.int .i64 p.at_.x) ∧ w.cell? ⟨b, off + k * 5 + 1, none⟩ = some (.int .i64 p.at_.y) ∧
      w.cell? ⟨b, off + k * 5 + 2, none⟩ = some (.int .i64 p.at_.z) ∧ w.cell? ⟨b, off + k * 5 + 3, none⟩ = some (.int .u8 p.dir) ∧ w.cell? ⟨b, off + k * 5 + 4, none⟩ = some (.int .u8 p.sort) := by
  obtain ⟨b, off, hA, hb, hc⟩ := SliceIs.cells h (by omega)
  have hget : l[k]? = some l[k] := List.getElem?_eq_getElem hk
  have hr : (l.map Knb.cs)[k]? = some l[k].cs := by rw [List.getElem?_map, hget]; rfl
  exact ⟨b, off, l[k], hA, hget, hb, hc k _ hr 0 _ rfl, hc k _ hr 1 _ rfl, hc k _ hr 2 _ rfl, hc k _ hr 3 _ rfl, hc k _ hr 4 _ rfl⟩
set_option maxHeartbeats 1600000 in
theorem idxK_c (A : Option Addr) (cap : Nat) (l : List Knb) (a b c d e : Int) (w : World) (hs : KnobsR w A cap l) :
    Calls Try.prog 105 #[.slice A l.length cap, .agg #[.int .i64 a, .int .i64 b, .int .i64 c, .int .u8 d, .int .u8 e]] w (IdxIs (hasK l ⟨⟨a, b, c⟩, d, e⟩) w) := by
  have hl : l.length ≤ 9223372036854775807 := by have := hs.len; unfold maxLen at this; omega
  obtain ⟨W1, hW1, E1, B1, hz1⟩ := mk_ w #[.int .i64 a, .int .i64 b, .int .i64 c, .int .u8 d, .int .u8 e] 68
  have heq := knb_eql
  go_enter Try.func105, Try.ntmps105
  go_wp2_with fail
  clear hW1 hz1
  go_loopw [8] (fun i wr => ∃ k : Nat, k ≤ l.length ∧ i = .int .i64 k ∧ Hid (hasK l ⟨⟨a, b, c⟩, d, e⟩ = hasK (l.drop k) ⟨⟨a, b, c⟩, d, e⟩) ∧ Ext w wr ∧ Blk wr w.heap.size 68 #[.int .i64 a, .int .i64 b, .int .i64 c, .int .u8 d, .int .u8 e]) (fun i _ => l.length - (intOf i).toNat)
  case atStart => exact ⟨0, by omega, rfl, Lib.hid rfl, E1, B1⟩
  case round =>
    obtain ⟨k, hk, rfl, Hj, E, B⟩ := hrel
    clear B1 E1
    have b1 := B.cell
    by_cases hlt : k < l.length
    · obtain ⟨g, off, q, rfl, hq, hg, c0, c1, c2, c3, c4⟩ := (hs.ext E).at_ hlt
      have Hd := Lib.hid (hasK_drop (p := ⟨⟨a, b, c⟩, d, e⟩) hq)
      clear hq
      have i1 : (0 : Int) ≤ k := by omega
      have i2 : (k : Int) < l.length := by omega
      go_upto_region 4 with (fail)
      refine wp_region_grow (by kernel_rfl) (by kernel_rfl) ?_
      repeat (go_big_quiet_step (fail))
      refine wpQuiet_nil ?_
      intro W3 hW3
      have E3 : Ext wr W3 := by
        obtain ⟨x, rfl⟩ := hW3
        exact (Ext.refl _).grow x
      clear hW3
      obtain ⟨hcW3, hfW3, hzW3⟩ := ext_facts E3
      replace E := E.trans E3
      replace B := B.ext E3
      clear hcW3 hfW3 hzW3 E3 b1 c0 c1 c2 c3 c4
      obtain ⟨r, hr⟩ : ∃ r, Knb.eqB ⟨⟨a, b, c⟩, d, e⟩ ⟨⟨q.at_.x, q.at_.y, q.at_.z⟩, q.dir, q.sort⟩ = r := ⟨_, rfl⟩
      rw [hr]
      have Hr := Lib.hid hr
      clear hr
      cases r
      · go_wp2_with fail
        go_roundw
        case rel => exact ⟨k + 1, by omega, by go_num, Lib.hid (by rw [Hj.out, Hd.out, Knb.eqB_comm, show Knb.eqB ⟨⟨a, b, c⟩, d, e⟩ q = false from Hr.out]; rfl), E, B⟩
        case measure => simp [intOf]; omega
      · go_wp2_with fail
        go_ret
        exact ⟨k, rfl, by rw [Hj.out, Hd.out, Knb.eqB_comm, show Knb.eqB ⟨⟨a, b, c⟩, d, e⟩ q = true from Hr.out]; simp, E⟩
    · obtain rfl : l.length = k := by omega
      go_wp2_with fail
      go_ret
      exact ⟨-1, rfl, by rw [Hj.out, List.drop_length]; rfl, E⟩
set_option maxHeartbeats 800000 in
theorem containsK_c (A : Option Addr) (cap : Nat) (l : List Knb) (a b c d e : Int) (w : World) (hs : KnobsR w A cap l) :
    Calls Try.prog 90 #[.slice A l.length cap, .agg #[.int .i64 a, .int .i64 b, .int .i64 c, .int .u8 d, .int .u8 e]] w fun v w' => v = .returned (.bool (hasK l ⟨⟨a, b, c⟩, d, e⟩)) ∧ Ext w w' := by
  obtain ⟨W1, hW1, E1, B1, hz1⟩ := mk_ w #[.int .i64 a, .int .i64 b, .int .i64 c, .int .u8 d, .int .u8 e] 68
  have b1 := B1.cell
  go_enter Try.func90, Try.ntmps90
  go_wp2_with fail
  refine (idxK_c A cap l a b c d e _ (hs.ext E1)).mono ?_
  rintro e w2 ⟨v, rfl, hv, E2⟩
  have Hv := Lib.hid hv
  clear hv
  go_wp2_with fail
  go_ret
  exact ⟨by rw [← Hv.out]; rfl, E1.trans E2⟩
/-! SameKnobs. -/
def subK (a b : List Knb) : Bool := allR a.length fun i => hasK b (knbAt a i)
def sameK (a b : List Knb) : Bool := decide (a.length = b.length) && subK a b
theorem subK_iff {a b : List Knb} : subK a b = true ↔ ∀ x ∈ a, x ∈ b := by
  constructor
  · intro h x hx
    obtain ⟨i, hi⟩ := List.getElem?_of_mem hx
    have := allR_at h (List.getElem?_eq_some_iff.1 hi).1
    rwa [knbAt_eq hi, hasK_iff] at this
  · intro h
    exact allR_good fun j hj => by
      rw [hasK_iff, knbAt_eq (List.getElem?_eq_getElem hj)]
      exact h _ (List.getElem_mem hj)
set_option maxRecDepth 100000 in
set_option maxHeartbeats 4000000 in
theorem rSameKnobs_c (A B : Option Addr) (ca cb : Nat) (a b : List Knb) (w : World) (ha : KnobsR w A ca a) (hb : KnobsR w B cb b) :
    Calls Try.prog 91 #[.slice A a.length ca, .slice B b.length cb] w fun e w' => e = .returned (.bool (sameK a b)) ∧ Ext w w' := by
  have hl1 : a.length ≤ 9223372036854775807 := by have := ha.len; unfold maxLen at this; omega
  have hl2 : b.length ≤ 9223372036854775807 := by have := hb.len; unfold maxLen at this; omega
  by_cases hlen : a.length = b.length
  rotate_left
  · have Hv := Lib.hid (show sameK a b = false by rw [sameK, decide_eq_false hlen]; rfl)
    have h1 : ((a.length : Int) != b.length) = true := by rw [bne_iff_ne]; omega
    have h2 : (a.length != b.length) = true := by rw [bne_iff_ne]; omega
    go_enter Try.func91, Try.ntmps91
    go_wp2_with fail
    go_ret
    exact ⟨by rw [Hv.out]; rfl, Ext.refl w⟩
  have Hs := Lib.hid (show sameK a b = subK a b by rw [sameK, decide_eq_true hlen]; rfl)
  obtain ⟨n, hn⟩ : ∃ n, a.length = n := ⟨_, rfl⟩
  have hm : b.length = n := by omega
  rw [hn, hm]
  have Hn := Lib.hid hn
  have Hm := Lib.hid hm
  rw [hn] at hl1
  clear hlen hl2 hn hm
  have heq := knb_eql
  go_enter Try.func91, Try.ntmps91
  go_wp2_with fail
  go_loopw [5] (fun i wr => ∃ k : Nat, k ≤ n ∧ i = .int .i64 k ∧ Ext w wr ∧ Hid (∀ j, j < k → hasK b (knbAt a j) = true)) (fun i _ => n - (intOf i).toNat)
  case atStart => exact ⟨0, by omega, rfl, Ext.refl w, Lib.hid (fun j hj => by omega)⟩
  case round =>
    obtain ⟨k, hk, rfl, E, Hj⟩ := hrel
    by_cases hlt : k < n
    · obtain ⟨g, off, p, rfl, hp, hg, c0, c1, c2, c3, c4⟩ := ha.at_ (k := k) (by rw [Hn.out]; exact hlt)
      have Hp := Lib.hid (knbAt_eq hp)
      have i1 : (0 : Int) ≤ k := by omega
      have i2 : (k : Int) < n := by omega
      obtain ⟨P, hP⟩ : ∃ P : Knb, P = ⟨⟨p.at_.x, p.at_.y, p.at_.z⟩, p.dir, p.sort⟩ := ⟨_, rfl⟩
      have C0 := Lib.hid c0
      have C1 := Lib.hid c1
      have C2 := Lib.hid c2
      have C3 := Lib.hid c3
      have C4 := Lib.hid c4
      clear hp hP P c0 c1 c2 c3 c4
      obtain ⟨wo, rfl⟩ : ∃ wo : World, wo = wr := ⟨_, rfl⟩
      go_wp2_with fail
      go_loopw [6, 7] (fun f i wr => ∃ (m : Nat) (r : Bool), m ≤ n ∧ i = .int .i64 m ∧ f = .bool r ∧ Ext w wr ∧ Hid (hasK b p = (r || hasK (b.drop m) p))) (fun _ i _ => n - (intOf i).toNat)
      case atStart => exact ⟨0, false, by omega, rfl, rfl, E, Lib.hid rfl⟩
      case round =>
        clear E
        obtain ⟨m, r, hm, rfl, rfl, E, Hf⟩ := hrel
        by_cases hlm : m < n
        · obtain ⟨g', off', q, rfl, hq, hg', e0, e1, e2, e3, e4⟩ := (hb.ext E).at_ (k := m) (by rw [Hm.out]; exact hlm)
          have Hd := Lib.hid (hasK_drop (p := p) hq)
          clear hq
          have m1 : (0 : Int) ≤ m := by omega
          have m2 : (m : Int) < n := by omega
          have c0 := E.cell C0.out
          have c1 := E.cell C1.out
          have c2 := E.cell C2.out
          have c3 := E.cell C3.out
          have c4 := E.cell C4.out
          cases r
          · go_upto_region 10 with (fail)
            refine wp_region_grow (by kernel_rfl) (by kernel_rfl) ?_
            repeat (go_big_quiet_step (fail))
            refine wpQuiet_nil ?_
            intro W3 hW3
            have E3 : Ext wr W3 := by
              obtain ⟨x, rfl⟩ := hW3
              exact (Ext.refl _).grow x
            clear hW3
            obtain ⟨hcW3, hfW3, hzW3⟩ := ext_facts E3
            replace E := E.trans E3
            clear hcW3 hfW3 hzW3 E3 e0 e1 e2 e3 e4 c0 c1 c2 c3 c4
            obtain ⟨r, hr⟩ : ∃ r, Knb.eqB ⟨⟨p.at_.x, p.at_.y, p.at_.z⟩, p.dir, p.sort⟩ ⟨⟨q.at_.x, q.at_.y, q.at_.z⟩, q.dir, q.sort⟩ = r := ⟨_, rfl⟩
            rw [hr]
            have Hr := Lib.hid hr
            clear hr
            go_wp2_with fail
            go_roundw
            case rel => exact ⟨m + 1, r, by omega, by go_num, rfl, E, Lib.hid (by rw [Hf.out, Hd.out, Knb.eqB_comm, show Knb.eqB p q = r from Hr.out]; rfl)⟩
            case measure => simp only [intOf]; omega
          · go_upto_region 10 with (fail)
            refine wp_region_grow (by kernel_rfl) (by kernel_rfl) ?_
            repeat (go_big_quiet_step (fail))
            refine wpQuiet_nil ?_
            intro W3 hW3
            have E3 : Ext wr W3 := by
              obtain ⟨x, rfl⟩ := hW3
              exact (Ext.refl _).grow x
            clear hW3
            obtain ⟨hcW3, hfW3, hzW3⟩ := ext_facts E3
            replace E := E.trans E3
            clear hcW3 hfW3 hzW3 E3 e0 e1 e2 e3 e4 c0 c1 c2 c3 c4
            go_wp2_with fail
            go_roundw
            case rel => exact ⟨m + 1, true, by omega, by go_num, rfl, E, Lib.hid (by rw [Hf.out]; rfl)⟩
            case measure => simp only [intOf]; omega
        · obtain rfl : n = m := by omega
          have hf : hasK b p = r := by rw [Hf.out, List.drop_of_length_le (by rw [Hm.out]; exact Nat.le_refl _)]; cases r <;> rfl
          have HF := Lib.hid hf
          clear hf
          cases r
          · have Hv := Lib.hid (show sameK a b = false by rw [Hs.out]; exact allR_bad (k := k) (by rw [Hn.out]; exact hlt) (by rw [Hp.out]; exact HF.out))
            go_wp2_with fail
            go_ret
            exact ⟨by rw [Hv.out]; rfl, E⟩
          · go_wp2_with fail
            go_roundw
            case rel => exact ⟨k + 1, by omega, by go_num, E, Lib.hid (fun j hj => by
              rcases Nat.lt_or_ge j k with h' | h'
              · exact Hj.out j h'
              · obtain rfl : j = k := by omega
                rw [Hp.out]
                exact HF.out)⟩
            case measure => simp only [intOf]; omega
    · obtain rfl : n = k := by omega
      have Hv := Lib.hid (show sameK a b = true by rw [Hs.out]; exact allR_good (by rw [Hn.out]; exact Hj.out))
      go_wp2_with fail
      go_ret
      exact ⟨by rw [Hv.out]; rfl, E⟩
end Go.Proofs.Ytenigkngmdofiaa

namespace Go.Proofs.Ytenigkngmdofiaa
open Go.RowKit

/-! ### lists of pairs -/
section
variable {K V : Type} [DecidableEq K]
/-- Where a key stands, and what it has. -/
def lookAt : List (K × V) → K → Nat → Option (Nat × V)
  | [], _, _ => none
  | p :: m, x, i => if x = p.1 then some (i, p.2) else lookAt m x (i + 1)
def getK : List (K × V) → K → Option V
  | [], _ => none
  | p :: m, x => if x = p.1 then some p.2 else getK m x
def putK : List (K × V) → K → V → List (K × V)
  | [], x, v => [(x, v)]
  | p :: m, x, v => if x = p.1 then (x, v) :: m else p :: putK m x v
theorem getK_putK (m : List (K × V)) (x y : K) (v : V) : getK (putK m x v) y = if y = x then some v else getK m y := by
  induction m with
  | nil => rfl
  | cons p m ih =>
    unfold putK
    by_cases h : x = p.1
    · rw [if_pos h]
      unfold getK
      simp only
      by_cases hy : y = x
      · rw [if_pos hy, if_pos hy]
      · rw [if_neg hy, if_neg hy, if_neg (by rw [← h]; exact hy)]
    · rw [if_neg h]
      unfold getK
      rw [ih]
      by_cases hy : y = p.1
      · rw [if_pos hy, if_pos hy, if_neg (fun e => h (by rw [← e, hy]))]
      · rw [if_neg hy, if_neg hy]
theorem lookAt_getK (m : List (K × V)) (x : K) (i : Nat) : (lookAt m x i).map (·.2) = getK m x := by
  induction m generalizing i with
  | nil => rfl
  | cons p m ih =>
    unfold lookAt getK
    split
    · rfl
    · exact ih _
theorem lookAt_none {m : List (K × V)} {x : K} {i : Nat} (h : lookAt m x i = none) (v : V) : putK m x v = m ++ [(x, v)] := by
  induction m generalizing i with
  | nil => rfl
  | cons p m ih =>
    unfold lookAt at h
    unfold putK
    split at h
    · cases h
    · rename_i hx
      rw [if_neg hx, ih h]
      rfl
theorem lookAt_some {m : List (K × V)} {x : K} {i j : Nat} {u : V} (h : lookAt m x i = some (j, u)) (v : V) : ∃ k, j = i + k ∧ m[k]? = some (x, u) ∧ putK m x v = m.set k (x, v) := by
  induction m generalizing i with
  | nil => cases h
  | cons p m ih =>
    unfold lookAt at h
    unfold putK
    split at h
    · rename_i hx
      cases h
      refine ⟨0, rfl, ?_, ?_⟩
      · rw [hx]
        rfl
      · rw [if_pos hx]
        rfl
    · rename_i hx
      obtain ⟨k, rfl, h1, h2⟩ := ih h
      refine ⟨k + 1, by omega, h1, ?_⟩
      rw [if_neg hx, h2]
      rfl
theorem putK_len (m : List (K × V)) (x : K) (v : V) : (putK m x v).length ≤ m.length + 1 := by
  induction m with
  | nil => exact Nat.le_refl _
  | cons p m ih =>
    unfold putK
    split
    · simp
    · simp only [List.length_cons]
      omega
theorem putK_keys (m : List (K × V)) (x : K) (v : V) (h : (m.map (·.1)).Nodup) : ((putK m x v).map (·.1)).Nodup := by
  cases hl : lookAt m x 0 with
  | none =>
    rw [lookAt_none hl]
    have hx : ∀ (m : List (K × V)) (i : Nat), lookAt m x i = none → x ∉ m.map (·.1) := by
      intro m
      induction m with
      | nil => intro _ _; simp
      | cons p m ih =>
        intro i hi
        unfold lookAt at hi
        split at hi
        · cases hi
        · rename_i hne
          simp only [List.map_cons, List.mem_cons, not_or]
          exact ⟨hne, ih _ hi⟩
    rw [List.map_append, List.nodup_append]
    refine ⟨h, by simp, fun a ha b hb => ?_⟩
    simp only [List.map_cons, List.map_nil, List.mem_singleton] at hb
    rintro rfl
    subst hb
    exact hx m 0 hl ha
  | some r =>
    obtain ⟨j, u⟩ := r
    obtain ⟨k, _, h1, h2⟩ := lookAt_some hl v
    rw [h2]
    have : (m.set k (x, v)).map (·.1) = m.map (·.1) := by
      apply List.ext_getElem?
      intro i
      simp only [List.getElem?_map, List.getElem?_set]
      split
      · subst_vars
        rw [h1]
        split <;> simp_all
      · rfl
    rw [this]
    exact h
end

/-! ### in memory -/
/-- What the walk needs of a type of keys. -/
structure KeyEnc (P : Program) (k : TypeId) {K : Type} [DecidableEq K] (enc : K → Value) : Prop where
  wide : (match P.underlying k with | some (.array _ _) | some (.struct _) => true | _ => false) = true
  eq : ∀ w x y, (Op.equal k (enc x) (enc y)).run P w = .ok (decide (x = y)) w
  check : ∀ w em x, (Instr.checkKey em 10000 k (enc x)).run P w = .ok () w
  same : ∀ x, Instr.sameBits 10000 (enc x) (enc x) = true

section
variable {P : Program} {k : TypeId} {K V : Type} {enc : K → Value} {ev : V → Value}

/-- Block b is a map of these pairs. -/
def MapOf (enc : K → Value) (ev : V → Value) (w : World) (b : Nat) (m : List (K × V)) : Prop :=
  ∃ es clock, w.heap[b]? = some (.map es clock) ∧ es.toList.map (fun e => (e.key, e.val)) = m.map (fun p => (enc p.1, ev p.2)) ∧ (∀ e ∈ es.toList, e.born < clock) ∧ (es.toList.map (·.born)).Nodup

theorem MapOf.lt {w : World} {b : Nat} {m : List (K × V)} (h : MapOf enc ev w b m) : b < w.heap.size := by
  obtain ⟨es, clock, hb, _⟩ := h
  exact (Array.getElem?_eq_some_iff.1 hb).1
theorem MapOf.ext {w w' : World} {b : Nat} {m : List (K × V)} (h : MapOf enc ev w b m) (E : Ext w w') : MapOf enc ev w' b m := by
  have hlt := h.lt
  obtain ⟨es, clock, hb, r⟩ := h
  exact ⟨es, clock, (Below.block E b hlt).trans hb, r⟩
theorem MapOf.grown {w w' : World} {b : Nat} {m : List (K × V)} {row : Option Nat} (h : MapOf enc ev w b m) (g : w.grownBy w' row) (hr : some b ≠ row) : MapOf enc ev w' b m := by
  have hlt := h.lt
  obtain ⟨es, clock, hb, r⟩ := h
  exact ⟨es, clock, (g.block b hlt hr).trans hb, r⟩
theorem MapOf.made (w : World) : MapOf enc ev (w.alloc (.map #[] 0)) w.heap.size ([] : List (K × V)) :=
  ⟨#[], 0, (MapKept.heap_alloc w _).1, rfl, by simp, by simp⟩

/-- A map made: the new world under one name. -/
theorem mapbox_ (enc : K → Value) (ev : V → Value) (w : World) : ∃ W, w.alloc (.map #[] 0) = W ∧ Ext w W ∧ MapOf enc ev W w.heap.size [] ∧ W.heap.size = w.heap.size + 1 :=
  ⟨_, rfl, (Ext.refl w).alloc _, MapOf.made w, by simp⟩
variable [DecidableEq K]
theorem find_run (E : KeyEnc P k enc) (w : World) (x : K) : ∀ (es : List MapEntry) (m : List (K × V)) (i : Nat), es.map (fun e => (e.key, e.val)) = m.map (fun p => (enc p.1, ev p.2)) →
    (Instr.findAsking k (enc x) es i).run P w = .ok ((lookAt m x i).map fun r => (r.1, ev r.2)) w
  | [], [], i, _ => by simp [Instr.findAsking, lookAt]
  | [], p :: m, _, h => by simp at h
  | e :: es, [], _, h => by simp at h
  | e :: es, p :: m, i, h => by
    simp only [List.map_cons, List.cons.injEq, Prod.mk.injEq] at h
    obtain ⟨⟨h1, h2⟩, h3⟩ := h
    have ih := find_run E w x es m (i + 1) h3
    unfold lookAt
    by_cases hx : x = p.1
    · simp [Instr.findAsking, h1, E.eq, hx, h2]
    · simp [Instr.findAsking, h1, E.eq, hx, ih]

theorem lookup_run (E : KeyEnc P k enc) {t e : TypeId} (ht : P.underlying t = some (.map k e)) {w : World} {z : Value} (hz : (zeroValue e).run P w = .ok z w) {b : Nat} {m : List (K × V)} (h : MapOf enc ev w b m) (x : K) (ok : Bool) :
    (Instr.lookup t (.map (some b)) (enc x) ok).run P w = .ok (match getK m x with
      | some v => if ok then .tuple #[ev v, .bool true] else ev v
      | none => if ok then .tuple #[z, .bool false] else z) w := by
  obtain ⟨es, clock, hb, hm, _⟩ := h
  have hf := find_run E w x es.toList m 0 hm
  rw [← run_findKey_eq w E.wide] at hf
  rw [← lookAt_getK m x 0]
  cases hl : lookAt m x 0 with
  | none =>
    rw [hl] at hf
    simp [Instr.lookup, run_underlying ht, MapKept.run_getObj_map hb, E.check, hf, hz, Result.andThen]
  | some r =>
    rw [hl] at hf
    simp [Instr.lookup, run_underlying ht, MapKept.run_getObj_map hb, E.check, hf, Result.andThen]

/-- A store. -/
theorem update_run (E : KeyEnc P k enc) {t e : TypeId} (ht : P.underlying t = some (.map k e)) {w : World} {b : Nat} {m : List (K × V)} (h : MapOf enc ev w b m) (x : K) (v : V) :
    ∃ w', (Instr.mapUpdate t (.map (some b)) (enc x) (ev v)).run P w = .ok () w' ∧ MapOf enc ev w' b (putK m x v) ∧ w.grownBy w' (some b) ∧ w'.heap.size = w.heap.size := by
  obtain ⟨es, clock, hb, hm, hs1, hs2⟩ := h
  have hf := find_run E w x es.toList m 0 hm
  rw [← run_findKey_eq w E.wide] at hf
  have grown : ∀ o, w.grownBy (ChangeMaps.setBlock w b o) (some b) := fun o => ⟨rfl, rfl, rfl, by simp [ChangeMaps.setBlock], fun i _ hi => ChangeMaps.heap_setBlock_other hb _ (fun e => hi (by rw [e]))⟩
  have hsz : ∀ o, (ChangeMaps.setBlock w b o).heap.size = w.heap.size := fun o => by simp [ChangeMaps.setBlock]
  cases hl : lookAt m x 0 with
  | none =>
    rw [hl] at hf
    refine ⟨ChangeMaps.setBlock w b (.map (es.push { key := enc x, val := ev v, born := clock }) (clock + 1)), ?_, ⟨_, _, ChangeMaps.heap_setBlock_same hb _, ?_, ?_, ?_⟩, grown _, hsz _⟩
    · simp [Instr.mapUpdate, run_underlying ht, MapKept.run_getObj_map hb, E.check, hf, MapKept.run_setObj_map _ hb, Result.andThen, ChangeMaps.setBlock]
    · rw [lookAt_none hl]
      simp [hm]
    · intro y hy
      simp only [Array.toList_push, List.mem_append, List.mem_singleton] at hy
      rcases hy with hy | rfl
      · exact Nat.lt_succ_of_lt (hs1 y hy)
      · exact Nat.lt_succ_self _
    · simp only [Array.toList_push, List.map_append, List.map_cons, List.map_nil]
      refine List.nodup_append.2 ⟨hs2, by simp, ?_⟩
      intro a ha b hb
      simp only [List.mem_singleton] at hb
      subst hb
      obtain ⟨y, hy, rfl⟩ := List.mem_map.1 ha
      exact Nat.ne_of_lt (hs1 y hy)
  | some r =>
    obtain ⟨j, u⟩ := r
    rw [hl] at hf
    obtain ⟨j', hj', h1, h2⟩ := lookAt_some hl v
    obtain rfl : j = j' := by omega
    have hlen : es.toList.length = m.length := by
      have := congrArg List.length hm
      simpa using this
    have hjl : j < es.toList.length := by
      rw [hlen]
      exact (List.getElem?_eq_some_iff.1 h1).1
    have hjm : (es.toList.map (fun e => (e.key, e.val)))[j]? = some (enc x, ev u) := by
      rw [hm, List.getElem?_map, h1]
      rfl
    obtain ⟨e0, hej⟩ : ∃ e0, es.toList[j]? = some e0 := ⟨_, List.getElem?_eq_getElem hjl⟩
    have hmem : e0 ∈ es.toList := List.mem_of_getElem? hej
    have hkey : e0.key = enc x := by
      rw [List.getElem?_map, hej] at hjm
      simp only [Option.map_some, Option.some.injEq, Prod.mk.injEq] at hjm
      exact hjm.1
    have hej' : es[j]? = some e0 := by rw [← hej]; simp
    have hlist : (es.modify j (fun e' => { e' with key := enc x, val := ev v })).toList = es.toList.set j { e0 with key := enc x, val := ev v } := by
      rw [Array.toList_modify, ChangeMaps.modify_eq_set _ _ _ _ hej]
    refine ⟨ChangeMaps.setBlock w b (.map (es.modify j (fun e' => { e' with key := enc x, val := ev v })) clock), ?_, ⟨_, _, ChangeMaps.heap_setBlock_same hb _, ?_, ?_, ?_⟩, grown _, hsz _⟩
    · simp [Instr.mapUpdate, run_underlying ht, MapKept.run_getObj_map hb, E.check, hf, hej', hkey, Instr.keyThatStays, E.same, MapKept.run_setObj_map _ hb, Result.andThen, ChangeMaps.setBlock]
    · rw [hlist, h2, List.map_set, List.map_set, hm]
    · intro y hy
      rw [hlist] at hy
      rcases List.mem_or_eq_of_mem_set hy with hy | rfl
      · exact hs1 y hy
      · exact hs1 e0 hmem
    · rw [hlist, List.map_set]
      have : (es.toList.map (·.born)).set j e0.born = es.toList.map (·.born) := by
        apply List.ext_getElem?
        intro i
        rw [List.getElem?_set]
        split
        · rename_i hji
          subst hji
          rw [if_pos (by simpa using hjl), List.getElem?_map, hej]
          rfl
        · rfl
      rw [this]
      exact hs2
/-- A store at the operation. -/
theorem wpList_put (E : KeyEnc P k enc) {w : World} {ops : Array Oper} {rest : List Oper} {o : Oper} {a : Act} {Q : Exit → Act → World → Prop}
    (hg : o.guard = none) (mo xo vo : Operand) (t : TypeId) (hop : o.op = Op.mapUpdate t mo xo vo) (e : TypeId) (ht : P.underlying t = some (.map k e)) (b : Nat) (m : List (K × V)) (x : K) (v : V)
    (hm : a.eval mo = .map (some b)) (hown : MapOf enc ev w b m) (hx : a.eval xo = enc x) (hv : a.eval vo = ev v)
    (hK : ∀ w', MapOf enc ev w' b (putK m x v) → w.grownBy w' (some b) → w'.heap.size = w.heap.size → wpList P ops Q rest (a.put o.dst undef) w') : wpList P ops Q (o :: rest) a w := by
  refine wpList_plain hg fun K' hK' => ?_
  obtain ⟨w', hrun, r1, r2, r3⟩ := update_run E ht hown x v
  unfold Oper.wp
  simp [execOp, hop, hm, hx, hv, hrun, Result.andThen]
  exact hK' _ _ (hK w' r1 r2 r3)
end
end Go.Proofs.Ytenigkngmdofiaa

namespace Go.Proofs.Ytenigkngmdofiaa
open Go.RowKit Go.Shelf
attribute [local go_sem] Oper.semAt_some

theorem ext_grownBy {A B : World} (h : Ext A B) (row : Option Nat) : A.grownBy B row := ⟨h.1, h.2, h.3, h.size, fun k hk _ => h.block k hk⟩
theorem ext_keeps {A B : World} (h : Ext A B) : KeepsOthers A B := ⟨h.size, fun k _ hk _ => (h.block k (Array.getElem?_eq_some_iff.1 hk).1).trans hk⟩

/-- What a turn makes of (1, 2, 3). -/
def p123 : Pt := ⟨1, 2, 3⟩
theorem p123_ok : p123.ok := by
  unfold p123 Pt.ok CB
  simp
def at123 (n : Nat) : Value := .agg #[.int .i64 (turnS p123 n).x, .int .i64 (turnS p123 n).y, .int .i64 (turnS p123 n).z]
abbrev encW (x : Fin 24) : Array Value := #[.int .i64 (x.val : Int), at123 x.val]
/-- The first k of the turns. -/
def upto (k : Nat) : List (Fin 24) := (List.finRange 24).take k
theorem upto_succ {k : Nat} (h : k < 24) : upto (k + 1) = upto k ++ [⟨k, h⟩] := by
  unfold upto
  rw [List.take_add_one]
  simp [h]
theorem upto_len {k : Nat} (h : k ≤ 24) : (upto k).length = k := by
  simp [upto]
  omega

set_option maxRecDepth 100000 in
set_option maxHeartbeats 2000000 in
theorem which1_in (n : Nat) (hn : 1 ≤ n) (l : Nat) (J Jx : List (Fin 24) → World → Prop)
    (hJ : ∀ s A B, J s A → Ext A B → J s B) (Kp : World → World → Prop)
    (hY : ∀ pre x W, J pre W → pre.length < 24 → YieldAt Fence.wide (n - 1) Try.prog l (encW x) W fun e W' =>
      (e = .returned (.bool true) ∧ J (pre ++ [x]) W' ∧ Kp W W') ∨ (e = .returned (.bool false) ∧ Jx (pre ++ [x]) W'))
    (W : World) (h0 : J [] W) :
    CallsIn Fence.wide n Try.prog 82 #[.func (.yield l) #[] #[]] W fun e W' => (∃ v, e = .returned v) ∧
      ((∃ ys, ys = upto 24 ∧ J ys W') ∨ (∃ pre, pre <+: upto 24 ∧ Jx pre W')) := by
  refine callsIn_of_wp Try.func82 rfl trivial ?_ rfl
  simp only [Try.ntmps82, List.size_toArray, List.length_cons, List.length_nil, Nat.reduceAdd, Nat.reduceSub, Array.replicate_succ, Array.replicate_zero, List.push_toArray, List.append_toArray, List.nil_append, List.cons_append]
  gi_wp2
  gi_loopw [3] (fun i wr => ∃ k : Nat, k ≤ 24 ∧ i = .int .i64 k ∧ J (upto k) wr) (fun i _ => 24 - (intOf i).toNat)
  case atStart => exact ⟨0, by omega, rfl, h0⟩
  case round =>
    obtain ⟨k, hk, rfl, hJs⟩ := hrel
    by_cases h : k < 24
    · have hl : (upto k).length < 24 := by rw [upto_len (by omega)]; exact h
      have hi : (k : Int) < 24 := by omega
      have hY' := fun w1 (E : Ext wr w1) => hY (upto k) ⟨k, h⟩ w1 (hJ _ _ _ hJs E) hl
      clear hY
      gi_wp2_with (refine ⟨trivial, ?_⟩; gi_at_call 43; refine (callsIn_wide.2 (turn_c 1 2 3 k _ h p123_ok)).mono ?_; rintro e w1 ⟨rfl, E1⟩; obtain ⟨fn, tmps, assign, body, hy, hR⟩ := hY' w1 E1; dsimp only [encW, at123, p123] at hy)
      refine hR.mono ?_
      rintro e W3 (⟨rfl, hJ3, -⟩ | ⟨rfl, hJx3⟩)
      · gi_wp2
        go_roundw
        case rel => exact ⟨k + 1, by omega, rfl, by rw [upto_succ h]; exact hJ3⟩
        case measure => rw [intOf, intOf]; omega
      · gi_wp2
        refine bodyPost_ret (results_none rfl _ _ _) rfl ?_
        refine ⟨⟨_, rfl⟩, .inr ⟨_, ?_, hJx3⟩⟩
        rw [← upto_succ h]
        exact List.take_prefix_take_left (by omega)
    · obtain rfl : k = 24 := by omega
      gi_wp2
      go_end0
      exact ⟨⟨_, rfl⟩, .inl ⟨_, rfl, hJs⟩⟩

theorem which_stops (n : Nat) (hn : 1 ≤ n) (Kp : World → World → Prop) (w : World) :
    SeqStopsK Fence.wide n Try.prog 82 #[] encW Kp (fun ys => ys = upto 24) (fun pre => pre <+: upto 24) 24 w := fun l J Jx W _ hJ _ hY h0 =>
  which1_in n hn l J Jx (fun s A B hs hE => hJ s A B none hs (ext_grownBy hE none) (fun r e => by cases e)) Kp hY W h0

theorem which_c (w : World) : Calls Try.prog 53 #[] w fun e w' => e = .returned (.func (.func 82) #[] #[]) ∧ w' = w := by
  go_enter Try.func53, Try.ntmps53
  go_wp2
  go_ret
  exact ⟨rfl, rfl⟩
end Go.Proofs.Ytenigkngmdofiaa

namespace Go.Proofs.Ytenigkngmdofiaa
open Go.RowKit

/-- One number in a new block, as a list of numbers. -/
theorem ints1 (w : World) (n : Int) (t : TypeId) : SliceIs (w.alloc (.cells #[.int .i64 n] t)) (some ⟨w.heap.size, 0, none⟩) 1 1 1 ([n].map fun n => [.int .i64 n]) := by
  refine ⟨rfl, Nat.le_refl _, by unfold maxLen; omega, by simp, fun _ => ⟨_, 0, rfl, by simp, fun i r hr j u hu => ?_⟩⟩
  have hi : i = 0 := by
    rcases Nat.eq_zero_or_pos i with h | h
    · exact h
    · rw [List.getElem?_eq_none (by simp; omega)] at hr; cases hr
  subst hi
  simp at hr
  subst hr
  have hj : j = 0 := by
    rcases Nat.eq_zero_or_pos j with h | h
    · exact h
    · rw [List.getElem?_eq_none (by simp; omega)] at hu; cases hu
  subst hj
  simp at hu
  subst hu
  rw [cell_new]
  rfl
theorem isTurn1_c (w : World) (n : Int) (t : TypeId) :
    Calls Try.prog 42 #[.slice (some ⟨w.heap.size, 0, none⟩) 1 1] (w.alloc (.cells #[.int .i64 n] t)) fun e w' => e = .returned (.bool (inB 0 23 n)) ∧ w.alloc (.cells #[.int .i64 n] t) = w' :=
  (isTurn_c _ 1 [n] _ (ints1 w n t)).mono fun e w' ⟨he, hw⟩ => ⟨by rw [he]; simp [allTurn], hw⟩

def turnOk (p : Pt) (n : Int) : Prop := nearB p (-2000) 2000 = true ∧ 0 ≤ n ∧ n < 24
theorem near_ok {p : Pt} (h : nearB p (-2000) 2000 = true) : p.ok := by
  have := nearB_iff.1 h
  unfold Pt.ok CB
  omega

set_option maxHeartbeats 800000 in
theorem Turn_ok (x y z : Int) (n : Nat) (w : World) (hn : n < 24) (hp : nearB ⟨x, y, z⟩ (-2000) 2000 = true) :
    Calls Try.prog 6 #[.agg #[.int .i64 x, .int .i64 y, .int .i64 z], .int .i64 n] w fun e w' =>
      e = .returned (.tuple #[.agg #[.int .i64 (turnS ⟨x, y, z⟩ n).x, .int .i64 (turnS ⟨x, y, z⟩ n).y, .int .i64 (turnS ⟨x, y, z⟩ n).z], .int .i64 0]) ∧ Ext w w' := by
  have hok := near_ok hp
  have hi : inB 0 23 (n : Int) = true := inB_iff.2 (by omega)
  obtain ⟨W, hW, E, ba, bb, hz⟩ := boxes2 w #[.int .i64 x, .int .i64 y, .int .i64 z] #[.int .i64 0, .int .i64 0, .int .i64 0] 23 23
  have B0 : Blk W w.heap.size 23 #[.int .i64 x, .int .i64 y, .int .i64 z] := by rw [← hW]; exact (Blk.new _ _ _).alloc _
  have B1 : Blk W (w.heap.size + 1) 23 #[.int .i64 0, .int .i64 0, .int .i64 0] := by
    rw [← hW]
    have := Blk.new (w.alloc (.cells #[.int .i64 x, .int .i64 y, .int .i64 z] 23)) #[.int .i64 0, .int .i64 0, .int .i64 0] 23
    rwa [World.size_alloc] at this
  go_enter Try.func6, Try.ntmps6
  go_wp2_with fail
  refine (near_c x y z _ _ _).mono ?_
  rintro e w1 ⟨rfl, E1⟩
  go_wp2_with fail
  refine (isTurn1_c w1 n _).mono ?_
  rintro e w2 ⟨rfl, rfl⟩
  have B02 := (B0.ext E1).alloc (.cells #[.int .i64 n] 3)
  have B12 := (B1.ext E1).alloc (.cells #[.int .i64 n] 3)
  have E2 := (E.trans E1).alloc (.cells #[.int .i64 n] 3)
  have c2 := B02.cell
  obtain ⟨w2, hw2⟩ : ∃ w2, w1.alloc (.cells #[.int .i64 n] 3) = w2 := ⟨_, rfl⟩
  rw [hw2] at B02 B12 E2 c2
  go_wp2_with fail
  refine (turn_c x y z n _ hn hok).mono ?_
  rintro e w3 ⟨rfl, E3⟩
  have B13 := B12.ext E3
  have c3 := B13.cell
  have f3 := B13.frozen
  obtain ⟨q, hq⟩ : ∃ q, turnS ⟨x, y, z⟩ n = q := ⟨_, rfl⟩
  rw [hq]
  have Hq := Lib.hid hq
  clear hq
  go_wp2_with fail
  refine bodyPost_ret (v := .tuple #[.agg #[.int .i64 q.x, .int .i64 q.y, .int .i64 q.z], .int .i64 0]) (by simp [results, Try.results6, go_sem, c3]) rfl ⟨by rw [Hq.out], ?_⟩
  exact (((E2.trans E3).setCell (Nat.le_succ _) _).setCell (Nat.le_succ _) _).setCell (Nat.le_succ _) _

set_option maxHeartbeats 800000 in
theorem Turn_bad (x y z n : Int) (w : World) (hb : ¬ turnOk ⟨x, y, z⟩ n) :
    Calls Try.prog 6 #[.agg #[.int .i64 x, .int .i64 y, .int .i64 z], .int .i64 n] w fun e w' =>
      e = .returned (.tuple #[.agg #[.int .i64 0, .int .i64 0, .int .i64 0], .int .i64 2]) ∧ Ext w w' := by
  obtain ⟨W, hW, E, ba, bb, hz⟩ := boxes2 w #[.int .i64 x, .int .i64 y, .int .i64 z] #[.int .i64 0, .int .i64 0, .int .i64 0] 23 23
  have B1 : Blk W (w.heap.size + 1) 23 #[.int .i64 0, .int .i64 0, .int .i64 0] := by
    rw [← hW]
    have := Blk.new (w.alloc (.cells #[.int .i64 x, .int .i64 y, .int .i64 z] 23)) #[.int .i64 0, .int .i64 0, .int .i64 0] 23
    rwa [World.size_alloc] at this
  cases hp : nearB ⟨x, y, z⟩ (-2000) 2000
  · clear hb
    go_enter Try.func6, Try.ntmps6
    go_wp2_with fail
    refine (near_c x y z _ _ _).mono ?_
    rintro e w1 ⟨rfl, E1⟩
    have B12 := B1.ext E1
    have c3 := B12.cell
    have f3 := B12.frozen
    go_wp2_with fail
    refine bodyPost_ret (v := .tuple #[.agg #[.int .i64 0, .int .i64 0, .int .i64 0], .int .i64 2]) (by simp [results, Try.results6, go_sem, c3]) rfl ⟨rfl, ?_⟩
    exact (((E.trans E1).setCell (Nat.le_succ _) _).setCell (Nat.le_succ _) _).setCell (Nat.le_succ _) _
  · have hi : inB 0 23 n = false := inB_not.2 (fun h => hb ⟨hp, h.1, by omega⟩)
    clear hb
    go_enter Try.func6, Try.ntmps6
    go_wp2_with fail
    refine (near_c x y z _ _ _).mono ?_
    rintro e w1 ⟨rfl, E1⟩
    go_wp2_with fail
    refine (isTurn1_c w1 n _).mono ?_
    rintro e w2 ⟨rfl, rfl⟩
    have B12 := (B1.ext E1).alloc (.cells #[.int .i64 n] 3)
    have E2 := (E.trans E1).alloc (.cells #[.int .i64 n] 3)
    obtain ⟨w2, hw2⟩ : ∃ w2, w1.alloc (.cells #[.int .i64 n] 3) = w2 := ⟨_, rfl⟩
    rw [hw2] at B12 E2
    have c3 := B12.cell
    have f3 := B12.frozen
    go_wp2_with fail
    refine bodyPost_ret (v := .tuple #[.agg #[.int .i64 0, .int .i64 0, .int .i64 0], .int .i64 2]) (by simp [results, Try.results6, go_sem, c3]) rfl ⟨rfl, ?_⟩
    exact ((E2.setCell (Nat.le_succ _) _).setCell (Nat.le_succ _) _).setCell (Nat.le_succ _) _

set_option maxHeartbeats 800000 in
theorem rTurn_ok (x y z : Int) (n : Nat) (w : World) (hn : n < 24) (hp : nearB ⟨x, y, z⟩ (-2000) 2000 = true) :
    Calls Try.prog 7 #[.agg #[.int .i64 x, .int .i64 y, .int .i64 z], .int .i64 n] w fun e w' =>
      e = .returned (.tuple #[.agg #[.int .i64 (turnS ⟨x, y, z⟩ n).x, .int .i64 (turnS ⟨x, y, z⟩ n).y, .int .i64 (turnS ⟨x, y, z⟩ n).z], .int .i64 0]) ∧ Ext w w' := by
  have hok := near_ok hp
  have hi : inB 0 23 (n : Int) = true := inB_iff.2 (by omega)
  obtain ⟨W, hW, E, ba, bb, hz⟩ := boxes2 w #[.int .i64 x, .int .i64 y, .int .i64 z] #[.int .i64 0, .int .i64 0, .int .i64 0] 23 23
  have B0 : Blk W w.heap.size 23 #[.int .i64 x, .int .i64 y, .int .i64 z] := by rw [← hW]; exact (Blk.new _ _ _).alloc _
  have B1 : Blk W (w.heap.size + 1) 23 #[.int .i64 0, .int .i64 0, .int .i64 0] := by
    rw [← hW]
    have := Blk.new (w.alloc (.cells #[.int .i64 x, .int .i64 y, .int .i64 z] 23)) #[.int .i64 0, .int .i64 0, .int .i64 0] 23
    rwa [World.size_alloc] at this
  go_enter Try.func7, Try.ntmps7
  go_wp2_with fail
  refine (rnear_c x y z _ _ _).mono ?_
  rintro e w1 ⟨rfl, E1⟩
  go_wp2_with fail
  refine (risTurn_c n _).mono ?_
  rintro e w2 ⟨rfl, rfl⟩
  have B02 := B0.ext E1
  have B12 := B1.ext E1
  have E2 := E.trans E1
  have c2 := B02.cell
  go_wp2_with fail
  refine (turned_c x y z n _ hn hok).mono ?_
  rintro e w3 ⟨rfl, E3⟩
  have B13 := B12.ext E3
  have c3 := B13.cell
  have f3 := B13.frozen
  obtain ⟨q, hq⟩ : ∃ q, turnS ⟨x, y, z⟩ n = q := ⟨_, rfl⟩
  rw [hq]
  have Hq := Lib.hid hq
  clear hq
  go_wp2_with fail
  refine bodyPost_ret (v := .tuple #[.agg #[.int .i64 q.x, .int .i64 q.y, .int .i64 q.z], .int .i64 0]) (by simp [results, Try.results7, go_sem, c3]) rfl ⟨by rw [Hq.out], ?_⟩
  exact (((E2.trans E3).setCell (Nat.le_succ _) _).setCell (Nat.le_succ _) _).setCell (Nat.le_succ _) _

set_option maxHeartbeats 800000 in
theorem rTurn_bad (x y z n : Int) (w : World) (hb : ¬ turnOk ⟨x, y, z⟩ n) :
    Calls Try.prog 7 #[.agg #[.int .i64 x, .int .i64 y, .int .i64 z], .int .i64 n] w fun e w' =>
      e = .returned (.tuple #[.agg #[.int .i64 0, .int .i64 0, .int .i64 0], .int .i64 2]) ∧ Ext w w' := by
  obtain ⟨W, hW, E, ba, bb, hz⟩ := boxes2 w #[.int .i64 x, .int .i64 y, .int .i64 z] #[.int .i64 0, .int .i64 0, .int .i64 0] 23 23
  have B1 : Blk W (w.heap.size + 1) 23 #[.int .i64 0, .int .i64 0, .int .i64 0] := by
    rw [← hW]
    have := Blk.new (w.alloc (.cells #[.int .i64 x, .int .i64 y, .int .i64 z] 23)) #[.int .i64 0, .int .i64 0, .int .i64 0] 23
    rwa [World.size_alloc] at this
  cases hp : nearB ⟨x, y, z⟩ (-2000) 2000
  · clear hb
    go_enter Try.func7, Try.ntmps7
    go_wp2_with fail
    refine (rnear_c x y z _ _ _).mono ?_
    rintro e w1 ⟨rfl, E1⟩
    have B12 := B1.ext E1
    have c3 := B12.cell
    have f3 := B12.frozen
    go_wp2_with fail
    refine bodyPost_ret (v := .tuple #[.agg #[.int .i64 0, .int .i64 0, .int .i64 0], .int .i64 2]) (by simp [results, Try.results7, go_sem, c3]) rfl ⟨rfl, ?_⟩
    exact (((E.trans E1).setCell (Nat.le_succ _) _).setCell (Nat.le_succ _) _).setCell (Nat.le_succ _) _
  · have hi : inB 0 23 n = false := inB_not.2 (fun h => hb ⟨hp, h.1, by omega⟩)
    clear hb
    go_enter Try.func7, Try.ntmps7
    go_wp2_with fail
    refine (rnear_c x y z _ _ _).mono ?_
    rintro e w1 ⟨rfl, E1⟩
    go_wp2_with fail
    refine (risTurn_c n _).mono ?_
    rintro e w2 ⟨rfl, rfl⟩
    have B12 := B1.ext E1
    have E2 := E.trans E1
    have c3 := B12.cell
    have f3 := B12.frozen
    go_wp2_with fail
    refine bodyPost_ret (v := .tuple #[.agg #[.int .i64 0, .int .i64 0, .int .i64 0], .int .i64 2]) (by simp [results, Try.results7, go_sem, c3]) rfl ⟨rfl, ?_⟩
    exact ((E2.setCell (Nat.le_succ _) _).setCell (Nat.le_succ _) _).setCell (Nat.le_succ _) _

/-- Where a turn takes a direction. -/
def dirT (d n : Nat) : Nat := ((List.range 6).find? fun i => (stepS i).eqB (turnS (stepS d) n)).getD 0
theorem dirT_all : ∀ d, d < 6 → ∀ n, n < 24 → (dirT d n < 6 ∧ Pt.eqB (stepS (dirT d n)) (turnS (stepS d) n) = true) := by decide +kernel
theorem dirT_lt {d n : Nat} (hd : d < 6) (hn : n < 24) : dirT d n < 6 := (dirT_all d hd n hn).1
theorem dirT_eq {d n : Nat} (hd : d < 6) (hn : n < 24) : turnS (stepS d) n = stepS (dirT d n) := (Pt.eqB_iff.1 (dirT_all d hd n hn).2).symm

set_option maxHeartbeats 800000 in
theorem Direction_ok (d n : Nat) (w : World) (hd : d < 6) (hn : n < 24) :
    Calls Try.prog 8 #[.int .i64 d, .int .i64 n] w fun e w' => e = .returned (.tuple #[.int .i64 (dirT d n), .int .i64 0]) ∧ Ext w w' := by
  have hi : inB 0 23 (n : Int) = true := inB_iff.2 (by omega)
  have hlt := dirT_lt hd hn
  have He := Lib.hid (dirT_eq hd hn)
  go_enter Try.func8, Try.ntmps8
  go_wp2_with fail
  refine (isTurn1_c w n _).mono ?_
  rintro e w2 ⟨rfl, rfl⟩
  go_wp2_with fail
  refine (step_c d hd _).mono ?_
  rintro e w1 ⟨rfl, E1⟩
  go_wp2_with fail
  refine (turn_c (stepS d).x (stepS d).y (stepS d).z n _ hn (stepS_ok d)).mono ?_
  rintro e w3 ⟨rfl, E3⟩
  rw [show turnS ⟨(stepS d).x, (stepS d).y, (stepS d).z⟩ n = stepS (dirT d n) from He.out]
  go_wp2_with fail
  refine (direction_c _ hlt _).mono ?_
  rintro e w4 ⟨rfl, E4⟩
  go_wp2_with fail
  go_ret2
  exact ⟨rfl, ((((Ext.refl w).alloc _).trans E1).trans E3).trans E4⟩

set_option maxHeartbeats 800000 in
theorem Direction_bad (d n : Int) (w : World) (hb : ¬ ((0 ≤ d ∧ d ≤ 5) ∧ 0 ≤ n ∧ n < 24)) :
    Calls Try.prog 8 #[.int .i64 d, .int .i64 n] w fun e w' => e = .returned (.tuple #[.int .i64 0, .int .i64 2]) ∧ Ext w w' := by
  by_cases h1 : d < 0
  · clear hb
    go_enter Try.func8, Try.ntmps8
    go_wp2_with fail
    go_ret2
    exact ⟨rfl, Ext.refl _⟩
  · by_cases h2 : 5 < d
    · clear hb
      go_enter Try.func8, Try.ntmps8
      go_wp2_with fail
      go_ret2
      exact ⟨rfl, Ext.refl _⟩
    · have hi : inB 0 23 n = false := inB_not.2 (fun h => hb ⟨⟨by omega, by omega⟩, by omega, by omega⟩)
      clear hb
      go_enter Try.func8, Try.ntmps8
      go_wp2_with fail
      refine (isTurn1_c w n _).mono ?_
      rintro e w2 ⟨rfl, rfl⟩
      go_wp2_with fail
      go_ret2
      exact ⟨rfl, by apply_rules [Ext.refl, Ext.alloc]⟩
end Go.Proofs.Ytenigkngmdofiaa

namespace Go.Proofs.Ytenigkngmdofiaa
open Go.RowKit

set_option maxHeartbeats 1600000 in
theorem pointed_c (d n : Nat) (hd : d < 6) (hn : n < 24) (w : World) :
    Calls Try.prog 50 #[.int .i64 d, .int .i64 n] w fun e w' => e = .returned (.int .i64 (dirT d n)) ∧ Ext w w' := by
  have hlt := dirT_lt hd hn
  have He := Lib.hid (dirT_eq hd hn)
  go_enter Try.func50, Try.ntmps50
  go_wp2_with fail
  refine (rstep_c d hd _).mono ?_
  rintro e w1 ⟨rfl, E1⟩
  go_wp2_with fail
  refine (turned_c (stepS d).x (stepS d).y (stepS d).z n _ hn (stepS_ok d)).mono ?_
  rintro e w2 ⟨rfl, E2⟩
  rw [show turnS ⟨(stepS d).x, (stepS d).y, (stepS d).z⟩ n = stepS (dirT d n) from He.out]
  obtain ⟨g, hg⟩ : ∃ g, dirT d n = g := ⟨_, rfl⟩
  have Hg := Lib.hid hg
  rw [hg] at hlt ⊢
  clear hg
  obtain ⟨W, hW, E, ba, hz⟩ := boxes1 w2 #[.int .i64 (stepS g).x, .int .i64 (stepS g).y, .int .i64 (stepS g).z] 23
  have B : Blk W w2.heap.size 23 #[.int .i64 (stepS g).x, .int .i64 (stepS g).y, .int .i64 (stepS g).z] := by rw [← hW]; exact Blk.new _ _ _
  go_wp2_with fail
  go_loopw [6] (fun i wr => ∃ k : Nat, k ≤ g ∧ i = .int .i64 k ∧ Ext W wr) (fun i _ => 6 - (intOf i).toNat)
  case atStart => exact ⟨0, by omega, rfl, Ext.refl _⟩
  case round =>
    obtain ⟨k, hk, rfl, E3⟩ := hrel
    have c := (B.ext E3).cell
    have hq : ∀ w, (binOp .eql 23 (.agg #[.int .i64 (stepS k).x, .int .i64 (stepS k).y, .int .i64 (stepS k).z]) (.agg #[.int .i64 (stepS g).x, .int .i64 (stepS g).y, .int .i64 (stepS g).z])).run Try.prog w = .ok (.bool (decide (k = g))) w := fun w => by
      rw [pt_eql]
      have : Pt.eqB (stepS k) (stepS g) = decide (k = g) := by
        by_cases h : k = g
        · subst h
          simp [Pt.eqB]
        · simp only [h, decide_false]
          rw [Bool.eq_false_iff]
          intro h'
          exact h (stepS_inj (by omega) hlt (Pt.eqB_iff.1 h'))
      exact congrArg (fun b => Result.ok (Value.bool b) w) this
    by_cases hkd : k = g
    · have hkd' : decide (k = g) = true := by simp [hkd]
      simp only [hkd'] at hq
      clear hkd'
      have Hkd := Lib.hid hkd
      clear hkd
      go_wp2
      refine wp_region_grow (by kernel_rfl) (by kernel_rfl) ?_
      repeat (go_big_quiet_step ((go_at_call 81; exact quiet_ext (rstep_c k (by omega) _))))
      refine wpQuiet_nil ?_
      intro W2 hW2
      have E4 : Ext wr W2 := by
        obtain ⟨x, rfl⟩ := hW2
        exact (Ext.refl _).grow x
      clear hW2
      go_wp2
      go_ret
      exact ⟨by rw [Hg.out, Hkd.out]; rfl, ((((E1.trans E2).trans E).trans E3).trans E4)⟩
    · have hkd' : decide (k = g) = false := by simp [hkd]
      simp only [hkd'] at hq
      clear hkd'
      go_wp2
      refine wp_region_grow (by kernel_rfl) (by kernel_rfl) ?_
      repeat (go_big_quiet_step ((go_at_call 81; exact quiet_ext (rstep_c k (by omega) _))))
      refine wpQuiet_nil ?_
      intro W2 hW2
      have E4 : Ext wr W2 := by
        obtain ⟨x, rfl⟩ := hW2
        exact (Ext.refl _).grow x
      clear hW2
      go_wp2
      go_roundw
      case rel => exact ⟨k + 1, by omega, by go_num, E3.trans E4⟩
      case measure => simp [intOf]; omega

set_option maxHeartbeats 800000 in
theorem rDirection_ok (d n : Nat) (w : World) (hd : d < 6) (hn : n < 24) :
    Calls Try.prog 9 #[.int .i64 d, .int .i64 n] w fun e w' => e = .returned (.tuple #[.int .i64 (dirT d n), .int .i64 0]) ∧ Ext w w' := by
  have hi : inB 0 23 (n : Int) = true := inB_iff.2 (by omega)
  have hj : inB 0 5 (d : Int) = true := inB_iff.2 (by omega)
  go_enter Try.func9, Try.ntmps9
  go_wp2_with (first | (go_at_call 49; refine (within_c _ _ _ _).mono ?_; rintro e w' ⟨rfl, rfl⟩) | (go_at_call 45; refine (risTurn_c _ _).mono ?_; rintro e w' ⟨rfl, rfl⟩) | (go_at_call 50; refine (pointed_c d n hd hn _).mono ?_; rintro e w1 ⟨rfl, E1⟩))
  go_ret2
  exact ⟨rfl, E1⟩

set_option maxHeartbeats 800000 in
theorem rDirection_bad (d n : Int) (w : World) (hb : ¬ ((0 ≤ d ∧ d ≤ 5) ∧ 0 ≤ n ∧ n < 24)) :
    Calls Try.prog 9 #[.int .i64 d, .int .i64 n] w fun e w' => e = .returned (.tuple #[.int .i64 0, .int .i64 2]) ∧ Ext w w' := by
  cases hj : inB 0 5 d
  · clear hb
    go_enter Try.func9, Try.ntmps9
    go_wp2_with (first | (go_at_call 49; refine (within_c _ _ _ _).mono ?_; rintro e w' ⟨rfl, rfl⟩))
    go_ret2
    exact ⟨rfl, Ext.refl _⟩
  · have hi : inB 0 23 n = false := inB_not.2 (fun h => hb ⟨inB_iff.1 hj, by omega, by omega⟩)
    clear hb
    go_enter Try.func9, Try.ntmps9
    go_wp2_with (first | (go_at_call 49; refine (within_c _ _ _ _).mono ?_; rintro e w' ⟨rfl, rfl⟩) | (go_at_call 45; refine (risTurn_c _ _).mono ?_; rintro e w' ⟨rfl, rfl⟩))
    go_ret2
    exact ⟨rfl, Ext.refl _⟩

/-- n does what a and then b do, to two cells. -/
def compB (a b n : Nat) : Bool := Pt.eqB (turnS ⟨1, 0, 0⟩ n) (turnS (turnS ⟨1, 0, 0⟩ a) b) && Pt.eqB (turnS ⟨0, 1, 0⟩ n) (turnS (turnS ⟨0, 1, 0⟩ a) b)
/-- The turn that does what a and then b do. -/
def compT (a b : Nat) : Nat := ((List.range 24).find? (compB a b)).getD 0
theorem find_at (f : Nat → Bool) (N k : Nat) (hk : k < N) (h : ∀ j, j < k → f j = false) (hf : f k = true) : (List.range N).find? f = some k := by
  rw [List.find?_range_eq_some]
  exact ⟨hf, List.mem_range.2 hk, fun j hj => by rw [h j hj]; rfl⟩
theorem find_no (f : Nat → Bool) (N : Nat) (h : ∀ j, j < N → f j = false) : (List.range N).find? f = none := by
  rw [List.find?_range_eq_none]
  intro i hi
  rw [h i hi]
  rfl

set_option maxHeartbeats 3200000 in
theorem composed_c (a b : Nat) (ha : a < 24) (hb : b < 24) (w : World) :
    Calls Try.prog 52 #[.int .i64 a, .int .i64 b] w fun e w' => e = .returned (.int .i64 (compT a b)) ∧ Ext w w' := by
  have okX : Pt.ok ⟨1, 0, 0⟩ := by unfold Pt.ok CB; simp
  have okY : Pt.ok ⟨0, 1, 0⟩ := by unfold Pt.ok CB; simp
  have okXa : Pt.ok ⟨(turnS ⟨1, 0, 0⟩ a).x, (turnS ⟨1, 0, 0⟩ a).y, (turnS ⟨1, 0, 0⟩ a).z⟩ := turnS_ok okX a
  have okYa : Pt.ok ⟨(turnS ⟨0, 1, 0⟩ a).x, (turnS ⟨0, 1, 0⟩ a).y, (turnS ⟨0, 1, 0⟩ a).z⟩ := turnS_ok okY a
  obtain ⟨W, hW, E, ba, bb, hz⟩ := boxes2 w #[.int .i64 1, .int .i64 0, .int .i64 0] #[.int .i64 0, .int .i64 1, .int .i64 0] 23 23
  have B0 : Blk W w.heap.size 23 #[.int .i64 1, .int .i64 0, .int .i64 0] := by rw [← hW]; exact (Blk.new _ _ _).alloc _
  have B1 : Blk W (w.heap.size + 1) 23 #[.int .i64 0, .int .i64 1, .int .i64 0] := by
    rw [← hW]
    have := Blk.new (w.alloc (.cells #[.int .i64 1, .int .i64 0, .int .i64 0] 23)) #[.int .i64 0, .int .i64 1, .int .i64 0] 23
    rwa [World.size_alloc] at this
  have HW := Lib.hid hW
  clear ba bb hz hW
  go_enter Try.func52, Try.ntmps52
  go_wp2
  rw [HW.out]
  go_loopw [7] (fun i wr => ∃ k : Nat, k ≤ 24 ∧ i = .int .i64 k ∧ Ext W wr ∧ ∀ j, j < k → compB a b j = false) (fun i _ => 24 - (intOf i).toNat)
  case atStart => exact ⟨0, by omega, rfl, Ext.refl _, fun j hj => by omega⟩
  case round =>
    obtain ⟨k, hk, rfl, E1, hj⟩ := hrel
    have Hj := Lib.hid hj
    clear hj
    have c0 := (B0.ext E1).cell
    have c1 := (B1.ext E1).cell
    by_cases hlt : k < 24
    · cases hX : Pt.eqB (turnS ⟨1, 0, 0⟩ k) (turnS (turnS ⟨1, 0, 0⟩ a) b)
      · have hc : compB a b k = false := by simp [compB, hX]
        have qX : ∀ w, (binOp .eql 23 (.agg #[.int .i64 (turnS ⟨1, 0, 0⟩ k).x, .int .i64 (turnS ⟨1, 0, 0⟩ k).y, .int .i64 (turnS ⟨1, 0, 0⟩ k).z]) (.agg #[.int .i64 (turnS ⟨(turnS ⟨1, 0, 0⟩ a).x, (turnS ⟨1, 0, 0⟩ a).y, (turnS ⟨1, 0, 0⟩ a).z⟩ b).x, .int .i64 (turnS ⟨(turnS ⟨1, 0, 0⟩ a).x, (turnS ⟨1, 0, 0⟩ a).y, (turnS ⟨1, 0, 0⟩ a).z⟩ b).y, .int .i64 (turnS ⟨(turnS ⟨1, 0, 0⟩ a).x, (turnS ⟨1, 0, 0⟩ a).y, (turnS ⟨1, 0, 0⟩ a).z⟩ b).z])).run Try.prog w = .ok (.bool false) w := fun w => (pt_eql _ _ _ _ _ _ w).trans (congrArg (fun q => Result.ok (Value.bool q) w) hX)
        have Hc := Lib.hid hc
        clear hX hc
        go_wp2
        refine wp_region_grow (by kernel_rfl) (by kernel_rfl) ?_
        repeat (go_big_quiet_step ((go_at_call 46; exact quiet_ext (turned_c _ _ _ _ _ (by omega) (by assumption)))))
        refine wpQuiet_nil ?_
        intro W2 hW2
        have E2 : Ext wr W2 := by
          obtain ⟨x, rfl⟩ := hW2
          exact (Ext.refl _).grow x
        clear hW2
        go_wp2
        go_roundw
        case rel =>
          refine ⟨k + 1, by omega, by go_num, E1.trans E2, fun j hj => ?_⟩
          rcases Nat.lt_or_ge j k with h | h
          · exact Hj.out j h
          · obtain rfl : j = k := by omega
            exact Hc.out
        case measure => simp [intOf]; omega
      · have qX : ∀ w, (binOp .eql 23 (.agg #[.int .i64 (turnS ⟨1, 0, 0⟩ k).x, .int .i64 (turnS ⟨1, 0, 0⟩ k).y, .int .i64 (turnS ⟨1, 0, 0⟩ k).z]) (.agg #[.int .i64 (turnS ⟨(turnS ⟨1, 0, 0⟩ a).x, (turnS ⟨1, 0, 0⟩ a).y, (turnS ⟨1, 0, 0⟩ a).z⟩ b).x, .int .i64 (turnS ⟨(turnS ⟨1, 0, 0⟩ a).x, (turnS ⟨1, 0, 0⟩ a).y, (turnS ⟨1, 0, 0⟩ a).z⟩ b).y, .int .i64 (turnS ⟨(turnS ⟨1, 0, 0⟩ a).x, (turnS ⟨1, 0, 0⟩ a).y, (turnS ⟨1, 0, 0⟩ a).z⟩ b).z])).run Try.prog w = .ok (.bool true) w := fun w => (pt_eql _ _ _ _ _ _ w).trans (congrArg (fun q => Result.ok (Value.bool q) w) hX)
        cases hY : Pt.eqB (turnS ⟨0, 1, 0⟩ k) (turnS (turnS ⟨0, 1, 0⟩ a) b)
        · have hc : compB a b k = false := by simp [compB, hY]
          have qY : ∀ w, (binOp .eql 23 (.agg #[.int .i64 (turnS ⟨0, 1, 0⟩ k).x, .int .i64 (turnS ⟨0, 1, 0⟩ k).y, .int .i64 (turnS ⟨0, 1, 0⟩ k).z]) (.agg #[.int .i64 (turnS ⟨(turnS ⟨0, 1, 0⟩ a).x, (turnS ⟨0, 1, 0⟩ a).y, (turnS ⟨0, 1, 0⟩ a).z⟩ b).x, .int .i64 (turnS ⟨(turnS ⟨0, 1, 0⟩ a).x, (turnS ⟨0, 1, 0⟩ a).y, (turnS ⟨0, 1, 0⟩ a).z⟩ b).y, .int .i64 (turnS ⟨(turnS ⟨0, 1, 0⟩ a).x, (turnS ⟨0, 1, 0⟩ a).y, (turnS ⟨0, 1, 0⟩ a).z⟩ b).z])).run Try.prog w = .ok (.bool false) w := fun w => (pt_eql _ _ _ _ _ _ w).trans (congrArg (fun q => Result.ok (Value.bool q) w) hY)
          have Hc := Lib.hid hc
          clear hX hY hc
          go_wp2
          refine wp_region_grow (by kernel_rfl) (by kernel_rfl) ?_
          repeat (go_big_quiet_step ((go_at_call 46; exact quiet_ext (turned_c _ _ _ _ _ (by omega) (by assumption)))))
          refine wpQuiet_nil ?_
          intro W2 hW2
          have E2 : Ext wr W2 := by
            obtain ⟨x, rfl⟩ := hW2
            exact (Ext.refl _).grow x
          clear hW2
          go_wp2
          go_roundw
          case rel =>
            refine ⟨k + 1, by omega, by go_num, E1.trans E2, fun j hj => ?_⟩
            rcases Nat.lt_or_ge j k with h | h
            · exact Hj.out j h
            · obtain rfl : j = k := by omega
              exact Hc.out
          case measure => simp [intOf]; omega
        · have hc : compT a b = k := by
            have : compB a b k = true := by simp [compB, hX, hY]
            rw [compT, find_at _ 24 k hlt Hj.out this]
            rfl
          have qY : ∀ w, (binOp .eql 23 (.agg #[.int .i64 (turnS ⟨0, 1, 0⟩ k).x, .int .i64 (turnS ⟨0, 1, 0⟩ k).y, .int .i64 (turnS ⟨0, 1, 0⟩ k).z]) (.agg #[.int .i64 (turnS ⟨(turnS ⟨0, 1, 0⟩ a).x, (turnS ⟨0, 1, 0⟩ a).y, (turnS ⟨0, 1, 0⟩ a).z⟩ b).x, .int .i64 (turnS ⟨(turnS ⟨0, 1, 0⟩ a).x, (turnS ⟨0, 1, 0⟩ a).y, (turnS ⟨0, 1, 0⟩ a).z⟩ b).y, .int .i64 (turnS ⟨(turnS ⟨0, 1, 0⟩ a).x, (turnS ⟨0, 1, 0⟩ a).y, (turnS ⟨0, 1, 0⟩ a).z⟩ b).z])).run Try.prog w = .ok (.bool true) w := fun w => (pt_eql _ _ _ _ _ _ w).trans (congrArg (fun q => Result.ok (Value.bool q) w) hY)
          have Hc := Lib.hid hc
          clear hX hY hc
          go_wp2
          refine wp_region_grow (by kernel_rfl) (by kernel_rfl) ?_
          repeat (go_big_quiet_step ((go_at_call 46; exact quiet_ext (turned_c _ _ _ _ _ (by omega) (by assumption)))))
          refine wpQuiet_nil ?_
          intro W2 hW2
          have E2 : Ext wr W2 := by
            obtain ⟨x, rfl⟩ := hW2
            exact (Ext.refl _).grow x
          clear hW2
          go_wp2
          go_ret
          exact ⟨by rw [Hc.out]; rfl, (E.trans E1).trans E2⟩
    · obtain rfl : k = 24 := by omega
      have hc : compT a b = 0 := by rw [compT, find_no _ 24 Hj.out]; rfl
      have Hc := Lib.hid hc
      clear hc
      go_wp2
      go_ret
      exact ⟨by rw [Hc.out]; rfl, E.trans E1⟩
end Go.Proofs.Ytenigkngmdofiaa

namespace Go.Proofs.Ytenigkngmdofiaa
open Go.RowKit

/-- The turn that undoes a. -/
def invT (a : Nat) : Nat := ((List.range 24).find? fun n => compT a n == 0).getD 0

set_option maxHeartbeats 800000 in
theorem inverse_c (a : Nat) (ha : a < 24) (w : World) :
    Calls Try.prog 54 #[.int .i64 a] w fun e w' => e = .returned (.int .i64 (invT a)) ∧ Ext w w' := by
  go_enter Try.func54, Try.ntmps54
  go_wp2
  go_loopw [3] (fun i wr => ∃ k : Nat, k ≤ 24 ∧ i = .int .i64 k ∧ Ext w wr ∧ ∀ j, j < k → (compT a j == 0) = false) (fun i _ => 24 - (intOf i).toNat)
  case atStart => exact ⟨0, by omega, rfl, Ext.refl _, fun j hj => by omega⟩
  case round =>
    obtain ⟨k, hk, rfl, E1, hj⟩ := hrel
    have Hj := Lib.hid hj
    clear hj
    by_cases hlt : k < 24
    · by_cases hc : compT a k = 0
      · have hf : invT a = k := by rw [invT, find_at _ 24 k hlt Hj.out (by simp [hc])]; rfl
        have Hf := Lib.hid hf
        have Hc := Lib.hid hc
        clear hf hc
        go_wp2_with (go_at_call 52; refine (composed_c a k ha hlt _).mono ?_; rintro e w1 ⟨rfl, E2⟩; rw [Hc.out])
        go_ret
        exact ⟨by rw [Hf.out]; rfl, E1.trans E2⟩
      · have hz : ((compT a k : Int) == 0) = false := by simp [hc]
        have Hc := Lib.hid hc
        clear hc
        go_wp2_with (go_at_call 52; refine (composed_c a k ha hlt _).mono ?_; rintro e w1 ⟨rfl, E2⟩)
        go_roundw
        case rel =>
          refine ⟨k + 1, by omega, by go_num, E1.trans E2, fun j hj => ?_⟩
          rcases Nat.lt_or_ge j k with h | h
          · exact Hj.out j h
          · obtain rfl : j = k := by omega
            simp [Hc.out]
        case measure => simp [intOf]; omega
    · obtain rfl : k = 24 := by omega
      have hf : invT a = 0 := by rw [invT, find_no _ 24 Hj.out]; rfl
      have Hf := Lib.hid hf
      clear hf
      go_wp2
      go_ret
      exact ⟨by rw [Hf.out]; rfl, E1⟩

set_option maxHeartbeats 400000 in
theorem rInvert_ok (a : Nat) (ha : a < 24) (w : World) :
    Calls Try.prog 13 #[.int .i64 a] w fun e w' => e = .returned (.tuple #[.int .i64 (invT a), .int .i64 0]) ∧ Ext w w' := by
  have hi : inB 0 23 (a : Int) = true := inB_iff.2 (by omega)
  go_enter Try.func13, Try.ntmps13
  go_wp2_with (first | (go_at_call 45; refine (risTurn_c _ _).mono ?_; rintro e w' ⟨rfl, rfl⟩) | (go_at_call 54; refine (inverse_c a ha _).mono ?_; rintro e w1 ⟨rfl, E1⟩))
  go_ret2
  exact ⟨rfl, E1⟩
set_option maxHeartbeats 400000 in
theorem rInvert_bad (a : Int) (ha : ¬ (0 ≤ a ∧ a < 24)) (w : World) :
    Calls Try.prog 13 #[.int .i64 a] w fun e w' => e = .returned (.tuple #[.int .i64 0, .int .i64 2]) ∧ Ext w w' := by
  have hi : inB 0 23 a = false := inB_not.2 (by omega)
  go_enter Try.func13, Try.ntmps13
  go_wp2_with (first | (go_at_call 45; refine (risTurn_c _ _).mono ?_; rintro e w' ⟨rfl, rfl⟩))
  go_ret2
  exact ⟨rfl, Ext.refl _⟩
set_option maxHeartbeats 400000 in
theorem rCompose_ok (a b : Nat) (ha : a < 24) (hb : b < 24) (w : World) :
    Calls Try.prog 11 #[.int .i64 a, .int .i64 b] w fun e w' => e = .returned (.tuple #[.int .i64 (compT a b), .int .i64 0]) ∧ Ext w w' := by
  have hi : inB 0 23 (a : Int) = true := inB_iff.2 (by omega)
  have hj : inB 0 23 (b : Int) = true := inB_iff.2 (by omega)
  go_enter Try.func11, Try.ntmps11
  go_wp2_with (first | (go_at_call 45; refine (risTurn_c _ _).mono ?_; rintro e w' ⟨rfl, rfl⟩) | (go_at_call 52; refine (composed_c a b ha hb _).mono ?_; rintro e w1 ⟨rfl, E1⟩))
  go_ret2
  exact ⟨rfl, E1⟩
set_option maxHeartbeats 400000 in
theorem rCompose_bad (a b : Int) (hb : ¬ ((0 ≤ a ∧ a < 24) ∧ 0 ≤ b ∧ b < 24)) (w : World) :
    Calls Try.prog 11 #[.int .i64 a, .int .i64 b] w fun e w' => e = .returned (.tuple #[.int .i64 0, .int .i64 2]) ∧ Ext w w' := by
  cases hj : inB 0 23 a
  · clear hb
    go_enter Try.func11, Try.ntmps11
    go_wp2_with (first | (go_at_call 45; refine (risTurn_c _ _).mono ?_; rintro e w' ⟨rfl, rfl⟩))
    go_ret2
    exact ⟨rfl, Ext.refl _⟩
  · have hi : inB 0 23 b = false := inB_not.2 (fun h => hb ⟨by have := inB_iff.1 hj; omega, by omega⟩)
    clear hb
    go_enter Try.func11, Try.ntmps11
    go_wp2_with (first | (go_at_call 45; refine (risTurn_c _ _).mono ?_; rintro e w' ⟨rfl, rfl⟩))
    go_ret2
    exact ⟨rfl, Ext.refl _⟩
end Go.Proofs.Ytenigkngmdofiaa
