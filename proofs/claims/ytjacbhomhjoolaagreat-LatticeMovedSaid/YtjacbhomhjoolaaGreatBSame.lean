/- Whether lists are equal (SameCells, slices.Equal, SameInts), whether a list has a knob (slices.Contains), whether lists have the same knobs (SameKnobs). No conditions. like of the reference, walked over contracts of Placed and Knobbed. Conditions: what these contracts ask. SameInts of the reference. No conditions. Kinds that look alike under turns, plain. like of the program. Conditions: the kind is valid, the turns are turns, the place is not far. -/
import Derived.Test.YtjacbhomhjoolaaGreatBOrd
import Derived.Test.YtjacbhomhjoolaaGreatBLib
import Derived.Test.YtjacbhomhjoolaaGreatBRKnob
namespace Go.Proofs.YtjacbhomhjoolaaGreat
open Go.RowKit

def eqC (a b : List Pt) : Bool := decide (a.length = b.length) && allR a.length fun i => (ptAt a i).eqB (ptAt b i)
theorem eqC_iff {a b : List Pt} : eqC a b = true ↔ a = b := by
  unfold eqC
  rw [Bool.and_eq_true, decide_eq_true_eq]
  constructor
  · rintro ⟨h1, h2⟩
    refine List.ext_getElem h1 fun i hi hj => ?_
    have := Pt.eqB_iff.1 (allR_at h2 hi)
    unfold ptAt at this
    simpa [hi, hj] using this
  · rintro rfl
    exact ⟨rfl, allR_good fun j _ => Pt.eqB_iff.2 rfl⟩
theorem eqC_len {a b : List Pt} (h : ¬ a.length = b.length) : eqC a b = false := by rw [eqC, decide_eq_false h]; rfl
theorem eqC_bad {a b : List Pt} {k : Nat} (hk : k < a.length) (h : (ptAt a k).eqB (ptAt b k) = false) : eqC a b = false := by rw [eqC, allR_bad hk h, Bool.and_false]
theorem eqC_good {a b : List Pt} (hl : a.length = b.length) (h : ∀ j, j < a.length → (ptAt a j).eqB (ptAt b j) = true) : eqC a b = true := by rw [eqC, decide_eq_true hl, allR_good h]; rfl
set_option maxHeartbeats 1600000 in
theorem rSameCells_c (A B : Option Addr) (ca cb : Nat) (a b : List Pt) (w : World) (ha : Cells w A ca a) (hb : Cells w B cb b) :
    Calls Tryz.prog 26 #[.slice A a.length ca, .slice B b.length cb] w fun e w' => e = .returned (.bool (eqC a b)) ∧ Ext w w' := by
  have hl1 : a.length ≤ 9223372036854775807 := by have := ha.len; unfold maxLen at this; omega
  have hl2 : b.length ≤ 9223372036854775807 := by have := hb.len; unfold maxLen at this; omega
  by_cases hlen : a.length = b.length
  rotate_left
  · have Hv := Lib.hid (eqC_len hlen)
    have h1 : ((a.length : Int) != b.length) = true := by rw [bne_iff_ne]; omega
    have h2 : (a.length != b.length) = true := by rw [bne_iff_ne]; omega
    go_enter Tryz.func26, Tryz.ntmps26
    go_wp2_with fail
    go_ret
    exact ⟨by rw [Hv.out]; rfl, Ext.refl w⟩
  obtain ⟨n, hn⟩ : ∃ n, a.length = n := ⟨_, rfl⟩
  have hm : b.length = n := by omega
  rw [hn, hm]
  have Hn := Lib.hid hn
  have Hm := Lib.hid hm
  rw [hn] at hl1
  clear hlen hl2 hn hm
  have hne := pt_neq
  go_enter Tryz.func26, Tryz.ntmps26
  go_wp2_with fail
  go_loopw [5] (fun i wr => ∃ k : Nat, k ≤ n ∧ i = .int .i64 k ∧ Ext w wr ∧ Hid (∀ j, j < k → (ptAt a j).eqB (ptAt b j) = true)) (fun i _ => n - (intOf i).toNat)
  case atStart => exact ⟨0, by omega, rfl, Ext.refl w, Lib.hid (fun j hj => by omega)⟩
  case round =>
    obtain ⟨k, hk, rfl, E, Hj⟩ := hrel
    by_cases hlt : k < n
    · obtain ⟨g, off, p, rfl, hp, hg, c0, c1, c2⟩ := (ha.ext E).at_ (k := k) (by rw [Hn.out]; exact hlt)
      obtain ⟨g', off', q, rfl, hq, hg', e0, e1, e2⟩ := (hb.ext E).at_ (k := k) (by rw [Hm.out]; exact hlt)
      have Hp := Lib.hid (ptAt_eq hp)
      have Hq := Lib.hid (ptAt_eq hq)
      clear hp hq
      have i1 : (0 : Int) ≤ k := by omega
      have i2 : (k : Int) < n := by omega
      go_upto_region 6 with (fail)
      refine wp_region_grow (by kernel_rfl) (by kernel_rfl) ?_
      repeat (go_big_quiet_step (fail))
      refine wpQuiet_nil ?_
      intro W3 hW3
      have E3 : Ext wr W3 := by
        obtain ⟨x, rfl⟩ := hW3
        exact (Ext.refl _).grow x
      clear hW3
      obtain ⟨hcW3, hfW3, hzW3⟩ := ext_facts E3
      replace E := E.trans E3
      clear hcW3 hfW3 hzW3 E3 c0 c1 c2 e0 e1 e2
      obtain ⟨r, hr⟩ : ∃ r, Pt.eqB ⟨p.x, p.y, p.z⟩ ⟨q.x, q.y, q.z⟩ = r := ⟨_, rfl⟩
      rw [hr]
      have Hr := Lib.hid hr
      clear hr
      cases r
      · have Hv := Lib.hid (eqC_bad (a := a) (b := b) (k := k) (by rw [Hn.out]; exact hlt) (by rw [Hp.out, Hq.out]; exact Hr.out))
        go_wp2_with fail
        go_ret
        exact ⟨by rw [Hv.out]; rfl, E⟩
      · go_wp2_with fail
        go_roundw
        case rel => exact ⟨k + 1, by omega, by go_num, E, Lib.hid (fun j hj => by
          rcases Nat.lt_or_ge j k with h' | h'
          · exact Hj.out j h'
          · obtain rfl : j = k := by omega
            rw [Hp.out, Hq.out]
            exact Hr.out)⟩
        case measure => simp only [intOf]; omega
    · obtain rfl : n = k := by omega
      have Hv := Lib.hid (eqC_good (a := a) (b := b) (by rw [Hn.out, Hm.out]) (by rw [Hn.out]; exact Hj.out))
      go_wp2_with fail
      go_ret
      exact ⟨by rw [Hv.out]; rfl, E⟩
set_option maxHeartbeats 1600000 in
theorem equal_c (A B : Option Addr) (ca cb : Nat) (a b : List Pt) (w : World) (ha : Cells w A ca a) (hb : Cells w B cb b) :
    Calls Tryz.prog 100 #[.slice A a.length ca, .slice B b.length cb] w fun e w' => e = .returned (.bool (eqC a b)) ∧ Ext w w' := by
  have hl1 : a.length ≤ 9223372036854775807 := by have := ha.len; unfold maxLen at this; omega
  have hl2 : b.length ≤ 9223372036854775807 := by have := hb.len; unfold maxLen at this; omega
  by_cases hlen : a.length = b.length
  rotate_left
  · have Hv := Lib.hid (eqC_len hlen)
    have h1 : ((a.length : Int) != b.length) = true := by rw [bne_iff_ne]; omega
    have h2 : (a.length != b.length) = true := by rw [bne_iff_ne]; omega
    go_enter Tryz.func100, Tryz.ntmps100
    go_wp2_with fail
    go_ret
    exact ⟨by rw [Hv.out]; rfl, Ext.refl w⟩
  obtain ⟨n, hn⟩ : ∃ n, a.length = n := ⟨_, rfl⟩
  have hm : b.length = n := by omega
  rw [hn, hm]
  have Hn := Lib.hid hn
  have Hm := Lib.hid hm
  rw [hn] at hl1
  clear hlen hl2 hn hm
  have hne := pt_neq
  go_enter Tryz.func100, Tryz.ntmps100
  go_wp2_with fail
  go_loopw [13] (fun i wr => ∃ k : Nat, k ≤ n ∧ i = .int .i64 k ∧ Ext w wr ∧ Hid (∀ j, j < k → (ptAt a j).eqB (ptAt b j) = true)) (fun i _ => n - (intOf i).toNat)
  case atStart => exact ⟨0, by omega, rfl, Ext.refl w, Lib.hid (fun j hj => by omega)⟩
  case round =>
    obtain ⟨k, hk, rfl, E, Hj⟩ := hrel
    by_cases hlt : k < n
    · obtain ⟨g, off, p, rfl, hp, hg, c0, c1, c2⟩ := (ha.ext E).at_ (k := k) (by rw [Hn.out]; exact hlt)
      obtain ⟨g', off', q, rfl, hq, hg', e0, e1, e2⟩ := (hb.ext E).at_ (k := k) (by rw [Hm.out]; exact hlt)
      have Hp := Lib.hid (ptAt_eq hp)
      have Hq := Lib.hid (ptAt_eq hq)
      clear hp hq
      have i1 : (0 : Int) ≤ k := by omega
      have i2 : (k : Int) < n := by omega
      go_upto_region 6 with (fail)
      refine wp_region_grow (by kernel_rfl) (by kernel_rfl) ?_
      repeat (go_big_quiet_step (fail))
      refine wpQuiet_nil ?_
      intro W3 hW3
      have E3 : Ext wr W3 := by
        obtain ⟨x, rfl⟩ := hW3
        exact (Ext.refl _).grow x
      clear hW3
      obtain ⟨hcW3, hfW3, hzW3⟩ := ext_facts E3
      replace E := E.trans E3
      clear hcW3 hfW3 hzW3 E3 c0 c1 c2 e0 e1 e2
      obtain ⟨r, hr⟩ : ∃ r, Pt.eqB ⟨p.x, p.y, p.z⟩ ⟨q.x, q.y, q.z⟩ = r := ⟨_, rfl⟩
      rw [hr]
      have Hr := Lib.hid hr
      clear hr
      cases r
      · have Hv := Lib.hid (eqC_bad (a := a) (b := b) (k := k) (by rw [Hn.out]; exact hlt) (by rw [Hp.out, Hq.out]; exact Hr.out))
        go_wp2_with fail
        go_ret
        exact ⟨by rw [Hv.out]; rfl, E⟩
      · go_wp2_with fail
        go_roundw
        case rel => exact ⟨k + 1, by omega, by go_num, E, Lib.hid (fun j hj => by
          rcases Nat.lt_or_ge j k with h' | h'
          · exact Hj.out j h'
          · obtain rfl : j = k := by omega
            rw [Hp.out, Hq.out]
            exact Hr.out)⟩
        case measure => simp only [intOf]; omega
    · obtain rfl : n = k := by omega
      have Hv := Lib.hid (eqC_good (a := a) (b := b) (by rw [Hn.out, Hm.out]) (by rw [Hn.out]; exact Hj.out))
      go_wp2_with fail
      go_ret
      exact ⟨by rw [Hv.out]; rfl, E⟩

/-! Knobs. -/
def Knb.eqB (a b : Knb) : Bool := a.at_.eqB b.at_ && (a.dir == b.dir && a.sort == b.sort)
theorem Knb.eqB_iff {a b : Knb} : a.eqB b = true ↔ a = b := by
  obtain ⟨p, d, s⟩ := a
  obtain ⟨q, e, t⟩ := b
  unfold Knb.eqB
  simp only [Bool.and_eq_true, beq_iff_eq, Pt.eqB_iff, Knb.mk.injEq]
theorem knb_eql (a b c d e a' b' c' d' e' : Int) (w : World) : (binOp .eql 109 (.agg #[.int .i64 a, .int .i64 b, .int .i64 c, .int .u8 d, .int .u8 e]) (.agg #[.int .i64 a', .int .i64 b', .int .i64 c', .int .u8 d', .int .u8 e'])).run Tryz.prog w = .ok (.bool (Knb.eqB ⟨⟨a, b, c⟩, d, e⟩ ⟨⟨a', b', c'⟩, d', e'⟩)) w := by
  unfold Knb.eqB Pt.eqB
  by_cases h1 : a = a' <;> by_cases h2 : b = b' <;> by_cases h3 : c = c' <;> by_cases h4 : d = d' <;> by_cases h5 : e = e' <;> simp [go_sem, h1, h2, h3, h4, h5]
theorem knb_neq (a b c d e a' b' c' d' e' : Int) (w : World) : (binOp .neq 109 (.agg #[.int .i64 a, .int .i64 b, .int .i64 c, .int .u8 d, .int .u8 e]) (.agg #[.int .i64 a', .int .i64 b', .int .i64 c', .int .u8 d', .int .u8 e'])).run Tryz.prog w = .ok (.bool (!Knb.eqB ⟨⟨a, b, c⟩, d, e⟩ ⟨⟨a', b', c'⟩, d', e'⟩)) w := by
  unfold Knb.eqB Pt.eqB
  by_cases h1 : a = a' <;> by_cases h2 : b = b' <;> by_cases h3 : c = c' <;> by_cases h4 : d = d' <;> by_cases h5 : e = e' <;> simp [go_sem, h1, h2, h3, h4, h5]
theorem Knb.eqB_comm (p q : Knb) : p.eqB q = q.eqB p := by rw [Bool.eq_iff_iff, Knb.eqB_iff, Knb.eqB_iff]; exact eq_comm
def hasK (l : List Knb) (p : Knb) : Bool := l.any fun q => q.eqB p
theorem hasK_iff {l : List Knb} {p : Knb} : hasK l p = true ↔ p ∈ l := by
  unfold hasK
  rw [List.any_eq_true]
  exact ⟨fun ⟨q, h, e⟩ => Knb.eqB_iff.1 e ▸ h, fun h => ⟨p, h, Knb.eqB_iff.2 rfl⟩⟩
theorem hasK_drop {l : List Knb} {p q : Knb} {k : Nat} (h : l[k]? = some q) : hasK (l.drop k) p = (q.eqB p || hasK (l.drop (k + 1)) p) := by
  obtain ⟨hk, hn⟩ := List.getElem?_eq_some_iff.1 h
  rw [List.drop_eq_getElem_cons hk, hn]
  rfl
/-- Knobs, of bytes or not. -/
def KnobsR (w : World) (A : Option Addr) (cap : Nat) (l : List Knb) : Prop := SliceIs w A l.length cap 5 (l.map Knb.cs)
theorem KnobsR.ext {w w' : World} {A : Option Addr} {cap : Nat} {l : List Knb} (h : KnobsR w A cap l) (e : Ext w w') : KnobsR w' A cap l := SliceIs.ext h e
theorem KnobsR.len {w : World} {A : Option Addr} {cap : Nat} {l : List Knb} (h : KnobsR w A cap l) : l.length ≤ maxLen := Nat.le_trans h.le h.small
theorem KnobsR.at_ {w : World} {A : Option Addr} {cap : Nat} {l : List Knb} (h : KnobsR w A cap l) {k : Nat} (hk : k < l.length) :
    ∃ b off p, A = some ⟨b, off, none⟩ ∧ l[k]? = some p ∧ b < w.heap.size ∧ w.cell? ⟨b, off + k * 5, none⟩ = some (.int .i64 p.at_.x) ∧ w.cell? ⟨b, off + k * 5 + 1, none⟩ = some (.int .i64 p.at_.y) ∧
      w.cell? ⟨b, off + k * 5 + 2, none⟩ = some (.int .i64 p.at_.z) ∧ w.cell? ⟨b, off + k * 5 + 3, none⟩ = some (.int .u8 p.dir) ∧ w.cell? ⟨b, off + k * 5 + 4, none⟩ = some (.int .u8 p.sort) := by
  obtain ⟨b, off, hA, hb, hc⟩ := SliceIs.cells h (by omega)
  have hget : l[k]? = some l[k] := List.getElem?_eq_getElem hk
  have hr : (l.map Knb.cs)[k]? = some l[k].cs := by rw [List.getElem?_map, hget]; rfl
  exact ⟨b, off, l[k], hA, hget, hb, hc k _ hr 0 _ rfl, hc k _ hr 1 _ rfl, hc k _ hr 2 _ rfl, hc k _ hr 3 _ rfl, hc k _ hr 4 _ rfl⟩
set_option maxHeartbeats 1600000 in
theorem idxK_c (A : Option Addr) (cap : Nat) (l : List Knb) (a b c d e : Int) (w : World) (hs : KnobsR w A cap l) :
    Calls Tryz.prog 122 #[.slice A l.length cap, .agg #[.int .i64 a, .int .i64 b, .int .i64 c, .int .u8 d, .int .u8 e]] w (IdxIs (hasK l ⟨⟨a, b, c⟩, d, e⟩) w) := by
  have hl : l.length ≤ 9223372036854775807 := by have := hs.len; unfold maxLen at this; omega
  obtain ⟨W1, hW1, E1, B1, hz1⟩ := mk_ w #[.int .i64 a, .int .i64 b, .int .i64 c, .int .u8 d, .int .u8 e] 109
  have heq := knb_eql
  go_enter Tryz.func122, Tryz.ntmps122
  go_wp2_with fail
  clear hW1 hz1
  go_loopw [8] (fun i wr => ∃ k : Nat, k ≤ l.length ∧ i = .int .i64 k ∧ Hid (hasK l ⟨⟨a, b, c⟩, d, e⟩ = hasK (l.drop k) ⟨⟨a, b, c⟩, d, e⟩) ∧ Ext w wr ∧ Blk wr w.heap.size 109 #[.int .i64 a, .int .i64 b, .int .i64 c, .int .u8 d, .int .u8 e]) (fun i _ => l.length - (intOf i).toNat)
  case atStart => exact ⟨0, by omega, rfl, Lib.hid rfl, E1, B1⟩
  case round =>
    obtain ⟨k, hk, rfl, Hj, E, B⟩ := hrel
    clear B1 E1
    have b1 := B.cell
    by_cases hlt : k < l.length
    · obtain ⟨g, off, q, rfl, hq, hg, c0, c1, c2, c3, c4⟩ := (hs.ext E).at_ hlt
      have Hd := Lib.hid (hasK_drop (p := ⟨⟨a, b, c⟩, d, e⟩) hq)
      clear hq
      have i1 : (0 : Int) ≤ k := by omega
      have i2 : (k : Int) < l.length := by omega
      go_upto_region 4 with (fail)
      refine wp_region_grow (by kernel_rfl) (by kernel_rfl) ?_
      repeat (go_big_quiet_step (fail))
      refine wpQuiet_nil ?_
      intro W3 hW3
      have E3 : Ext wr W3 := by
        obtain ⟨x, rfl⟩ := hW3
        exact (Ext.refl _).grow x
      clear hW3
      obtain ⟨hcW3, hfW3, hzW3⟩ := ext_facts E3
      replace E := E.trans E3
      replace B := B.ext E3
      clear hcW3 hfW3 hzW3 E3 b1 c0 c1 c2 c3 c4
      obtain ⟨r, hr⟩ : ∃ r, Knb.eqB ⟨⟨a, b, c⟩, d, e⟩ ⟨⟨q.at_.x, q.at_.y, q.at_.z⟩, q.dir, q.sort⟩ = r := ⟨_, rfl⟩
      rw [hr]
      have Hr := Lib.hid hr
      clear hr
      cases r
      · go_wp2_with fail
        go_roundw
        case rel => exact ⟨k + 1, by omega, by go_num, Lib.hid (by rw [Hj.out, Hd.out, Knb.eqB_comm, show Knb.eqB ⟨⟨a, b, c⟩, d, e⟩ q = false from Hr.out]; rfl), E, B⟩
        case measure => simp [intOf]; omega
      · go_wp2_with fail
        go_ret
        exact ⟨k, rfl, by rw [Hj.out, Hd.out, Knb.eqB_comm, show Knb.eqB ⟨⟨a, b, c⟩, d, e⟩ q = true from Hr.out]; simp, E⟩
    · obtain rfl : l.length = k := by omega
      go_wp2_with fail
      go_ret
      exact ⟨-1, rfl, by rw [Hj.out, List.drop_length]; rfl, E⟩
set_option maxHeartbeats 800000 in
theorem containsK_c (A : Option Addr) (cap : Nat) (l : List Knb) (a b c d e : Int) (w : World) (hs : KnobsR w A cap l) :
    Calls Tryz.prog 101 #[.slice A l.length cap, .agg #[.int .i64 a, .int .i64 b, .int .i64 c, .int .u8 d, .int .u8 e]] w fun v w' => v = .returned (.bool (hasK l ⟨⟨a, b, c⟩, d, e⟩)) ∧ Ext w w' := by
  obtain ⟨W1, hW1, E1, B1, hz1⟩ := mk_ w #[.int .i64 a, .int .i64 b, .int .i64 c, .int .u8 d, .int .u8 e] 109
  have b1 := B1.cell
  go_enter Tryz.func101, Tryz.ntmps101
  go_wp2_with fail
  refine (idxK_c A cap l a b c d e _ (hs.ext E1)).mono ?_
  rintro e w2 ⟨v, rfl, hv, E2⟩
  have Hv := Lib.hid hv
  clear hv
  go_wp2_with fail
  go_ret
  exact ⟨by rw [← Hv.out]; rfl, E1.trans E2⟩
/-! SameKnobs. -/
def subK (a b : List Knb) : Bool := allR a.length fun i => hasK b (knbAt a i)
def sameK (a b : List Knb) : Bool := decide (a.length = b.length) && subK a b
theorem subK_iff {a b : List Knb} : subK a b = true ↔ ∀ x ∈ a, x ∈ b := by
  constructor
  · intro h x hx
    obtain ⟨i, hi⟩ := List.getElem?_of_mem hx
    have := allR_at h (List.getElem?_eq_some_iff.1 hi).1
    rwa [knbAt_eq hi, hasK_iff] at this
  · intro h
    exact allR_good fun j hj => by
      rw [hasK_iff, knbAt_eq (List.getElem?_eq_getElem hj)]
      exact h _ (List.getElem_mem hj)
end Go.Proofs.YtjacbhomhjoolaaGreat
namespace Go.Proofs.YtjacbhomhjoolaaGreat
open Go.RowKit

/-- Rows in a block that a slice points to. -/
def RowV (w : World) (v : Value) (n : Nat) (l : List Pt) : Prop := ∃ cp, v = .slice (some ⟨bk v, 0, none⟩) n cp ∧ n ≤ cp ∧ cp ≤ maxLen ∧ RowX w (bk v) 27 (l.map Pt.cs)
theorem RowV.ext {w w' : World} {v : Value} {n : Nat} {l : List Pt} (h : RowV w v n l) (E : Ext w w') : RowV w' v n l := by
  obtain ⟨cp, h1, h2, h3, h4⟩ := h
  exact ⟨cp, h1, h2, h3, h4.ext E⟩
theorem RowV.farB {w w' : World} {v : Value} {n g : Nat} {l : List Pt} (h : RowV w v n l) (hf : ∀ k t cs, k ≠ g → Blk w k t cs → Blk w' k t cs) (hn : bk v ≠ g) : RowV w' v n l := by
  obtain ⟨cp, h1, h2, h3, ex, h4⟩ := h
  exact ⟨cp, h1, h2, h3, ex, hf _ _ _ hn h4⟩
theorem RowX.far {w : World} {g : Nat} {t : TypeId} {rows : List (List Value)} (h : RowX w g t rows) {p : Addr} (hp : g ≠ p.block) (u : Value) : RowX (w.setCell p u) g t rows := by
  obtain ⟨ex, hb⟩ := h
  exact ⟨ex, hb.far hp u⟩
/-- The first row of cells. -/
theorem rowX_cell {w : World} {g : Nat} {l : List Pt} (h : RowX w g 27 (l.map Pt.cs)) (hp : 0 < l.length) : w.cell? ⟨g, 0, none⟩ = some (.int .i64 (ptAt l 0).x) ∧ w.cell? ⟨g, 1, none⟩ = some (.int .i64 (ptAt l 0).y) ∧ w.cell? ⟨g, 2, none⟩ = some (.int .i64 (ptAt l 0).z) := by
  have h0 : l[0]? = some (ptAt l 0) := by
    rw [ptAt_eq (List.getElem?_eq_getElem hp)]
    exact List.getElem?_eq_getElem hp
  have hr : (l.map Pt.cs)[0]? = some (Pt.cs (ptAt l 0)) := by
    rw [List.getElem?_map, h0]
    rfl
  have hw : ∀ r ∈ l.map Pt.cs, r.length = 3 := fun r h => by
    obtain ⟨p, _, rfl⟩ := List.mem_map.1 h
    rfl
  have a0 := h.cell hw hr (j := 0) rfl
  have a1 := h.cell hw hr (j := 1) rfl
  have a2 := h.cell hw hr (j := 2) rfl
  simp only [Nat.zero_mul, Nat.zero_add] at a0 a1 a2
  exact ⟨a0, a1, a2⟩
theorem pts_wide' (l : List Pt) : ∀ r ∈ l.map Pt.cs, r.length = 3 := fun r h => by
  obtain ⟨p, _, rfl⟩ := List.mem_map.1 h
  rfl
theorem set6' {W w : World} {g : Nat} {t : TypeId} {a b c d e f : Value} (v1 v2 v3 v4 v5 v6 : Value) (h : Blk W g t #[a, b, c, d, e, f]) (E : Ext w W) (hg : w.heap.size ≤ g) :
    ∃ V, (((((W.setCell ⟨g, 0, none⟩ v1).setCell ⟨g, 1, none⟩ v2).setCell ⟨g, 2, none⟩ v3).setCell ⟨g, 3, none⟩ v4).setCell ⟨g, 4, none⟩ v5).setCell ⟨g, 5, none⟩ v6 = V ∧ Blk V g t #[v1, v2, v3, v4, v5, v6] ∧ Ext w V :=
  ⟨_, rfl, (((((h.set_ 0 v1).set_ 1 v2).set_ 2 v3).set_ 3 v4).set_ 4 v5).set_ 5 v6, (((((E.setCell hg v1).setCell hg v2).setCell hg v3).setCell hg v4).setCell hg v5).setCell hg v6⟩
def ptV (p : Pt) : Value := .agg #[.int .i64 p.x, .int .i64 p.y, .int .i64 p.z]
def ptC (p : Pt) : Array Value := #[.int .i64 p.x, .int .i64 p.y, .int .i64 p.z]
/-- What is known in the region that takes the first cells. -/
structure Lk2 (W0 : World) (vQ v1 v6 : Value) (n : Nat) (L1 L2 : List Pt) (L : Nat → Bool) (us : Nat → Value) (w : World) : Prop where
  o : Owns [2, 7, 10, 11] W0 L us w
  f0 : L 0 = true → us 0 = vQ
  f1 : L 1 = true → us 1 = v1
  f2 : L 2 = true → RowV w (us 2) n L2
  f3 : L 3 = true → us 3 = .pointer (some ⟨bk (us 2), 0, none⟩)
  f4 : L 4 = true → us 4 = ptV (ptAt L2 0)
  f5 : L 5 = true → us 5 = vQ
  f6 : L 6 = true → us 6 = v6
  f7 : L 7 = true → RowV w (us 7) n L1
  f8 : L 8 = true → us 8 = .pointer (some ⟨bk (us 7), 0, none⟩)
  f9 : L 9 = true → us 9 = ptV (ptAt L1 0)
  f10 : L 10 = true → us 10 = .pointer (some ⟨bk (us 10), 0, none⟩)
  g10 : L 10 = true → L 12 = false → Blk w (bk (us 10)) 27 (ptC ⟨0, 0, 0⟩)
  f11 : L 11 = true → us 11 = .pointer (some ⟨bk (us 11), 0, none⟩)
  g11 : L 11 = true → L 13 = false → Blk w (bk (us 11)) 27 (ptC ⟨0, 0, 0⟩)
  f12 : L 12 = true → Blk w (bk (us 10)) 27 (ptC (ptAt L2 0))
  f13 : L 13 = true → Blk w (bk (us 11)) 27 (ptC (ptAt L1 0))
/-- Knobs that a slice points to. -/
def KV (w : World) (v : Value) (n : Nat) (l : List Knb) : Prop := ∃ A cp, v = .slice A n cp ∧ SliceIs w A n cp 5 (l.map Knb.cs)
theorem KV.ext {w w' : World} {v : Value} {n : Nat} {l : List Knb} (h : KV w v n l) (E : Ext w w') : KV w' v n l := by
  obtain ⟨A, cp, h1, h2⟩ := h
  exact ⟨A, cp, h1, h2.ext E⟩
/-- What is known in the region that compares. -/
structure Lk4 (w0 W5 : World) (S : Nat) (vQ vC vB : Value) (aC : Array Value) (n1 n2 : Nat) (L1 L3 : List Pt) (K1 K2 : List Knb) (r s : Bool) (L : Nat → Bool) (us : Nat → Value) (w : World) : Prop where
  e : Ext w0 w
  x : L 17 = false → Ext W5 w
  f0 : L 0 = true → us 0 = vC
  f1 : L 1 = true → us 1 = vQ
  f2 : L 2 = true → us 2 = vC
  f3 : L 3 = true → L 17 = false → RowV w (us 3) n1 L3
  f4 : L 4 = true → us 4 = vQ
  f5 : L 5 = true → us 5 = vB
  f6 : L 6 = true → L 17 = false → RowV w (us 6) n1 L1
  f7 : L 7 = true → us 7 = .bool r
  f8 : L 8 = true → us 8 = .bool r
  f9 : L 9 = true → r = true → us 9 = vQ
  f10 : L 10 = true → r = true → us 10 = vC
  f11 : L 11 = true → r = true → L 17 = false → KV w (us 11) n2 K2
  f12 : L 12 = true → r = true → us 12 = vQ
  f13 : L 13 = true → r = true → us 13 = vB
  f14 : L 14 = true → r = true → L 17 = false → KV w (us 14) n2 K1
  f15 : L 15 = true → r = true → us 15 = .bool s
  f16 : L 16 = true → us 16 = .bool (r && s)
  f17 : L 17 = true → Blk w (S + 1) 51 aC
  f18 : L 18 = true → us 18 = .bool (r && s)
/-- The posts of Placed and Knobbed. -/
def RCP (l : List Pt) (n : Nat) (w : World) (e : Ending) (w' : World) : Prop := ∃ g cap, w.heap.size ≤ g ∧ e = .returned (.slice (some ⟨g, 0, none⟩) n cap) ∧ n ≤ cap ∧ cap ≤ maxLen ∧ RowX w' g 27 (l.map Pt.cs) ∧ Ext w w'
def RKP (l : List Knb) (n : Nat) (w : World) (e : Ending) (w' : World) : Prop := ∃ A cap, e = .returned (.slice A n cap) ∧ SliceIs w' A n cap 5 (l.map Knb.cs) ∧ (∀ q, A = some q → w.heap.size ≤ q.block) ∧ Ext w w'
end Go.Proofs.YtjacbhomhjoolaaGreat
namespace Go.Proofs.YtjacbhomhjoolaaGreat
open Go.RowKit

def IntsZ (w : World) (A : Option Addr) (cap : Nat) (l : List Int) : Prop := SliceIs w A l.length cap 1 (l.map fun n => [.int .i64 n])
theorem IntsZ.ext {w w' : World} {A : Option Addr} {cap : Nat} {l : List Int} (h : IntsZ w A cap l) (e : Ext w w') : IntsZ w' A cap l := SliceIs.ext h e
theorem IntsZ.len {w : World} {A : Option Addr} {cap : Nat} {l : List Int} (h : IntsZ w A cap l) : l.length ≤ maxLen := Nat.le_trans h.le h.small
theorem IntsZ.at_ {w : World} {A : Option Addr} {cap : Nat} {l : List Int} (h : IntsZ w A cap l) {k : Nat} (hk : k < l.length) :
    ∃ b off p, A = some ⟨b, off, none⟩ ∧ l[k]? = some p ∧ b < w.heap.size ∧ w.cell? ⟨b, off + k, none⟩ = some (.int .i64 p) := by
  obtain ⟨b, off, hA, hb, hc⟩ := SliceIs.cells h (by omega)
  have hget : l[k]? = some l[k] := List.getElem?_eq_getElem hk
  have hr : (l.map fun n => [Value.int .i64 n])[k]? = some [.int .i64 l[k]] := by rw [List.getElem?_map, hget]; rfl
  have := hc k _ hr 0 _ rfl
  rw [Nat.mul_one, Nat.add_zero] at this
  exact ⟨b, off, l[k], hA, hget, hb, this⟩
def intAt (l : List Int) (k : Nat) : Int := l.getD k 0
theorem intAt_eq {l : List Int} {k : Nat} {p : Int} (h : l[k]? = some p) : intAt l k = p := by simp [intAt, h]
def eqI (a b : List Int) : Bool := decide (a.length = b.length) && allR a.length fun i => intAt a i == intAt b i
theorem eqI_iff {a b : List Int} : eqI a b = true ↔ a = b := by
  unfold eqI
  rw [Bool.and_eq_true, decide_eq_true_eq]
  constructor
  · rintro ⟨h1, h2⟩
    refine List.ext_getElem h1 fun i hi hj => ?_
    have := allR_at h2 hi
    unfold intAt at this
    simpa [hi, hj] using this
  · rintro rfl
    exact ⟨rfl, allR_good fun j _ => by simp⟩
theorem eqI_len {a b : List Int} (h : ¬ a.length = b.length) : eqI a b = false := by rw [eqI, decide_eq_false h]; rfl
theorem eqI_bad {a b : List Int} {k : Nat} (hk : k < a.length) (h : (intAt a k == intAt b k) = false) : eqI a b = false := by rw [eqI, allR_bad hk h, Bool.and_false]
theorem eqI_good {a b : List Int} (hl : a.length = b.length) (h : ∀ j, j < a.length → (intAt a j == intAt b j) = true) : eqI a b = true := by rw [eqI, decide_eq_true hl, allR_good h]; rfl
set_option maxHeartbeats 1600000 in
theorem rSameInts_c (A B : Option Addr) (ca cb : Nat) (a b : List Int) (w : World) (ha : IntsZ w A ca a) (hb : IntsZ w B cb b) :
    Calls Tryz.prog 20 #[.slice A a.length ca, .slice B b.length cb] w fun e w' => e = .returned (.bool (eqI a b)) ∧ Ext w w' := by
  have hl1 : a.length ≤ 9223372036854775807 := by have := ha.len; unfold maxLen at this; omega
  have hl2 : b.length ≤ 9223372036854775807 := by have := hb.len; unfold maxLen at this; omega
  by_cases hlen : a.length = b.length
  rotate_left
  · have Hv := Lib.hid (eqI_len hlen)
    have h1 : ((a.length : Int) != b.length) = true := by rw [bne_iff_ne]; omega
    have h2 : (a.length != b.length) = true := by rw [bne_iff_ne]; omega
    go_enter Tryz.func20, Tryz.ntmps20
    go_wp2_with fail
    go_ret
    exact ⟨by rw [Hv.out]; rfl, Ext.refl w⟩
  obtain ⟨n, hn⟩ : ∃ n, a.length = n := ⟨_, rfl⟩
  have hm : b.length = n := by omega
  rw [hn, hm]
  have Hn := Lib.hid hn
  have Hm := Lib.hid hm
  rw [hn] at hl1
  clear hlen hl2 hn hm
  go_enter Tryz.func20, Tryz.ntmps20
  go_wp2_with fail
  go_loopw [5] (fun i wr => ∃ k : Nat, k ≤ n ∧ i = .int .i64 k ∧ Ext w wr ∧ Hid (∀ j, j < k → (intAt a j == intAt b j) = true)) (fun i _ => n - (intOf i).toNat)
  case atStart => exact ⟨0, by omega, rfl, Ext.refl w, Lib.hid (fun j hj => by omega)⟩
  case round =>
    obtain ⟨k, hk, rfl, E, Hj⟩ := hrel
    by_cases hlt : k < n
    · obtain ⟨g, off, p, rfl, hp, hg, c0⟩ := (ha.ext E).at_ (k := k) (by rw [Hn.out]; exact hlt)
      obtain ⟨g', off', q, rfl, hq, hg', e0⟩ := (hb.ext E).at_ (k := k) (by rw [Hm.out]; exact hlt)
      have Hp := Lib.hid (intAt_eq hp)
      have Hq := Lib.hid (intAt_eq hq)
      clear hp hq
      have i1 : (0 : Int) ≤ k := by omega
      have i2 : (k : Int) < n := by omega
      go_upto_region 6 with (fail)
      refine wp_region_grow (by kernel_rfl) (by kernel_rfl) ?_
      repeat (go_big_quiet_step (fail))
      refine wpQuiet_nil ?_
      intro W3 hW3
      have E3 : Ext wr W3 := by
        obtain ⟨x, rfl⟩ := hW3
        exact (Ext.refl _).grow x
      clear hW3
      obtain ⟨hcW3, hfW3, hzW3⟩ := ext_facts E3
      replace E := E.trans E3
      clear hcW3 hfW3 hzW3 E3 c0 e0
      by_cases hpq : p = q
      rotate_left
      · have Hr := Lib.hid (show (p == q) = false by simpa using hpq)
        have hb1 : (p != q) = true := by simpa using hpq
        have Hv := Lib.hid (eqI_bad (a := a) (b := b) (k := k) (by rw [Hn.out]; exact hlt) (by rw [Hp.out, Hq.out]; exact Hr.out))
        go_wp2_with fail
        go_ret
        exact ⟨by rw [Hv.out]; rfl, E⟩
      · have Hr := Lib.hid (show (p == q) = true by simpa using hpq)
        have hb1 : (p != q) = false := by simpa using hpq
        clear hpq
        go_wp2_with fail
        go_roundw
        case rel => exact ⟨k + 1, by omega, by go_num, E, Lib.hid (fun j hj => by
          rcases Nat.lt_or_ge j k with h' | h'
          · exact Hj.out j h'
          · obtain rfl : j = k := by omega
            rw [Hp.out, Hq.out]
            exact Hr.out)⟩
        case measure => simp only [intOf]; omega
    · obtain rfl : n = k := by omega
      have Hv := Lib.hid (eqI_good (a := a) (b := b) (by rw [Hn.out, Hm.out]) (by rw [Hn.out]; exact Hj.out))
      go_wp2_with fail
      go_ret
      exact ⟨by rw [Hv.out]; rfl, E⟩
end Go.Proofs.YtjacbhomhjoolaaGreat
namespace Go.Proofs.YtjacbhomhjoolaaGreat
open Go.RowKit

def Pt.in_ (B : Int) (p : Pt) : Prop := (-B ≤ p.x ∧ p.x ≤ B) ∧ (-B ≤ p.y ∧ p.y ≤ B) ∧ (-B ≤ p.z ∧ p.z ≤ B)
theorem Pt.in_.ok {B : Int} {p : Pt} (h : p.in_ B) (hB : B ≤ 1000000) : p.ok := by
  unfold Pt.in_ at h
  unfold Pt.ok CB
  omega
theorem rotZn_in {B : Int} {p : Pt} (h : p.in_ B) : ∀ k, (rotZn p k).in_ B
  | 0 => h
  | k + 1 => by
    have := rotZn_in h k
    unfold Pt.in_ at *
    unfold rotZn rotZ
    simp only
    omega
theorem turnS_in {B : Int} {p : Pt} (h : p.in_ B) (n : Nat) : (turnS p n).in_ B := by
  have := rotZn_in h (n % 4)
  unfold turnS turnQ
  unfold Pt.in_ at *
  split <;> first | omega | (simp only; omega)
theorem addP_in {B C : Int} {p q : Pt} (h : p.in_ B) (k : q.in_ C) : (addP p q).in_ (B + C) := by
  unfold Pt.in_ at *
  unfold addP
  simp only
  omega
theorem subP_in {B C : Int} {p q : Pt} (h : p.in_ B) (k : q.in_ C) : (subP p q).in_ (B + C) := by
  unfold Pt.in_ at *
  unfold subP
  simp only
  omega
theorem near_in {p : Pt} (h : nearB p 0 15 = true) : p.in_ 15 := by
  rw [nearB_iff] at h
  unfold Pt.in_
  omega
theorem near_in' {p : Pt} (h : nearB p (-1000) 1000 = true) : p.in_ 1000 := by
  rw [nearB_iff] at h
  unfold Pt.in_
  omega
/-- What is used of a valid kind. -/
structure Knd.Fine (k : Knd) : Prop where
  pos : 0 < k.cells.length
  len : k.cells.length ≤ 24
  klen : k.knobs.length ≤ 48
  near : ∀ p ∈ k.cells, p.in_ 15
  knob : ∀ x ∈ k.knobs, x.at_.in_ 15 ∧ 0 ≤ x.dir ∧ x.dir ≤ 5
theorem Knd.fine_of {k : Knd} (h : k.valid = true) (hb : ∀ x ∈ k.knobs, x.byte) : k.Fine := by
  unfold Knd.valid at h
  rw [Bool.and_eq_true, Bool.and_eq_true, sized_iff] at h
  obtain ⟨⟨⟨h1, h2⟩, h3, _, _⟩, h6, h7⟩ := h
  have hnear : ∀ p ∈ k.cells, p.in_ 15 := fun p hp => by
    obtain ⟨i, hi⟩ := List.getElem?_of_mem hp
    have := allR_at h6 (List.getElem?_eq_some_iff.1 hi).1
    rw [cellOk, ptAt_eq hi, Bool.and_eq_true] at this
    exact near_in this.1
  refine ⟨h1, h2, h3, hnear, fun x hx => ?_⟩
  obtain ⟨i, hi⟩ := List.getElem?_of_mem hx
  have := allR_at h7 (List.getElem?_eq_some_iff.1 hi).1
  rw [knobOk, knbAt_eq hi, Bool.and_eq_true, Knb.one_iff] at this
  obtain ⟨⟨g1, _, g3, _⟩, _⟩ := this
  exact ⟨hnear _ (hasP_iff.1 g3), (hb x hx).1.1, g1⟩
theorem Knd.Fine.cok {k : Knd} (h : k.Fine) : ∀ p ∈ k.cells, p.ok := fun p hp => (h.near p hp).ok (by omega)
theorem Knd.Fine.kok {k : Knd} (h : k.Fine) : ∀ x ∈ k.knobs, x.fine := fun x hx => ⟨(h.knob x hx).1.ok (by omega), (h.knob x hx).2⟩
def likeAt (k : Knd) (bt : Nat) (p : Pt) (n : Nat) : Pt := subP (ptAt (sortP (placeP k.cells bt p)) 0) (ptAt (sortP (placeP k.cells n ⟨0, 0, 0⟩)) 0)
def likeB (k : Knd) (bt : Nat) (p : Pt) (n : Nat) : Bool := eqC (sortP (placeP k.cells n (likeAt k bt p n))) (sortP (placeP k.cells bt p)) && subK (placeK k.knobs n (likeAt k bt p n)) (placeK k.knobs bt p)
theorem head_in {k : Knd} (h : k.Fine) (n : Nat) {B : Int} {p : Pt} (hp : p.in_ B) : (ptAt (sortP (placeP k.cells n p)) 0).in_ (15 + B) := by
  have hl : (sortP (placeP k.cells n p)).length = k.cells.length := by rw [sortP_len, placeP_len]
  have h0 : (sortP (placeP k.cells n p))[0]? = some ((sortP (placeP k.cells n p))[0]'(by rw [hl]; exact h.pos)) := List.getElem?_eq_getElem _
  rw [ptAt_eq h0]
  have hm := (sortP_perm _).mem_iff.1 (List.mem_of_getElem? h0)
  obtain ⟨c, hc, e⟩ := List.mem_map.1 (show _ ∈ k.cells.map (fun c => addP (turnS c n) p) from hm)
  rw [← e]
  exact addP_in (turnS_in (h.near c hc) n) hp
theorem likeAt_in {k : Knd} (h : k.Fine) (bt n : Nat) {B : Int} {p : Pt} (hp : p.in_ B) : (likeAt k bt p n).in_ (15 + B + 15) := by
  have h0 : (⟨0, 0, 0⟩ : Pt).in_ 0 := by
    unfold Pt.in_
    simp
  have := subP_in (head_in h bt hp) (head_in h n h0)
  unfold Pt.in_ at *
  unfold likeAt
  omega
theorem cells_of_blk {w : World} {g n : Nat} {l : List Pt} (h : Blk w g 27 (ptsA l)) (hn : l.length = n) (hl : n ≤ 100000) : Cells w (some ⟨g, 0, none⟩) n l := by
  have := Blk.slice (rows := l.map Pt.cs) h (pts_wide l) (by rw [List.length_map]; omega)
  rw [List.length_map, hn] at this
  unfold Cells
  rw [hn]
  exact this
theorem knobs_of_blk {w : World} {g n : Nat} {l : List Knb} (h : Blk w g 109 (knbsA l)) (hn : l.length = n) (hl : n ≤ 100000) : KnobsR w (some ⟨g, 0, none⟩) n l := by
  have := Blk.slice (rows := l.map Knb.cs) h (knbs_wide l) (by rw [List.length_map]; omega)
  rw [List.length_map, hn] at this
  unfold KnobsR
  rw [hn]
  exact this
end Go.Proofs.YtjacbhomhjoolaaGreat
namespace Go.Proofs.YtjacbhomhjoolaaGreat
open Go.RowKit

/-- A new block behind a pointer. -/
def NewB (t : TypeId) (cs : Array Value) (w0 : World) (v : Value) (w : World) : Prop := ∃ g, v = .pointer (some ⟨g, 0, none⟩) ∧ w0.heap.size ≤ g ∧ Blk w g t cs ∧ Ext w0 w
theorem pts_cell {w : World} {g : Nat} {l : List Pt} (h : Blk w g 27 (ptsA l)) (hp : 0 < l.length) : w.cell? ⟨g, 0, none⟩ = some (.int .i64 (ptAt l 0).x) ∧ w.cell? ⟨g, 1, none⟩ = some (.int .i64 (ptAt l 0).y) ∧ w.cell? ⟨g, 2, none⟩ = some (.int .i64 (ptAt l 0).z) := by
  have h0 : l[0]? = some (ptAt l 0) := by
    rw [ptAt_eq (List.getElem?_eq_getElem hp)]
    exact List.getElem?_eq_getElem hp
  have hr : (l.map Pt.cs)[0]? = some (Pt.cs (ptAt l 0)) := by
    rw [List.getElem?_map, h0]
    rfl
  have a0 := rowsA_get (pts_wide l) hr (j := 0) rfl
  have a1 := rowsA_get (pts_wide l) hr (j := 1) rfl
  have a2 := rowsA_get (pts_wide l) hr (j := 2) rfl
  simp only [Nat.zero_mul, Nat.zero_add] at a0 a1 a2
  exact ⟨(h.cell 0).trans a0, (h.cell 1).trans a1, (h.cell 2).trans a2⟩
theorem Blk.ext' {w w' : World} {g : Nat} {t : TypeId} {cs : Array Value} (h : Blk w g t cs) (e : Ext w w') : Blk w' g t cs := h.ext e
set_option maxRecDepth 100000 in
set_option maxHeartbeats 16000000 in
theorem like_c (k : Knd) (p : KAt) (w : World) (hk : KindAt w p k) (hf : k.Fine) (bk x y z bc : Int) (bt n : Nat) (hbt : bt < 24) (hn : n < 24) (hp : Pt.in_ 1000 ⟨x, y, z⟩) :
    Calls Tryz.prog 71 #[.agg #[.slice p.A k.cells.length p.ca, .slice p.B k.knobs.length p.cb, .int .i64 k.weight], .agg #[.int .i64 bk, .int .i64 x, .int .i64 y, .int .i64 z, .int .u8 bt, .int .u8 bc], .int .i64 n] w fun e w' =>
      e = .returned (.tuple #[.agg #[.int .i64 (likeAt k bt ⟨x, y, z⟩ n).x, .int .i64 (likeAt k bt ⟨x, y, z⟩ n).y, .int .i64 (likeAt k bt ⟨x, y, z⟩ n).z], .bool (likeB k bt ⟨x, y, z⟩ n)]) ∧ Ext w w' := by
  obtain ⟨A, ca, B, cb⟩ := p
  have hc := hk.c
  have hkn := hk.n
  simp only at hc hkn
  have hcl := hf.len
  have hcp := hf.pos
  have hkl := hf.klen
  have hpok : Pt.ok ⟨x, y, z⟩ := hp.ok (by omega)
  have hat := likeAt_in hf bt n hp
  have hok0 : Pt.ok ⟨0, 0, 0⟩ := by
    unfold Pt.ok CB
    simp
  have hw0 := (head_in hf bt hp).ok (by omega)
  have hf0 : (ptAt (sortP (placeP k.cells n ⟨0, 0, 0⟩)) 0).ok := (head_in hf n (B := 0) (p := ⟨0, 0, 0⟩) (by unfold Pt.in_; simp)).ok (by omega)
  obtain ⟨at_, hate⟩ : ∃ q, likeAt k bt ⟨x, y, z⟩ n = q := ⟨_, rfl⟩
  have hsub : subP (ptAt (sortP (placeP k.cells bt ⟨x, y, z⟩)) 0) (ptAt (sortP (placeP k.cells n ⟨0, 0, 0⟩)) 0) = at_ := hate
  have hlb : likeB k bt ⟨x, y, z⟩ n = (eqC (sortP (placeP k.cells n at_)) (sortP (placeP k.cells bt ⟨x, y, z⟩)) && subK (placeK k.knobs n at_) (placeK k.knobs bt ⟨x, y, z⟩)) := by rw [← hate]; rfl
  rw [hate] at hat ⊢
  have haok : at_.ok := hat.ok (by omega)
  obtain ⟨cells, knobs, wt⟩ := k
  simp only at hc hkn hcl hcp hkl hsub hlb hw0 hf0 ⊢
  have hcok : ∀ q ∈ cells, q.ok := hf.cok
  have hkok : ∀ q ∈ knobs, q.fine := hf.kok
  obtain ⟨n1, hn1⟩ : ∃ m, cells.length = m := ⟨_, rfl⟩
  obtain ⟨n2, hn2⟩ : ∃ m, knobs.length = m := ⟨_, rfl⟩
  obtain ⟨L1, hL1⟩ : ∃ L, sortP (placeP cells bt ⟨x, y, z⟩) = L := ⟨_, rfl⟩
  obtain ⟨L2, hL2⟩ : ∃ L, sortP (placeP cells n ⟨0, 0, 0⟩) = L := ⟨_, rfl⟩
  obtain ⟨L3, hL3⟩ : ∃ L, sortP (placeP cells n at_) = L := ⟨_, rfl⟩
  obtain ⟨K1, hK1⟩ : ∃ L, placeK knobs bt ⟨x, y, z⟩ = L := ⟨_, rfl⟩
  obtain ⟨K2, hK2⟩ : ∃ L, placeK knobs n at_ = L := ⟨_, rfl⟩
  have l1 : L1.length = n1 := by rw [← hL1, sortP_len, placeP_len, hn1]
  have l2 : L2.length = n1 := by rw [← hL2, sortP_len, placeP_len, hn1]
  have l3 : L3.length = n1 := by rw [← hL3, sortP_len, placeP_len, hn1]
  have m1 : K1.length = n2 := by rw [← hK1, placeK_len, hn2]
  have m2 : K2.length = n2 := by rw [← hK2, placeK_len, hn2]
  rw [hL1, hL2] at hsub
  rw [hL1, hL3, hK1, hK2] at hlb
  rw [hL1] at hw0
  rw [hL2] at hf0
  have cC : ∀ (W : World) (m : Nat) (a b c : Int) (L : List Pt), Ext w W → m < 24 → Pt.ok ⟨a, b, c⟩ → sortP (placeP cells m ⟨a, b, c⟩) = L → Calls Tryz.prog 53 #[.agg #[.slice A n1 ca, .slice B n2 cb, .int .i64 wt], .int .i64 m, .agg #[.int .i64 a, .int .i64 b, .int .i64 c]] W (CellsPost L n1 W) := fun W m a b c L EW hm hq hL => by
    subst hL hn1
    exact cells_c cells n2 cb wt A ca B m a b c W (hc.ext EW) (by omega) hcok hm hq
  have cK : ∀ (W : World) (m : Nat) (a b c : Int) (L : List Knb), Ext w W → m < 24 → Pt.ok ⟨a, b, c⟩ → placeK knobs m ⟨a, b, c⟩ = L → Calls Tryz.prog 77 #[.agg #[.slice A n1 ca, .slice B n2 cb, .int .i64 wt], .int .i64 m, .agg #[.int .i64 a, .int .i64 b, .int .i64 c]] W (KnobsPost L n2 W) := fun W m a b c L EW hm hq hL => by
    subst hL hn2
    exact knobs_c n1 ca knobs wt A B cb m a b c W (hkn.ext EW) (by omega) hkok hm hq
  have CC := Lib.hid cC
  have CK := Lib.hid cK
  have HL1 := Lib.hid hL1
  have HL2 := Lib.hid hL2
  have HL3 : Hid (sortP (placeP cells n ⟨at_.x, at_.y, at_.z⟩) = L3) := Lib.hid hL3
  have HK1 := Lib.hid hK1
  have HK2 : Hid (placeK knobs n ⟨at_.x, at_.y, at_.z⟩ = K2) := Lib.hid hK2
  have Hl1 := Lib.hid l1
  have Hl2 := Lib.hid l2
  have Hl3 := Lib.hid l3
  have Hm1 := Lib.hid m1
  have Hm2 := Lib.hid m2
  have Hsub := Lib.hid hsub
  have Hlb := Lib.hid hlb
  rw [hn1] at hcl hcp
  rw [hn2] at hkl
  rw [hn1, hn2]
  have Hw0 := Lib.hid hw0
  have Hf0 := Lib.hid hf0
  have MN : Hid (∀ W, Calls Tryz.prog 99 #[.agg #[.int .i64 (ptAt L1 0).x, .int .i64 (ptAt L1 0).y, .int .i64 (ptAt L1 0).z], .agg #[.int .i64 (ptAt L2 0).x, .int .i64 (ptAt L2 0).y, .int .i64 (ptAt L2 0).z]] W fun e w' => e = .returned (.agg #[.int .i64 at_.x, .int .i64 at_.y, .int .i64 at_.z]) ∧ Ext W w') := Lib.hid (fun W => by
    have h := minus_c (ptAt L1 0).x (ptAt L1 0).y (ptAt L1 0).z (ptAt L2 0).x (ptAt L2 0).y (ptAt L2 0).z W hw0 hf0
    rw [← hsub]
    exact h)
  have Haok := Lib.hid haok
  clear cC cK hL1 hL2 hL3 hK1 hK2 l1 l2 l3 m1 m2 hsub hlb hn1 hn2 hcok hkok hf hk hc hkn hate hw0 hf0 haok hat
  have f1 : IntKind.i64.wrap (bt : Int) = bt := IntWalk.i64_in _ (by omega)
  obtain ⟨W1, hW1, E1, B1, hz1⟩ := mk_ w #[.slice A n1 ca, .slice B n2 cb, .int .i64 wt] 72
  obtain ⟨W2, hW2, E2, B2, hz2⟩ := mk_ W1 #[.int .i64 bk, .int .i64 x, .int .i64 y, .int .i64 z, .int .u8 bt, .int .u8 bc] 51
  obtain ⟨W3, hW3, E3, B3, hz3⟩ := mk_ W2 #[.int .i64 0, .int .i64 0, .int .i64 0] 27
  rw [hz1] at B2
  rw [hz2, hz1] at B3
  have BK := (B1.ext E2).ext E3
  have BB := B2.ext E3
  have b1 := BK.cell
  have b2 := BB.cell
  have E := (E1.trans E2).trans E3
  go_enter Tryz.func71, Tryz.ntmps71
  go_wp2_with fail
  clear hW1 hW2 hW3 hz1 hz2 hz3 B1 B2 E1 E2 E3 b1 b2
  obtain ⟨S, hS⟩ : ∃ S, w.heap.size = S := ⟨_, rfl⟩
  rw [hS] at BK BB B3 ⊢
  have HS := Lib.hid hS
  clear hS
  refine (CC.out W3 bt x y z L1 E hbt hpok HL1.out).mono ?_
  rintro e W4 ⟨g1, hg1, rfl, C1, E4⟩
  replace E := E.trans E4
  replace BK := BK.ext E4
  replace BB := BB.ext E4
  have BR := B3.ext E4
  clear B3
  obtain ⟨q0, q1, q2⟩ := pts_cell C1 (by rw [Hl1.out]; exact hcp)
  have b1 := BK.cell
  go_upto_region 2 with (fail)
  have i1 : (0 : Int) < n1 := by omega
  have hS1 := BR.lt
  go_cut [9] from 20 to 29 (fun s9 wx => NewB 27 #[.int .i64 at_.x, .int .i64 at_.y, .int .i64 at_.z] W4 s9 wx)
  case first =>
    have k0 := BK.cell 0
    have k1 := BK.cell 1
    have k2 := BK.cell 2
    clear b1
    have hS0 := BK.lt
    have hg1 := C1.lt
    have EX : Ext W4 W4.drew := (Ext.refl _).drew
    go_region_law (first
        | (go_simp; go_at_call 53; refine (CC.out _ n 0 0 0 L2 ?_ hn hok0 HL2.out).mono ?_; (first | exact E.trans EX | exact (E.trans EX).alloc _); rintro e wn ⟨g2, hg2, rfl, C2, En⟩; (first | (replace BN := BN.ext En; have bn := BN.cell; have fn := BN.frozen) | (have BN := (Blk.new _ #[.int .i64 0, .int .i64 0, .int .i64 0] 27).ext En; have hN := EX.size; have bn := BN.cell; have fn := BN.frozen) | (have BN := (Blk.new W4 #[.int .i64 0, .int .i64 0, .int .i64 0] 27).drew.ext En; have hN := EX.size; have bn := BN.cell; have fn := BN.frozen) | skip); replace EX : Ext W4 wn := (by first | exact EX.trans En | exact (EX.alloc _).trans En); obtain ⟨r0, r1, r2⟩ := pts_cell C2 (by rw [Hl2.out]; exact hcp); have s0 := ((Ext.refl wn).alloc (.cells #[.int .i64 0, .int .i64 0, .int .i64 0] 27)).cell r0; have s1 := ((Ext.refl wn).alloc (.cells #[.int .i64 0, .int .i64 0, .int .i64 0] 27)).cell r1; have s2 := ((Ext.refl wn).alloc (.cells #[.int .i64 0, .int .i64 0, .int .i64 0] 27)).cell r2; obtain ⟨hcN, hfN, hzN⟩ := ext_facts En; have lN0 := Nat.lt_of_lt_of_le hS0 EX.size; have lN1 := Nat.lt_of_lt_of_le hg1 EX.size; clear En)
        | (go_simp; go_at_call 99; refine (MN.out _).mono ?_; rintro e wn ⟨rfl, En⟩; (first | (replace BN := BN.ext En; have bn := BN.cell; have fn := BN.frozen) | (have BN := (Blk.new _ #[.int .i64 0, .int .i64 0, .int .i64 0] 27).ext En; have hN := EX.size; have bn := BN.cell; have fn := BN.frozen) | (have BN := (Blk.new W4 #[.int .i64 0, .int .i64 0, .int .i64 0] 27).drew.ext En; have hN := EX.size; have bn := BN.cell; have fn := BN.frozen) | skip); replace EX : Ext W4 wn := (by first | exact EX.trans En | exact (EX.alloc _).trans En); obtain ⟨hcN, hfN, hzN⟩ := ext_facts En; have lN0 := Nat.lt_of_lt_of_le hS0 EX.size; have lN1 := Nat.lt_of_lt_of_le hg1 EX.size; clear En))
    all_goals
      go_wp2_with fail
      go_meet
      first
        | exact ⟨_, rfl, EX.size, Blk.new _ _ _, EX.alloc _⟩
        | exact ⟨_, rfl, hN, ((BN.set_ 0 (.int .i64 at_.x)).set_ 1 (.int .i64 at_.y)).set_ 2 (.int .i64 at_.z), ((EX.setCell hN _).setCell hN _).setCell hN _⟩
  case rest =>
    obtain ⟨g9, rfl, hg9, B9, E9⟩ := hcut
    replace E := E.trans E9
    replace BK := BK.ext E9
    replace BB := BB.ext E9
    replace BR := BR.ext E9
    replace C1 := C1.ext E9
    have hW4S : S + 1 + 1 < g9 := by omega
    clear b1 q0 q1 q2 E4 E9 hS1 hg9 MN
    have b1 := BK.cell
    have b9 := B9.cell
    go_wp2_with fail
    refine (CC.out _ n at_.x at_.y at_.z L3 E hn Haok.out HL3.out).mono ?_
    rintro e W5 ⟨g3, hg3, rfl, C3, E5⟩
    replace E := E.trans E5
    replace BK := BK.ext E5
    replace BB := BB.ext E5
    replace BR := BR.ext E5
    replace C1 := C1.ext E5
    replace B9 := B9.ext E5
    clear b1 b9 E5
    have EQ := equal_c (some ⟨g3, 0, none⟩) (some ⟨g1, 0, none⟩) n1 n1 L3 L1 W5 (cells_of_blk C3 Hl3.out (by omega)) (cells_of_blk C1 Hl1.out (by omega))
    rw [Hl3.out, Hl1.out] at EQ
    obtain ⟨r, hr⟩ : ∃ r, eqC L3 L1 = r := ⟨_, rfl⟩
    rw [hr] at EQ
    have Hr := Lib.hid hr
    clear hr
    go_wp2_with fail
    refine EQ.mono ?_
    rintro e W6 ⟨rfl, E6⟩
    replace E := E.trans E6
    replace BK := BK.ext E6
    replace BB := BB.ext E6
    replace BR := BR.ext E6
    replace B9 := B9.ext E6
    clear EQ E6 C1 C3
    have b1 := BK.cell
    have b2 := BB.cell
    have b9 := B9.cell
    have b3 := BR.cell
    have f3 := BR.frozen
    have hSw : w.heap.size ≤ S + 1 + 1 := by have := HS.out; omega
    cases r
    · have Hv := Lib.hid (show likeB ⟨cells, knobs, wt⟩ bt ⟨x, y, z⟩ n = false by rw [Hlb.out, Hr.out]; rfl)
      obtain ⟨WZ, hWZ, BZ, farZ, extZ, hzZ⟩ := BR.store3 (.int .i64 at_.x) (.int .i64 at_.y) (.int .i64 at_.z)
      have cZ := BZ.cell
      go_wp2_with fail
      refine bodyPost_ret (v := .tuple #[.agg #[.int .i64 at_.x, .int .i64 at_.y, .int .i64 at_.z], .bool false]) (by simp [results, Tryz.results71, go_sem, cZ]) rfl ⟨by rw [Hv.out], extZ _ E hSw⟩
    · go_wp2_with fail
      refine (CK.out _ bt x y z K1 E hbt hpok HK1.out).mono ?_
      rintro e W7 ⟨g5, hg5, rfl, D5, E7⟩
      replace E := E.trans E7
      replace BK := BK.ext E7
      replace BR := BR.ext E7
      replace B9 := B9.ext E7
      clear b1 b2 b3 b9 f3 E7 BB
      have b1 := BK.cell
      have b9 := B9.cell
      go_wp2_with fail
      refine (CK.out _ n at_.x at_.y at_.z K2 E hn Haok.out HK2.out).mono ?_
      rintro e W8 ⟨g6, hg6, rfl, D6, E8⟩
      replace E := E.trans E8
      replace BR := BR.ext E8
      replace B9 := B9.ext E8
      replace D5 := D5.ext E8
      clear b1 b9 E8 BK
      have hsub : likeB ⟨cells, knobs, wt⟩ bt ⟨x, y, z⟩ n = subK K2 K1 := by rw [Hlb.out, Hr.out]; rfl
      have Hsb := Lib.hid hsub
      have R5 : KnobsR W8 (some ⟨g5, 0, none⟩) n2 K1 := knobs_of_blk D5 Hm1.out (by omega)
      have R6 : KnobsR W8 (some ⟨g6, 0, none⟩) n2 K2 := knobs_of_blk D6 Hm2.out (by omega)
      clear hsub D5 D6
      go_wp2_with fail
      go_loopw [50] (fun i wr => ∃ j : Nat, j ≤ n2 ∧ i = .int .i64 j ∧ Ext W8 wr ∧ Hid (∀ i, i < j → hasK K1 (knbAt K2 i) = true)) (fun i _ => n2 - (intOf i).toNat)
      case atStart => exact ⟨0, by omega, rfl, Ext.refl _, Lib.hid (fun i hi => by omega)⟩
      case round =>
        obtain ⟨j, hj, rfl, EW, Hj⟩ := hrel
        have BRr := BR.ext EW
        have B9r := B9.ext EW
        have Er := E.trans EW
        by_cases hlt : j < n2
        · obtain ⟨g, off, ⟨⟨kx, ky, kz⟩, kd, ks⟩, hA, hq, hg, c0, c1, c2, c3, c4⟩ := (R6.ext EW).at_ (k := j) (by rw [Hm2.out]; exact hlt)
          cases hA
          simp only [Nat.zero_add] at c0 c1 c2 c3 c4
          have Hq := Lib.hid (knbAt_eq hq)
          clear hq
          have j1 : (0 : Int) ≤ j := by omega
          have j2 : (j : Int) < n2 := by omega
          obtain ⟨Wk, hWk, Ek, Bk, hzk⟩ := mk_ wr #[.int .i64 kx, .int .i64 ky, .int .i64 kz, .int .u8 kd, .int .u8 ks] 109
          have bk := Bk.cell
          have CN := containsK_c (some ⟨g5, 0, none⟩) n2 K1 kx ky kz kd ks Wk ((R5.ext EW).ext Ek)
          rw [Hm1.out] at CN
          obtain ⟨r, hr⟩ : ∃ r, hasK K1 ⟨⟨kx, ky, kz⟩, kd, ks⟩ = r := ⟨_, rfl⟩
          rw [hr] at CN
          have Hr' := Lib.hid hr
          clear hr
          go_wp2_with fail
          refine CN.mono ?_
          rintro e Wc ⟨rfl, Ec⟩
          have BRc := (BRr.ext Ek).ext Ec
          have b9 := ((B9r.ext Ek).ext Ec).cell
          have b3 := BRc.cell
          have f3 := BRc.frozen
          have Ez := (Er.trans Ek).trans Ec
          clear c0 c1 c2 c3 c4 bk CN hWk hzk
          cases r
          · have Hv := Lib.hid (show likeB ⟨cells, knobs, wt⟩ bt ⟨x, y, z⟩ n = false by rw [Hsb.out]; exact allR_bad (k := j) (by rw [Hm2.out]; exact hlt) (by rw [Hq.out]; exact Hr'.out))
            obtain ⟨WZ, hWZ, BZ, farZ, extZ, hzZ⟩ := BRc.store3 (.int .i64 at_.x) (.int .i64 at_.y) (.int .i64 at_.z)
            have cZ := BZ.cell
            go_wp2_with fail
            refine bodyPost_ret (v := .tuple #[.agg #[.int .i64 at_.x, .int .i64 at_.y, .int .i64 at_.z], .bool false]) (by simp [results, Tryz.results71, go_sem, cZ]) rfl ⟨by rw [Hv.out], extZ _ Ez hSw⟩
          · go_wp2_with fail
            go_roundw
            case rel => exact ⟨j + 1, by omega, by go_num, (EW.trans Ek).trans Ec, Lib.hid (fun i hi => by
              rcases Nat.lt_or_ge i j with h' | h'
              · exact Hj.out i h'
              · obtain rfl : i = j := by omega
                rw [Hq.out]
                exact Hr'.out)⟩
            case measure => simp only [intOf]; omega
        · obtain rfl : n2 = j := by omega
          have Hv := Lib.hid (show likeB ⟨cells, knobs, wt⟩ bt ⟨x, y, z⟩ n = true by rw [Hsb.out]; exact allR_good (by rw [Hm2.out]; exact Hj.out))
          have b9 := B9r.cell
          have b3 := BRr.cell
          have f3 := BRr.frozen
          obtain ⟨WZ, hWZ, BZ, farZ, extZ, hzZ⟩ := BRr.store3 (.int .i64 at_.x) (.int .i64 at_.y) (.int .i64 at_.z)
          have cZ := BZ.cell
          go_wp2_with fail
          refine bodyPost_ret (v := .tuple #[.agg #[.int .i64 at_.x, .int .i64 at_.y, .int .i64 at_.z], .bool true]) (by simp [results, Tryz.results71, go_sem, cZ]) rfl ⟨by rw [Hv.out], extZ _ Er hSw⟩
end Go.Proofs.YtjacbhomhjoolaaGreat
