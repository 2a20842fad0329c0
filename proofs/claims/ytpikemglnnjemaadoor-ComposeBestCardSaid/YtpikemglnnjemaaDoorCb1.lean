/- firstOf: whether a composition is better than the best one so far. The search for compositions: plain. The search's order, and what is found by it: plain. Worlds in which some blocks have turned; append of one element, and whether it grew. cell: where the full cell with a number is. -/
import Derived.Test.YtpikemglnnjemaaDoorCk9

namespace Go.Proofs.YtpikemglnnjemaaDoor
open Go.RowKit

set_option maxHeartbeats 1000000 in
theorem lessLen_c (CA : Option Addr) (n cc : Nat) (a : Int) (BA : Option Addr) (m bc : Nat) (b : Int) (hn : n ≤ 1000) (hm : m ≤ 1000) (ha : 0 ≤ a ∧ a ≤ 100000) (hb : 0 ≤ b ∧ b ≤ 100000) (w : World) :
    Calls Tryd.prog 70 #[.agg #[.slice CA n cc, .int .i64 a], .agg #[.slice BA m bc, .int .i64 b]] w fun e w' => e = .returned (.int .i64 ((n : Int) - m)) ∧ Ext w w' := by
  obtain ⟨W1, hW1, E1, B1, hz1⟩ := box_ w #[.slice CA n cc, .int .i64 a] 111
  obtain ⟨W2, hW2, E2, B2, hz2⟩ := box_ W1 #[.slice BA m bc, .int .i64 b] 111
  rw [hz1] at B2
  have D1 := B1.ext E2
  have d0 := D1.cell 0
  have d1 := D1.cell 1
  have e0 := B2.cell 0
  have e1 := B2.cell 1
  obtain ⟨ha1, ha2⟩ := ha
  obtain ⟨hb1, hb2⟩ := hb
  go_enter Tryd.func70, Tryd.ntmps70
  go_wp2_with fail
  go_ret
  exact ⟨rfl, E1.trans E2⟩
set_option maxHeartbeats 1000000 in
theorem lessWeak_c (CA : Option Addr) (n cc : Nat) (a : Int) (BA : Option Addr) (m bc : Nat) (b : Int) (hn : n ≤ 1000) (hm : m ≤ 1000) (ha : 0 ≤ a ∧ a ≤ 100000) (hb : 0 ≤ b ∧ b ≤ 100000) (w : World) :
    Calls Tryd.prog 71 #[.agg #[.slice CA n cc, .int .i64 a], .agg #[.slice BA m bc, .int .i64 b]] w fun e w' => e = .returned (.int .i64 (a - b)) ∧ Ext w w' := by
  obtain ⟨W1, hW1, E1, B1, hz1⟩ := box_ w #[.slice CA n cc, .int .i64 a] 111
  obtain ⟨W2, hW2, E2, B2, hz2⟩ := box_ W1 #[.slice BA m bc, .int .i64 b] 111
  rw [hz1] at B2
  have D1 := B1.ext E2
  have d0 := D1.cell 0
  have d1 := D1.cell 1
  have e0 := B2.cell 0
  have e1 := B2.cell 1
  obtain ⟨ha1, ha2⟩ := ha
  obtain ⟨hb1, hb2⟩ := hb
  go_enter Tryd.func71, Tryd.ntmps71
  go_wp2_with fail
  go_ret
  exact ⟨rfl, E1.trans E2⟩

def firstB (n : Nat) (a : Int) (m : Nat) (b : Int) : Bool := decide (n < m) || (decide (n = m) && decide (a < b))
theorem firstNil_c (CA : Option Addr) (n cc : Nat) (a : Int) (F : Value) (w : World) :
    Calls Tryd.prog 69 #[.pointer none, .agg #[.slice CA n cc, .int .i64 a], F] w fun e w' => e = .returned (.bool true) ∧ Ext w w' := by
  obtain ⟨W1, hW1, E1, B1, hz1⟩ := box_ w #[.slice CA n cc, .int .i64 a] 111
  go_enter Tryd.func69, Tryd.ntmps69
  go_wp2_with fail
  go_ret
  exact ⟨rfl, E1⟩
set_option maxRecDepth 100000 in
set_option maxHeartbeats 4000000 in
theorem firstOf_c (M Fb : Nat) (CA : Option Addr) (n cc : Nat) (a : Int) (BA : Option Addr) (m bc : Nat) (b : Int) (hn : n ≤ 1000) (hm : m ≤ 1000) (ha : 0 ≤ a ∧ a ≤ 100000) (hb : 0 ≤ b ∧ b ≤ 100000) (w : World) (hM : Blk w M 111 #[.slice BA m bc, .int .i64 b])
    (hF : Blk w Fb 113 #[.func (.func 70) #[] #[], .func (.func 71) #[] #[]]) :
    Calls Tryd.prog 69 #[.pointer (some ⟨M, 0, none⟩), .agg #[.slice CA n cc, .int .i64 a], .slice (some ⟨Fb, 0, none⟩) 2 2] w fun e w' => e = .returned (.bool (firstB n a m b)) ∧ Ext w w' := by
  obtain ⟨W1, hW1, E1, B1, hz1⟩ := box_ w #[.slice CA n cc, .int .i64 a] 111
  have hM1 := hM.ext E1
  have hF1 := hF.ext E1
  obtain ⟨ha1, ha2⟩ := ha
  obtain ⟨hb1, hb2⟩ := hb
  clear hz1
  go_enter Tryd.func69, Tryd.ntmps69
  go_wp2_with fail
  clear hW1
  go_loopw [14] (fun iv wr => ∃ j : Nat, j ≤ 2 ∧ iv = .int .i64 j ∧ Hid ((1 ≤ j → n = m) ∧ (2 ≤ j → a = b)) ∧ Ext W1 wr) (fun iv _ => 2 - (intOf iv).toNat)
  case atStart => exact ⟨0, by omega, rfl, Lib.hid ⟨by omega, by omega⟩, Ext.refl _⟩
  case round =>
    obtain ⟨j, hj, rfl, HJ, E⟩ := hrel
    have b1 := (B1.ext E).cell
    have m1 := (hM1.ext E).cell
    have f1 := (hF1.ext E).cell
    obtain rfl | rfl | rfl : j = 0 ∨ j = 1 ∨ j = 2 := by omega
    · rcases Nat.lt_trichotomy n m with h | h | h
      · have Hr : Hid (firstB n a m b = true) := Lib.hid (by simp [firstB, h])
        have t1 : (((n : Int) - m) != 0) = true := by simp; omega
        have t2 : decide (((n : Int) - m) < 0) = true := by simp; omega
        go_wp2_with fail
        refine wp_region_grow (by kernel_rfl) (by kernel_rfl) ?_
        repeat (go_big_quiet_step (((go_at_call 70; exact quiet_ext (lessLen_c CA n cc a BA m bc b hn hm ⟨ha1, ha2⟩ ⟨hb1, hb2⟩ _)))))
        refine wpQuiet_nil ?_
        intro W3 hW3
        have E3 : Ext wr W3 := by
          obtain ⟨x, rfl⟩ := hW3
          exact (Ext.refl _).grow x
        clear hW3
        obtain ⟨hcW3, hfW3, hzW3⟩ := ext_facts E3
        go_wp2_with fail
        go_ret
        exact ⟨by rw [Hr.out] <;> rfl, (E1.trans E).trans E3⟩
      · have t1 : (((n : Int) - m) != 0) = false := by simp; omega
        have H1 : Hid ((1 ≤ 0 + 1 → n = m) ∧ (2 ≤ 0 + 1 → a = b)) := Lib.hid ⟨fun _ => h, by omega⟩
        clear h
        go_wp2_with fail
        refine wp_region_grow (by kernel_rfl) (by kernel_rfl) ?_
        repeat (go_big_quiet_step (((go_at_call 70; exact quiet_ext (lessLen_c CA n cc a BA m bc b hn hm ⟨ha1, ha2⟩ ⟨hb1, hb2⟩ _)))))
        refine wpQuiet_nil ?_
        intro W3 hW3
        have E3 : Ext wr W3 := by
          obtain ⟨x, rfl⟩ := hW3
          exact (Ext.refl _).grow x
        clear hW3
        obtain ⟨hcW3, hfW3, hzW3⟩ := ext_facts E3
        go_wp2_with fail
        go_roundw
        case rel => exact ⟨0 + 1, by omega, by go_num, H1, E.trans E3⟩
        case measure => simp only [intOf]; omega
      · have Hr : Hid (firstB n a m b = false) := Lib.hid (by simp [firstB]; omega)
        have t1 : (((n : Int) - m) != 0) = true := by simp; omega
        have t2 : decide (((n : Int) - m) < 0) = false := by simp; omega
        go_wp2_with fail
        refine wp_region_grow (by kernel_rfl) (by kernel_rfl) ?_
        repeat (go_big_quiet_step (((go_at_call 70; exact quiet_ext (lessLen_c CA n cc a BA m bc b hn hm ⟨ha1, ha2⟩ ⟨hb1, hb2⟩ _)))))
        refine wpQuiet_nil ?_
        intro W3 hW3
        have E3 : Ext wr W3 := by
          obtain ⟨x, rfl⟩ := hW3
          exact (Ext.refl _).grow x
        clear hW3
        obtain ⟨hcW3, hfW3, hzW3⟩ := ext_facts E3
        go_wp2_with fail
        go_ret
        exact ⟨by rw [Hr.out] <;> rfl, (E1.trans E).trans E3⟩
    · have hnm : n = m := HJ.out.1 (by omega)
      rcases Int.lt_trichotomy a b with h | h | h
      · have Hr : Hid (firstB n a m b = true) := Lib.hid (by simp [firstB, h, hnm])
        have t1 : ((a - b) != 0) = true := by simp; omega
        have t2 : decide ((a - b) < 0) = true := by simp; omega
        clear hnm
        go_wp2_with fail
        refine wp_region_grow (by kernel_rfl) (by kernel_rfl) ?_
        repeat (go_big_quiet_step (((go_at_call 71; exact quiet_ext (lessWeak_c CA n cc a BA m bc b hn hm ⟨ha1, ha2⟩ ⟨hb1, hb2⟩ _)))))
        refine wpQuiet_nil ?_
        intro W3 hW3
        have E3 : Ext wr W3 := by
          obtain ⟨x, rfl⟩ := hW3
          exact (Ext.refl _).grow x
        clear hW3
        obtain ⟨hcW3, hfW3, hzW3⟩ := ext_facts E3
        go_wp2_with fail
        go_ret
        exact ⟨by rw [Hr.out] <;> rfl, (E1.trans E).trans E3⟩
      · have t1 : ((a - b) != 0) = false := by simp; omega
        have H1 : Hid ((1 ≤ 1 + 1 → n = m) ∧ (2 ≤ 1 + 1 → a = b)) := Lib.hid ⟨fun _ => hnm, fun _ => h⟩
        clear h hnm
        go_wp2_with fail
        refine wp_region_grow (by kernel_rfl) (by kernel_rfl) ?_
        repeat (go_big_quiet_step (((go_at_call 71; exact quiet_ext (lessWeak_c CA n cc a BA m bc b hn hm ⟨ha1, ha2⟩ ⟨hb1, hb2⟩ _)))))
        refine wpQuiet_nil ?_
        intro W3 hW3
        have E3 : Ext wr W3 := by
          obtain ⟨x, rfl⟩ := hW3
          exact (Ext.refl _).grow x
        clear hW3
        obtain ⟨hcW3, hfW3, hzW3⟩ := ext_facts E3
        go_wp2_with fail
        go_roundw
        case rel => exact ⟨1 + 1, by omega, by go_num, H1, E.trans E3⟩
        case measure => simp only [intOf]; omega
      · have Hr : Hid (firstB n a m b = false) := Lib.hid (by simp [firstB, hnm]; omega)
        have t1 : ((a - b) != 0) = true := by simp; omega
        have t2 : decide ((a - b) < 0) = false := by simp; omega
        clear hnm
        go_wp2_with fail
        refine wp_region_grow (by kernel_rfl) (by kernel_rfl) ?_
        repeat (go_big_quiet_step (((go_at_call 71; exact quiet_ext (lessWeak_c CA n cc a BA m bc b hn hm ⟨ha1, ha2⟩ ⟨hb1, hb2⟩ _)))))
        refine wpQuiet_nil ?_
        intro W3 hW3
        have E3 : Ext wr W3 := by
          obtain ⟨x, rfl⟩ := hW3
          exact (Ext.refl _).grow x
        clear hW3
        obtain ⟨hcW3, hfW3, hzW3⟩ := ext_facts E3
        go_wp2_with fail
        go_ret
        exact ⟨by rw [Hr.out] <;> rfl, (E1.trans E).trans E3⟩
    · obtain ⟨hnm, hab⟩ := HJ.out
      have Hr : Hid (firstB n a m b = false) := Lib.hid (by simp [firstB, hnm (by omega), hab (by omega)])
      clear hnm hab
      go_wp2_with fail
      go_ret
      exact ⟨by rw [Hr.out] <;> rfl, E1.trans E⟩
end Go.Proofs.YtpikemglnnjemaaDoor

namespace Go.Proofs.YtpikemglnnjemaaDoor
open Go.RowKit

/-! ### the lowest cell that is not covered -/
def lowZ (cov : Nat) : Nat := Lib.ctz 32 (4294967295 - cov)
theorem lowZ_spec {cov : Nat} (h : cov < 65536) : cov.testBit (lowZ cov) = false ∧ lowZ cov < 32 ∧ ∀ j, j < lowZ cov → cov.testBit j = true := by
  obtain ⟨h1, h2, h3, _⟩ := low_bits (x := 4294967295 - cov) (by omega) (by omega)
  have e : ∀ j, (4294967295 - cov).testBit j = (decide (j < 32) && !cov.testBit j) := fun j => by
    have := Nat.testBit_two_pow_sub_succ (n := 32) (x := cov) (by omega) j
    rw [show 2 ^ 32 - (cov + 1) = 4294967295 - cov by omega] at this
    exact this
  refine ⟨?_, h2, fun j hj => ?_⟩
  · have := h1
    rw [e] at this
    simp only [Bool.and_eq_true, Bool.not_eq_true', decide_eq_true_eq] at this
    exact this.2
  · have := h3 j hj
    rw [e] at this
    have hj32 : decide (j < 32) = true := by
      have : j < 32 := Nat.lt_trans hj h2
      simpa using this
    rw [hj32, Bool.true_and] at this
    simpa using this
theorem lowZ_eq {cov n : Nat} (h : cov < 65536) (h1 : cov.testBit n = false) (h2 : ∀ j, j < n → cov.testBit j = true) : lowZ cov = n := by
  obtain ⟨a, _, b⟩ := lowZ_spec h
  rcases Nat.lt_trichotomy (lowZ cov) n with h' | h' | h'
  · rw [h2 _ h'] at a
    cases a
  · exact h'
  · rw [b _ h'] at h1
    cases h1

/-! ### plates at a place -/
def placeN (s : Shape) (n : Nat) : Nat := (placesS s s.cells.length).getD n 0
def laidN (s : Shape) (n i : Nat) (t : Bool) : Laid := ⟨i, s.px (placeN s n), s.py (placeN s n), s.pz (placeN s n), t⟩
theorem place_num {s : Shape} (ok : s.Ok) {n : Nat} (hn : n < fullN s.cells) : placeN s n < s.cells.length ∧ numOf s.cells (placeN s n) = n ∧ s.num (s.px (placeN s n)) (s.py (placeN s n)) (s.pz (placeN s n)) = n ∧ (placesS s s.cells.length)[n]? = some (placeN s n) := by
  obtain ⟨i, hi, e⟩ := numOf_surj (cs := s.cells) (k := s.cells.length) (b := n) (Nat.le_refl _) (by rw [List.take_length]; exact hn)
  have hg := placesS_get (s := s) (Nat.le_refl _) hi (by omega)
  rw [e, Int.toNat_natCast] at hg
  have hp : placeN s n = i := by
    unfold placeN
    rw [List.getD_eq_getElem?_getD, hg]
    rfl
  rw [hp]
  exact ⟨hi, e, by rw [num_place ok hi]; exact e, hg⟩
theorem cover_laidN {s : Shape} {l : List Plate} (ok : s.Ok) {n : Nat} (hn : n < fullN s.cells) (i : Nat) (t : Bool) : layAt s l (placeN s n) ((i : Int), t) = coverOf s l (laidN s n i t) := by
  obtain ⟨h1, h2, h3, _⟩ := place_num ok hn
  obtain ⟨p1, p2⟩ := s.place_in ok h1
  unfold layAt coverOf laidN Shape.colorAt
  simp only
  rw [if_pos p1, p2, Int.toNat_natCast]
/-- Whoever is at the place n is one of these. -/
theorem laidN_of {s : Shape} (ok : s.Ok) {x : Laid} {n : Nat} (hx : numL s x = n) (hp : 0 ≤ x.plate) : x = laidN s n x.plate.toNat x.turned := by
  have hn : n < fullN s.cells := by
    have := num_lt_full ok x.x x.y x.z
    unfold numL at hx
    omega
  obtain ⟨_, _, h3, _⟩ := place_num ok hn
  have hx' : s.num x.x x.y x.z = n := hx
  obtain ⟨e1, e2, e3⟩ := s.num_inj ok (by omega) (hx'.trans h3.symm)
  unfold laidN
  obtain ⟨p, a, b, c, t⟩ := x
  simp only at e1 e2 e3 hp ⊢
  rw [← e1, ← e2, ← e3, Int.toNat_of_nonneg hp]
theorem idx_le {s : Shape} (ok : s.Ok) {x y x' y' z : Int} (hx : x ≤ x') (hy : y ≤ y') : s.idx x y z ≤ s.idx x' y' z := by
  have w1 := ok.w
  unfold Shape.idx
  have : (z * s.D + y) * s.W ≤ (z * s.D + y') * s.W := Int.mul_le_mul_of_nonneg_right (by omega) (by omega)
  omega
/-- All cells of a plate have numbers from that of its place on. -/
theorem cover_ge {s : Shape} {l : List Plate} {x : Laid} {m b : Nat} (ok : s.Ok) (hm : coverOf s l x = some m) (h0 : 0 ≤ numL s x) (hb : m.testBit b = true) : numL s x ≤ b := by
  obtain ⟨_, u, v, z, hn⟩ := cover_lt ok hm hb
  have hh := (cover_bits ok hm hn).1 hb
  rw [hasB_iff] at hh
  obtain ⟨rfl, hx, hy⟩ := hh
  have i1 : s.inside x.x x.y x.z = true := num_in (by unfold numL at h0; omega)
  have i2 : s.inside u v x.z = true := num_in (by omega)
  have d1 := s.idx_in ok i1
  have d2 := s.idx_in ok i2
  have hle := idx_le ok (z := x.z) hx.1 hy.1
  unfold numL at h0 ⊢
  rw [← hn]
  rw [s.num_eq i1] at h0 ⊢
  rw [s.num_eq i2] at hn ⊢
  rcases Nat.lt_or_ge (s.idx x.x x.y x.z).toNat (s.idx u v x.z).toNat with h | h
  · have := (numOf_lt h0 (by omega)).2 h
    omega
  · have : (s.idx x.x x.y x.z).toNat = (s.idx u v x.z).toNat := by omega
    rw [this]
    exact Int.le_refl _
theorem cover_plate {s : Shape} {l : List Plate} {x : Laid} {m : Nat} (hm : coverOf s l x = some m) : 0 ≤ x.plate ∧ x.plate < l.length := by
  unfold coverOf layF at hm
  split at hm
  · assumption
  · cases hm
/-- A plate covers its own place. -/
theorem cover_self {s : Shape} {l : List Plate} {x : Laid} {m b : Nat} (ok : s.Ok) (okl : platesB l = true) (hm : coverOf s l x = some m) (hb : numL s x = b) : m.testBit b = true := by
  refine (cover_bits ok hm hb).2 ?_
  have hp := cover_plate hm
  have hget : l[x.plate.toNat]? = some (plateAt l x.plate.toNat) := by
    have hlt : x.plate.toNat < l.length := by omega
    have := List.getElem?_eq_getElem hlt
    rw [this, plateAt_eq this]
  have okp := plate_ok okl hget
  have h1 := okp.w
  have h2 := okp.d
  rw [hasB_iff]
  unfold sizeW sizeD
  refine ⟨rfl, ?_, ?_⟩ <;> split <;> omega

/-! ### what a beginning of a composition is -/
theorem laidAt_append {c d : List Laid} {k : Nat} (h : k < c.length) : laidAt (c ++ d) k = laidAt c k := by
  unfold laidAt
  rw [List.getD_eq_getElem?_getD, List.getD_eq_getElem?_getD, List.getElem?_append_left h]
theorem laidAt_mid (c : List Laid) (x : Laid) (d : List Laid) : laidAt (c ++ x :: d) c.length = x := by
  unfold laidAt
  rw [List.getD_eq_getElem?_getD, List.getElem?_append_right (Nat.le_refl _), Nat.sub_self]
  rfl
theorem usedN_append {c d : List Laid} {k : Nat} (h : k ≤ c.length) (p : Int) : usedN (c ++ d) k p = usedN c k p := by
  unfold usedN
  rw [List.take_append_of_le_length h]
theorem prevNum_append {s : Shape} {c d : List Laid} {k : Nat} (h : k ≤ c.length) : prevNum s (c ++ d) k = prevNum s c k := by
  cases k with
  | zero => rfl
  | succ k => show numL s _ = numL s _; rw [laidAt_append h]
theorem setRun_append {s : Shape} {l : List Plate} {c d : List Laid} : ∀ {k : Nat}, k ≤ c.length → setRun s l (c ++ d) k = setRun s l c k
  | 0, _ => rfl
  | k + 1, h => by
    show (setRun s l (c ++ d) k).bind (setStep s l (c ++ d) k) = (setRun s l c k).bind (setStep s l c k)
    rw [setRun_append (by omega)]
    congr 1
    funext st
    unfold setStep
    rw [laidAt_append h, prevNum_append (by omega), usedN_append h]
def nextOk (s : Shape) (l : List Plate) (c : List Laid) (cov : Nat) (x : Laid) (m : Nat) : Prop :=
  prevNum s c c.length < numL s x ∧ coverOf s l x = some m ∧ m &&& cov = 0 ∧ ((usedN c c.length x.plate : Int) + 1 ≤ (plateAt l x.plate.toNat).N)
theorem usedN_snoc (c : List Laid) (x : Laid) (d : List Laid) : usedN (c ++ x :: d) (c.length + 1) x.plate = usedN c c.length x.plate + 1 := by
  have h : (c ++ x :: d)[c.length]? = some x := by
    rw [List.getElem?_append_right (Nat.le_refl _), Nat.sub_self]
    rfl
  have := usedN_succ h x.plate
  rw [this, if_pos rfl, usedN_append (Nat.le_refl _)]
theorem setRun_step {s : Shape} {l : List Plate} {c d : List Laid} {all : List Nat} {cov : Nat} {x : Laid} (h : setRun s l c c.length = some (all, cov)) :
    (∀ m, nextOk s l c cov x m → setRun s l (c ++ x :: d) (c.length + 1) = some (all ++ [m], cov ||| m)) ∧
    (∀ st, setRun s l (c ++ x :: d) (c.length + 1) = some st → ∃ m, nextOk s l c cov x m ∧ st = (all ++ [m], cov ||| m)) := by
  have e : setRun s l (c ++ x :: d) (c.length + 1) = setStep s l (c ++ x :: d) c.length (all, cov) := by
    have h' : setRun s l (c ++ x :: d) c.length = some (all, cov) := by rw [setRun_append (Nat.le_refl _)]; exact h
    exact runs_succ h'
  rw [e]
  unfold setStep nextOk
  rw [laidAt_mid, prevNum_append (Nat.le_refl _), usedN_snoc]
  constructor
  · rintro m ⟨h1, h2, h3, h4⟩
    rw [if_neg (by omega), h2]
    show (if m &&& cov ≠ 0 ∨ _ then _ else _) = _
    rw [if_neg]
    rintro (h | h)
    · exact h h3
    · push_cast at h
      omega
  · intro st hst
    split at hst
    · cases hst
    · rename_i h1
      split at hst
      · cases hst
      · rename_i m hm
        split at hst
        · cases hst
        · rename_i hg
          rw [not_or] at hg
          cases hst
          refine ⟨m, ⟨by omega, hm, Classical.not_not.1 hg.1, ?_⟩, rfl⟩
          have := hg.2
          push_cast at this
          omega

/-- A beginning of a composition: all below its lowest free cell is covered, by plates that lie there. -/
structure Part (s : Shape) (l : List Plate) (c : List Laid) (all : List Nat) (cov : Nat) : Prop where
  run : setRun s l c c.length = some (all, cov)
  last : prevNum s c c.length < lowZ cov
theorem Part.is {s : Shape} {l : List Plate} {c : List Laid} {all : List Nat} {cov : Nat} (h : Part s l c all cov) : SetIs s l c c.length all cov := setRun_is h.run
theorem SetIs.small {s : Shape} {l : List Plate} {c : List Laid} {k : Nat} {all : List Nat} {cov : Nat} (ok : s.Ok) (h : SetIs s l c k all cov) : cov < 65536 := by
  have : cov < 2 ^ 16 := by
    apply Nat.lt_pow_two_of_testBit
    intro i hi
    cases hb : cov.testBit i
    · rfl
    · obtain ⟨j, hj, e⟩ := (h.bits i).1 hb
      have := (cover_lt ok (h.cover j hj) e).1
      have := ok.full
      omega
  omega
theorem SetIs.bit_lt {s : Shape} {l : List Plate} {c : List Laid} {k : Nat} {all : List Nat} {cov b : Nat} (ok : s.Ok) (h : SetIs s l c k all cov) (hb : cov.testBit b = true) : b < fullN s.cells := by
  obtain ⟨j, hj, e⟩ := (h.bits b).1 hb
  exact (cover_lt ok (h.cover j hj) e).1
theorem Part.nil (s : Shape) (l : List Plate) : Part s l [] [] 0 := ⟨rfl, by
  show (-1 : Int) < lowZ 0
  omega⟩
theorem lowZ_le {s : Shape} {l : List Plate} {c : List Laid} {k : Nat} {all : List Nat} {cov : Nat} (ok : s.Ok) (h : SetIs s l c k all cov) : lowZ cov ≤ fullN s.cells := by
  obtain ⟨_, _, h3⟩ := lowZ_spec (h.small ok)
  rcases Nat.lt_or_ge (fullN s.cells) (lowZ cov) with h' | h'
  · have := h.bit_lt ok (h3 _ h')
    omega
  · exact h'
theorem Part.add {s : Shape} {l : List Plate} {c : List Laid} {all : List Nat} {cov : Nat} (ok : s.Ok) (okl : platesB l = true) (h : Part s l c all cov) (hn : lowZ cov < fullN s.cells) {i : Nat} {t : Bool} {m : Nat} (hm : coverOf s l (laidN s (lowZ cov) i t) = some m) (hand : m &&& cov = 0)
    (hu : (usedN c c.length (i : Int) : Int) + 1 ≤ (plateAt l i).N) : Part s l (c ++ [laidN s (lowZ cov) i t]) (all ++ [m]) (cov ||| m) ∧ lowZ cov < lowZ (cov ||| m) := by
  have hnum : numL s (laidN s (lowZ cov) i t) = lowZ cov := (place_num ok hn).2.2.1
  have hno : nextOk s l c cov (laidN s (lowZ cov) i t) m := ⟨by rw [hnum]; exact h.last, hm, hand, hu⟩
  have hrun := (setRun_step (d := []) h.run).1 m hno
  have hself := cover_self ok okl hm hnum
  have hsm : cov ||| m < 65536 := by
    have h1 := h.is.small ok
    have h2 := cover_small ok hm
    have := Nat.or_lt_two_pow (x := cov) (y := m) (n := 16) (by omega) (by omega)
    omega
  have hlt : lowZ cov < lowZ (cov ||| m) := by
    obtain ⟨_, _, h3⟩ := lowZ_spec (h.is.small ok)
    obtain ⟨h4, _, _⟩ := lowZ_spec hsm
    rw [Nat.testBit_or, Bool.or_eq_false_iff] at h4
    rcases Nat.lt_trichotomy (lowZ (cov ||| m)) (lowZ cov) with h' | h' | h'
    · rw [h3 _ h'] at h4
      cases h4.1
    · rw [h', hself] at h4
      cases h4.2
    · exact h'
  refine ⟨⟨by rw [List.length_append]; exact hrun, ?_⟩, hlt⟩
  have : prevNum s (c ++ [laidN s (lowZ cov) i t]) (c ++ [laidN s (lowZ cov) i t]).length = lowZ cov := by
    rw [List.length_append]
    show numL s (laidAt (c ++ [laidN s (lowZ cov) i t]) c.length) = _
    rw [laidAt_mid, hnum]
  rw [this]
  omega
/-- The next plate of a composition lies on the lowest free cell. -/
theorem Part.next {s : Shape} {l : List Plate} {c d : List Laid} {all : List Nat} {cov : Nat} {x : Laid} {out : List Nat} (ok : s.Ok) (okl : platesB l = true) (h : Part s l c all cov)
    (hf : setRun s l (c ++ x :: d) (c ++ x :: d).length = some (out, 2 ^ fullN s.cells - 1)) :
    lowZ cov < fullN s.cells ∧ ∃ m, 0 ≤ x.plate ∧ x.plate.toNat < l.length ∧ x = laidN s (lowZ cov) x.plate.toNat x.turned ∧ coverOf s l x = some m ∧ m &&& cov = 0 ∧ (usedN c c.length x.plate : Int) + 1 ≤ (plateAt l x.plate.toNat).N := by
  have his := setRun_is hf
  have hlen : (c ++ x :: d).length = c.length + 1 + d.length := by simp; omega
  obtain ⟨st, hst⟩ := runs_prefix (f := setStep s l (c ++ x :: d)) (a := ([], 0)) hf (show c.length + 1 ≤ (c ++ x :: d).length by omega)
  obtain ⟨m, ⟨h1, h2, h3, h4⟩, _⟩ := (setRun_step h.run).2 st hst
  have hp := cover_plate h2
  have hsm := h.is.small ok
  obtain ⟨z1, z2, z3⟩ := lowZ_spec hsm
  have hx0 : 0 ≤ numL s x := by
    have := prevNum_ge s c c.length
    omega
  obtain ⟨b, hb⟩ := Int.eq_ofNat_of_zero_le hx0
  have hself := cover_self ok okl h2 hb
  have hbF : b < fullN s.cells := (cover_lt ok h2 hself).1
  have hge : lowZ cov ≤ b := by
    rcases Nat.lt_or_ge b (lowZ cov) with h' | h'
    · exact ((and_zero.1 h3) b hself (z3 b h')).elim
    · exact h'
  have hn : lowZ cov < fullN s.cells := by omega
  have hle : b ≤ lowZ cov := by
    have hbit : (2 ^ fullN s.cells - 1).testBit (lowZ cov) = true := by
      rw [Nat.testBit_two_pow_sub_one]
      simpa using hn
    obtain ⟨j, hj, e⟩ := (his.bits _).1 hbit
    have hcj := his.cover j hj
    have hnj := his.num j hj
    have hj0 : 0 ≤ numL s (laidAt (c ++ x :: d) j) := by
      have := prevNum_ge s (c ++ x :: d) j
      omega
    have hgj := cover_ge ok hcj hj0 e
    rcases Nat.lt_or_ge j c.length with h' | h'
    · exfalso
      rw [laidAt_append h'] at hcj
      have hc2 := h.is.cover j h'
      rw [hcj] at hc2
      have e2 := Option.some.inj hc2
      have : cov.testBit (lowZ cov) = true := (h.is.bits _).2 ⟨j, h', by rw [← e2]; exact e⟩
      rw [z1] at this
      cases this
    · have mono : ∀ k, c.length ≤ k → k < (c ++ x :: d).length → (b : Int) ≤ numL s (laidAt (c ++ x :: d) k) := by
        intro k
        induction k with
        | zero =>
          intro h0 hk
          have e0 : c.length = 0 := by omega
          have := laidAt_mid c x d
          rw [e0] at this
          rw [this, hb]
          exact Int.le_refl _
        | succ k ih =>
          intro hc hk
          rcases Nat.lt_or_ge k c.length with h'' | h''
          · have e0 : c.length = k + 1 := by omega
            have := laidAt_mid c x d
            rw [e0] at this
            rw [this, hb]
            exact Int.le_refl _
          · have i1 := ih h'' (by omega)
            have i2 := his.num (k + 1) hk
            have i2 : numL s (laidAt (c ++ x :: d) k) < numL s (laidAt (c ++ x :: d) (k + 1)) := i2
            omega
      have := mono j h' hj
      omega
  have hbn : b = lowZ cov := by omega
  subst hbn
  exact ⟨hn, m, hp.1, by omega, laidN_of ok hb hp.1, h2, h3, h4⟩

/-! ### all compositions, in order -/
def kidOk (s : Shape) (l : List Plate) (c : List Laid) (cov i : Nat) (t : Bool) : Option Nat :=
  match coverOf s l (laidN s (lowZ cov) i t) with
  | none => none
  | some m => if (plateAt l i).N - (usedN c c.length (i : Int) : Int) = 0 ∨ m &&& cov ≠ 0 then none else some m
/-- The sorts, in order. -/
def sorts (l : List Plate) : List (Nat × Bool) := (List.range l.length).flatMap fun i => [(i, false), (i, true)]
def comps (s : Shape) (l : List Plate) : Nat → List Laid → List Nat → Nat → List (List Laid × List Nat)
  | 0, _, _, _ => []
  | f + 1, c, all, cov => if fullN s.cells ≤ lowZ cov then [(c, all)] else
      (sorts l).flatMap fun q => match kidOk s l c cov q.1 q.2 with
        | none => []
        | some m => comps s l f (c ++ [laidN s (lowZ cov) q.1 q.2]) (all ++ [m]) (cov ||| m)
theorem mem_sorts {l : List Plate} {i : Nat} {t : Bool} : (i, t) ∈ sorts l ↔ i < l.length := by
  unfold sorts
  rw [List.mem_flatMap]
  constructor
  · rintro ⟨j, hj, h⟩
    rw [List.mem_range] at hj
    simp only [List.mem_cons, List.not_mem_nil, or_false, Prod.mk.injEq] at h
    omega
  · intro h
    refine ⟨i, List.mem_range.2 h, ?_⟩
    cases t <;> simp
theorem usedN_le_N {s : Shape} {l : List Plate} {c : List Laid} {k : Nat} {out : List Nat} {all : Nat} (okl : platesB l = true) (h : SetIs s l c k out all) {i : Nat} (hi : i < l.length) : (usedN c k (i : Int) : Int) ≤ (plateAt l i).N := by
  have hget : l[i]? = some (plateAt l i) := by
    have := List.getElem?_eq_getElem hi
    rw [this, plateAt_eq this]
  have okp := (plate_ok okl hget).n
  -- the last one of that sort
  have key : ∀ j, j ≤ k → (usedN c j (i : Int) : Int) ≤ (plateAt l i).N := by
    intro j
    induction j with
    | zero =>
      intro _
      unfold usedN
      simp
      exact okp.1
    | succ j ih =>
      intro hj
      by_cases hp : (laidAt c j).plate = i
      · have := h.used j (by omega)
        rw [hp, Int.toNat_natCast] at this
        exact this
      · have ih := ih (by omega)
        unfold usedN at ih ⊢
        rw [List.take_add_one]
        cases hc : c[j]? with
        | none => simpa using ih
        | some x =>
          have hx : laidAt c j = x := laidAt_eq hc
          rw [hx] at hp
          rw [List.countP_append]
          simp only [Option.toList_some, List.countP_singleton, decide_eq_true_eq, hp, if_false, Nat.add_zero]
          exact ih
  exact key k (Nat.le_refl _)
theorem kidOk_some {s : Shape} {l : List Plate} {c : List Laid} {all : List Nat} {cov i : Nat} {t : Bool} {m : Nat} (okl : platesB l = true) (h : Part s l c all cov) (hi : i < l.length) :
    kidOk s l c cov i t = some m ↔ coverOf s l (laidN s (lowZ cov) i t) = some m ∧ m &&& cov = 0 ∧ (usedN c c.length (i : Int) : Int) + 1 ≤ (plateAt l i).N := by
  have hu := usedN_le_N okl h.is hi
  unfold kidOk
  constructor
  · intro hk
    split at hk
    · cases hk
    · rename_i m' hm
      split at hk
      · cases hk
      · rename_i hg
        rw [not_or] at hg
        cases hk
        exact ⟨hm, Classical.not_not.1 hg.2, by have := hg.1; omega⟩
  · rintro ⟨h1, h2, h3⟩
    rw [h1]
    show (if _ then _ else _) = _
    rw [if_neg]
    rintro (h | h)
    · omega
    · exact h h2
theorem full_of_low {s : Shape} {l : List Plate} {c : List Laid} {k : Nat} {all : List Nat} {cov : Nat} (ok : s.Ok) (h : SetIs s l c k all cov) (hf : fullN s.cells ≤ lowZ cov) : cov = 2 ^ fullN s.cells - 1 := by
  obtain ⟨_, _, h3⟩ := lowZ_spec (h.small ok)
  exact (full_bits (fun b hb => h.bit_lt ok hb)).2 fun b hb => h3 b (by omega)
theorem low_of_full {s : Shape} (ok : s.Ok) : lowZ (2 ^ fullN s.cells - 1) = fullN s.cells := by
  have h2 : 2 ^ fullN s.cells ≤ 2 ^ 16 := Nat.pow_le_pow_right (by omega) ok.full.2
  refine lowZ_eq (by omega) ?_ fun j hj => ?_
  · rw [Nat.testBit_two_pow_sub_one]
    simp
  · rw [Nat.testBit_two_pow_sub_one]
    simpa using hj
/-- What the search finds are just the compositions that begin so. -/
theorem mem_comps {s : Shape} {l : List Plate} (ok : s.Ok) (okl : platesB l = true) : ∀ {f : Nat} {c : List Laid} {all : List Nat} {cov : Nat} {c' : List Laid} {out : List Nat}, Part s l c all cov → fullN s.cells + 1 ≤ f + lowZ cov →
    ((c', out) ∈ comps s l f c all cov ↔ c <+: c' ∧ setRun s l c' c'.length = some (out, 2 ^ fullN s.cells - 1))
  | 0, c, all, cov, c', out, h, hf => by
    have := lowZ_le ok h.is
    omega
  | f + 1, c, all, cov, c', out, h, hf => by
    unfold comps
    by_cases hfull : fullN s.cells ≤ lowZ cov
    · rw [if_pos hfull, List.mem_singleton]
      have hcov := full_of_low ok h.is hfull
      constructor
      · intro e
        cases e
        exact ⟨List.prefix_refl _, by rw [h.run, hcov]⟩
      · rintro ⟨⟨d, rfl⟩, hrun⟩
        cases d with
        | nil =>
          rw [List.append_nil, h.run] at hrun
          rw [List.append_nil]
          simp only [Option.some.injEq, Prod.mk.injEq] at hrun
          rw [hrun.1]
        | cons x d =>
          have := (h.next ok okl hrun).1
          omega
    · rw [if_neg hfull, List.mem_flatMap]
      constructor
      · rintro ⟨⟨i, t⟩, hq, hm⟩
        have hi := mem_sorts.1 hq
        split at hm
        · simp at hm
        · rename_i m hk
          have hk := (kidOk_some okl h hi).1 hk
          obtain ⟨hp, hlt⟩ := h.add ok okl (by omega) hk.1 hk.2.1 hk.2.2
          obtain ⟨h1, h2⟩ := (mem_comps ok okl hp (by omega)).1 hm
          exact ⟨(List.prefix_append _ _).trans h1, h2⟩
      · rintro ⟨⟨d, rfl⟩, hrun⟩
        cases d with
        | nil =>
          rw [List.append_nil, h.run] at hrun
          simp only [Option.some.injEq, Prod.mk.injEq] at hrun
          have := low_of_full ok
          rw [← hrun.2] at this
          omega
        | cons x d =>
          obtain ⟨hn, m, p1, p2, hx, h1, h2, h3⟩ := h.next ok okl hrun
          refine ⟨(x.plate.toNat, x.turned), mem_sorts.2 p2, ?_⟩
          have hpl : ((x.plate.toNat : Nat) : Int) = x.plate := by omega
          have hk : kidOk s l c cov x.plate.toNat x.turned = some m := (kidOk_some okl h p2).2 ⟨by rw [← hx]; exact h1, h2, by rw [hpl]; exact h3⟩
          rw [hk]
          obtain ⟨hp, hlt⟩ := h.add ok okl hn (i := x.plate.toNat) (t := x.turned) (by rw [← hx]; exact h1) h2 (by rw [hpl]; exact h3)
          refine (mem_comps ok okl hp (by omega)).2 ?_
          rw [← hx]
          refine ⟨⟨d, by simp⟩, ?_⟩
          exact hrun
end Go.Proofs.YtpikemglnnjemaaDoor

namespace Go.Proofs.YtpikemglnnjemaaDoor
open Go.RowKit

/-! ### the order -/
def beforeL : List Laid → List Laid → Bool
  | x :: a, y :: b => if x.plate ≠ y.plate then decide (x.plate < y.plate) else if x.turned ≠ y.turned then y.turned else beforeL a b
  | _, _ => false
theorem beforeL_irr : ∀ a : List Laid, beforeL a a = false
  | [] => rfl
  | x :: a => by
    unfold beforeL
    simp [beforeL_irr a]
theorem beforeL_asymm : ∀ {a b : List Laid}, beforeL a b = true → beforeL b a = false
  | [], _, h => by simp [beforeL] at h
  | _ :: _, [], h => by simp [beforeL] at h
  | x :: a, y :: b, h => by
    unfold beforeL at h ⊢
    by_cases hp : x.plate = y.plate
    · rw [if_neg (by simpa using hp)] at h
      rw [if_neg (by simpa using hp.symm)]
      by_cases ht : x.turned = y.turned
      · rw [if_neg (by simpa using ht)] at h
        rw [if_neg (by simpa using ht.symm)]
        exact beforeL_asymm h
      · rw [if_pos (by simpa using ht)] at h
        rw [if_pos (by simpa using fun e => ht e.symm)]
        cases hx : x.turned
        · rfl
        · rw [hx, h] at ht
          exact absurd rfl ht
    · rw [if_pos hp] at h
      rw [if_pos (fun e => hp e.symm)]
      have : x.plate < y.plate := by simpa using h
      simp
      omega
def sortLt (p q : Nat × Bool) : Prop := p.1 < q.1 ∨ p.1 = q.1 ∧ p.2 = false ∧ q.2 = true
theorem sorts_sorted (l : List Plate) : (sorts l).Pairwise sortLt := by
  unfold sorts
  rw [List.pairwise_flatMap]
  constructor
  · intro i _
    simp [sortLt]
  · refine List.pairwise_lt_range.imp ?_
    intro i j hij x hx y hy
    simp only [List.mem_cons, List.not_mem_nil, or_false] at hx hy
    left
    rcases hx with rfl | rfl <;> rcases hy with rfl | rfl <;> exact hij
theorem comps_prefix {s : Shape} {l : List Plate} : ∀ {f : Nat} {c : List Laid} {all : List Nat} {cov : Nat} {p : List Laid × List Nat}, p ∈ comps s l f c all cov → c <+: p.1
  | 0, _, _, _, _, h => by simp [comps] at h
  | f + 1, c, all, cov, p, h => by
    unfold comps at h
    split at h
    · rw [List.mem_singleton] at h
      rw [h]
      exact List.prefix_refl _
    · rw [List.mem_flatMap] at h
      obtain ⟨q, _, hq⟩ := h
      split at hq
      · simp at hq
      · exact (List.prefix_append _ _).trans (comps_prefix hq)
theorem before_mid {c a b : List Laid} {x y : Laid} (hp : c ++ [x] <+: a) (hq : c ++ [y] <+: b) (h : x.plate < y.plate ∨ x.plate = y.plate ∧ x.turned = false ∧ y.turned = true) : beforeL a b = true := by
  obtain ⟨d, rfl⟩ := hp
  obtain ⟨e, rfl⟩ := hq
  rw [List.append_assoc, List.append_assoc]
  induction c with
  | nil =>
    show beforeL (x :: d) (y :: e) = true
    unfold beforeL
    rcases h with h | ⟨h1, h2, h3⟩
    · rw [if_pos (by omega)]
      simpa using h
    · rw [if_neg (by simpa using h1), if_pos (by rw [h2, h3]; simp)]
      exact h3
  | cons z c ih =>
    show beforeL (z :: _) (z :: _) = true
    unfold beforeL
    rw [if_neg (by simp), if_neg (by simp)]
    exact ih
theorem comps_sorted {s : Shape} {l : List Plate} : ∀ (f : Nat) (c : List Laid) (all : List Nat) (cov : Nat), (comps s l f c all cov).Pairwise (fun p q => beforeL p.1 q.1 = true)
  | 0, _, _, _ => List.Pairwise.nil
  | f + 1, c, all, cov => by
    unfold comps
    split
    · exact List.pairwise_singleton _ _
    · rw [List.pairwise_flatMap]
      constructor
      · intro q _
        split
        · exact List.Pairwise.nil
        · exact comps_sorted f _ _ _
      · refine (sorts_sorted l).imp ?_
        intro p q hpq x hx y hy
        split at hx
        · simp at hx
        · split at hy
          · simp at hy
          · refine before_mid (comps_prefix hx) (comps_prefix hy) ?_
            rcases hpq with h | ⟨h1, h2, h3⟩
            · left
              show (p.1 : Int) < (q.1 : Int)
              omega
            · right
              refine ⟨?_, h2, h3⟩
              show (p.1 : Int) = (q.1 : Int)
              omega

/-! ### the search with a state -/
section
variable {σ : Type} (longF : σ → Nat → Bool) (seeF : σ → List Laid → List Nat → σ) (s : Shape) (l : List Plate)
def growS : Nat → σ → List Laid → List Nat → Nat → σ
  | 0, st, _, _, _ => st
  | f + 1, st, c, all, cov => if longF st c.length = true then st else if fullN s.cells ≤ lowZ cov then seeF st c all else
      (sorts l).foldl (fun st q => match kidOk s l c cov q.1 q.2 with
        | none => st
        | some m => growS f st (c ++ [laidN s (lowZ cov) q.1 q.2]) (all ++ [m]) (cov ||| m)) st
/-- What one sort adds. -/
def kidS (f : Nat) (c : List Laid) (all : List Nat) (cov : Nat) (st : σ) (q : Nat × Bool) : σ := match kidOk s l c cov q.1 q.2 with
  | none => st
  | some m => growS longF seeF s l f st (c ++ [laidN s (lowZ cov) q.1 q.2]) (all ++ [m]) (cov ||| m)
def growTo (f : Nat) (c : List Laid) (all : List Nat) (cov : Nat) (st : σ) (k : Nat) : σ := ((sorts l).take k).foldl (kidS longF seeF s l f c all cov) st
theorem sorts_len (l : List Plate) : (sorts l).length = 2 * l.length := by
  unfold sorts
  rw [List.length_flatMap]
  simp only [List.length_cons, List.length_nil]
  rw [List.map_const', List.sum_replicate_nat, List.length_range]
  omega
theorem sorts_get {l : List Plate} {i : Nat} (hi : i < l.length) (t : Bool) : (sorts l)[2 * i + t.toNat]? = some (i, t) := by
  have key : ∀ n, i < n → ((List.range n).flatMap fun i => [(i, false), (i, true)])[2 * i + t.toNat]? = some (i, t) := by
    intro n
    induction n with
    | zero => intro h; omega
    | succ n ih =>
      intro h
      have hlen : ((List.range n).flatMap fun i => [((i : Nat), false), (i, true)]).length = 2 * n := by
        rw [List.length_flatMap]
        simp only [List.length_cons, List.length_nil]
        rw [List.map_const', List.sum_replicate_nat, List.length_range]
        omega
      have ht : t.toNat ≤ 1 := by cases t <;> simp
      rw [List.range_succ, List.flatMap_append]
      rcases Nat.lt_or_ge i n with h' | h'
      · rw [List.getElem?_append_left (by omega)]
        exact ih h'
      · obtain rfl : i = n := by omega
        rw [List.getElem?_append_right (by omega), hlen]
        cases t <;> simp
  exact key _ hi
theorem growTo_succ {f : Nat} {c : List Laid} {all : List Nat} {cov : Nat} {st : σ} {i : Nat} (hi : i < l.length) (t : Bool) :
    growTo longF seeF s l f c all cov st (2 * i + t.toNat + 1) = kidS longF seeF s l f c all cov (growTo longF seeF s l f c all cov st (2 * i + t.toNat)) (i, t) := by
  unfold growTo
  rw [List.take_add_one, sorts_get hi t, List.foldl_append]
  rfl
theorem growS_go {f : Nat} {c : List Laid} {all : List Nat} {cov : Nat} {st : σ} (h1 : longF st c.length = false) (h2 : lowZ cov < fullN s.cells) :
    growS longF seeF s l (f + 1) st c all cov = growTo longF seeF s l f c all cov st (2 * l.length) := by
  show (if _ then _ else _) = _
  rw [h1, if_neg (by simp), if_neg (by omega)]
  unfold growTo
  rw [← sorts_len, List.take_of_length_le (Nat.le_refl _)]
  rfl
variable {longF seeF s l}
theorem foldl_same {α β : Type} {h : β → α → β} {b : β} : ∀ {xs : List α}, (∀ x ∈ xs, h b x = b) → xs.foldl h b = b
  | [], _ => rfl
  | x :: xs, hx => by
    rw [List.foldl_cons, hx x (by simp)]
    exact foldl_same fun y hy => hx y (by simp [hy])
theorem growS_eq (hl : ∀ st k c out, longF st k = true → k ≤ c.length → seeF st c out = st) : ∀ (f : Nat) (st : σ) (c : List Laid) (all : List Nat) (cov : Nat),
    growS longF seeF s l f st c all cov = (comps s l f c all cov).foldl (fun st p => seeF st p.1 p.2) st
  | 0, _, _, _, _ => rfl
  | f + 1, st, c, all, cov => by
    by_cases h1 : longF st c.length = true
    · have e : growS longF seeF s l (f + 1) st c all cov = st := by
        show (if _ then _ else _) = _
        rw [if_pos h1]
      rw [e]
      exact (foldl_same fun p hp => hl st _ p.1 p.2 h1 (comps_prefix hp).length_le).symm
    · show (if _ then _ else _) = _
      unfold comps
      rw [if_neg h1]
      split
      · rfl
      · rw [List.foldl_flatMap]
        congr 1
        funext st q
        generalize kidOk s l c cov q.1 q.2 = r
        cases r with
        | none => rfl
        | some m => exact growS_eq hl f _ _ _ _
end

/-! ### all compositions of a shape -/
def allComps (s : Shape) (l : List Plate) : List (List Laid × List Nat) := comps s l (fullN s.cells + 1) [] [] 0
theorem lowZ_zero : lowZ 0 = 0 := lowZ_eq (by omega) (by simp) fun j hj => by omega
theorem mem_all {s : Shape} {l : List Plate} (ok : s.Ok) (okl : platesB l = true) {c : List Laid} {out : List Nat} : (c, out) ∈ allComps s l ↔ setRun s l c c.length = some (out, 2 ^ fullN s.cells - 1) := by
  unfold allComps
  rw [mem_comps ok okl (Part.nil s l) (by omega)]
  exact ⟨fun h => h.2, fun h => ⟨List.nil_prefix, h⟩⟩
theorem mem_all_comp {s : Shape} {l : List Plate} (ok : s.Ok) (okl : platesB l = true) {c : List Laid} : (∃ out, (c, out) ∈ allComps s l) ↔ compB s l c = true := by
  rw [← set_comp ok]
  unfold setB
  constructor
  · rintro ⟨out, h⟩
    rw [mem_all ok okl] at h
    rw [h]
    simp
  · intro h
    split at h
    · cases h
    · rename_i st hst
      obtain ⟨out, all⟩ := st
      have h : all = 2 ^ fullN s.cells - 1 := by simpa using h
      exact ⟨out, (mem_all ok okl).2 (by rw [hst, h])⟩
theorem all_sorted (s : Shape) (l : List Plate) : (allComps s l).Pairwise (fun p q => beforeL p.1 q.1 = true) := comps_sorted _ _ _ _
theorem all_nodup (s : Shape) (l : List Plate) : (allComps s l).Nodup := (all_sorted s l).imp fun {p q} h e => by
  rw [e, beforeL_irr] at h
  cases h

/-! ### the best one -/
noncomputable def better (s : Shape) (c : List Laid) (out : List Nat) (b : List Laid × Nat) : Bool := decide (c.length < b.1.length ∨ c.length = b.1.length ∧ weakN s out < b.2)
open Classical in
noncomputable def seeB (s : Shape) (l : List Plate) (st : Option (List Laid × Nat)) (c : List Laid) (out : List Nat) : Option (List Laid × Nat) :=
  if hangB s l c = true then (match st with
    | none => some (c, weakN s out)
    | some b => if better s c out b = true then some (c, weakN s out) else some b) else st
def longB (st : Option (List Laid × Nat)) (k : Nat) : Bool := match st with
  | none => false
  | some b => decide (b.1.length < k)
theorem longB_see {s : Shape} {l : List Plate} (st : Option (List Laid × Nat)) (k : Nat) (c : List Laid) (out : List Nat) (h : longB st k = true) (hk : k ≤ c.length) : seeB s l st c out = st := by
  unfold longB at h
  split at h
  · cases h
  · rename_i b
    have h : b.1.length < k := by simpa using h
    unfold seeB better
    split
    · show (if _ then _ else _) = _
      rw [if_neg]
      simp
      omega
    · rfl
noncomputable def bestB (s : Shape) (l : List Plate) : Option (List Laid × Nat) := (allComps s l).foldl (fun st p => seeB s l st p.1 p.2) none
/-- What is known of the best one when some have been seen. -/
def BestOf (s : Shape) (l : List Plate) (xs : List (List Laid × List Nat)) : Option (List Laid × Nat) → Prop
  | none => ∀ p ∈ xs, hangB s l p.1 = false
  | some b => ∃ xs1 out xs2, xs = xs1 ++ (b.1, out) :: xs2 ∧ hangB s l b.1 = true ∧ b.2 = weakN s out ∧ (∀ p ∈ xs1, hangB s l p.1 = true → better s b.1 out (p.1, weakN s p.2) = true) ∧ ∀ p ∈ xs2, hangB s l p.1 = true → better s p.1 p.2 b = false
theorem better_iff {s : Shape} {c : List Laid} {out : List Nat} {b : List Laid × Nat} : better s c out b = true ↔ c.length < b.1.length ∨ c.length = b.1.length ∧ weakN s out < b.2 := by simp [better]
theorem BestOf.step {s : Shape} {l : List Plate} {xs : List (List Laid × List Nat)} {st : Option (List Laid × Nat)} (h : BestOf s l xs st) (p : List Laid × List Nat) : BestOf s l (xs ++ [p]) (seeB s l st p.1 p.2) := by
  obtain ⟨c, out⟩ := p
  unfold seeB
  by_cases hh : hangB s l c = true
  · rw [if_pos hh]
    cases st with
    | none =>
      refine ⟨xs, out, [], rfl, hh, rfl, fun p hp hp2 => ?_, fun p hp => by cases hp⟩
      rw [h p hp] at hp2
      cases hp2
    | some b =>
      obtain ⟨xs1, o, xs2, rfl, h1, h2, h3, h4⟩ := h
      show BestOf s l _ (if _ then _ else _)
      by_cases hb : better s c out b = true
      · rw [if_pos hb]
        refine ⟨xs1 ++ (b.1, o) :: xs2, out, [], by simp, hh, rfl, fun p hp hp2 => ?_, fun p hp => by cases hp⟩
        rw [better_iff] at hb
        rw [better_iff]
        rw [List.mem_append, List.mem_cons] at hp
        rcases hp with hp | rfl | hp
        · have := h3 p hp hp2
          rw [better_iff] at this
          simp only at this ⊢
          omega
        · simp only
          omega
        · have := h4 p hp hp2
          rw [← Bool.not_eq_true, better_iff] at this
          simp only at this ⊢
          omega
      · rw [if_neg hb]
        refine ⟨xs1, o, xs2 ++ [(c, out)], by simp, h1, h2, h3, fun p hp hp2 => ?_⟩
        rw [List.mem_append, List.mem_singleton] at hp
        rcases hp with hp | rfl
        · exact h4 p hp hp2
        · simpa using hb
  · rw [if_neg hh]
    have hf : hangB s l c = false := by simpa using hh
    cases st with
    | none =>
      intro p hp
      rw [List.mem_append, List.mem_singleton] at hp
      rcases hp with hp | rfl
      · exact h p hp
      · exact hf
    | some b =>
      obtain ⟨xs1, o, xs2, rfl, h1, h2, h3, h4⟩ := h
      refine ⟨xs1, o, xs2 ++ [(c, out)], by simp, h1, h2, h3, fun p hp hp2 => ?_⟩
      rw [List.mem_append, List.mem_singleton] at hp
      rcases hp with hp | rfl
      · exact h4 p hp hp2
      · rw [hf] at hp2
        cases hp2
theorem BestOf.all {s : Shape} {l : List Plate} : ∀ (ys xs : List (List Laid × List Nat)) (st : Option (List Laid × Nat)), BestOf s l xs st → BestOf s l (xs ++ ys) (ys.foldl (fun st p => seeB s l st p.1 p.2) st)
  | [], xs, st, h => by simpa using h
  | p :: ys, xs, st, h => by
    have := BestOf.all ys (xs ++ [p]) _ (h.step p)
    rw [List.append_assoc] at this
    exact this
theorem best_is (s : Shape) (l : List Plate) : BestOf s l (allComps s l) (bestB s l) := by
  have := BestOf.all (s := s) (l := l) (allComps s l) [] none (fun p hp => by cases hp)
  rw [List.nil_append] at this
  exact this
end Go.Proofs.YtpikemglnnjemaaDoor

namespace Go.Proofs.YtpikemglnnjemaaDoor
open Go.RowKit

/-- Of what was there in w, at most the blocks of K have turned in w'. -/
structure Only (K : Nat → Prop) (w w' : World) : Prop where
  os : w'.os = w.os
  tape : w'.tape = w.tape
  output : w'.output = w.output
  size : w.heap.size ≤ w'.heap.size
  block : ∀ k, k < w.heap.size → ¬ K k → w'.heap[k]? = w.heap[k]?
theorem Only.refl (K : Nat → Prop) (w : World) : Only K w w := ⟨rfl, rfl, rfl, Nat.le_refl _, fun _ _ _ => rfl⟩
theorem Only.trans {K K' : Nat → Prop} {a b c : World} (h : Only K a b) (k : Only K' b c) (hk : ∀ i, i < a.heap.size → K' i → K i) : Only K a c :=
  ⟨k.os.trans h.os, k.tape.trans h.tape, k.output.trans h.output, Nat.le_trans h.size k.size, fun i hi hK =>
    (k.block i (Nat.lt_of_lt_of_le hi h.size) (fun e => hK (hk i hi e))).trans (h.block i hi hK)⟩
theorem Only.mono {K K' : Nat → Prop} {a b : World} (h : Only K a b) (hk : ∀ i, i < a.heap.size → K i → K' i) : Only K' a b :=
  ⟨h.os, h.tape, h.output, h.size, fun i hi hK => h.block i hi (fun e => hK (hk i hi e))⟩
theorem Only.of_ext (K : Nat → Prop) {a b : World} (h : Ext a b) : Only K a b := ⟨h.1, h.2, h.3, h.size, fun k hk _ => h.block k hk⟩
theorem Only.ext {K : Nat → Prop} {a b c : World} (h : Only K a b) (k : Ext b c) : Only K a c := h.trans (Only.of_ext (fun _ => False) k) (fun _ _ e => e.elim)
theorem Only.alloc {K : Nat → Prop} {a b : World} (h : Only K a b) (o : Obj) : Only K a (b.alloc o) := h.ext ((Ext.refl b).alloc o)
theorem Only.of_grown {K : Nat → Prop} {a b : World} {row : Option Nat} (h : a.grownBy b row) (hk : ∀ r, row = some r → K r) : Only K a b :=
  ⟨h.os, h.tape, h.output, h.size, fun k hk' hK => h.block k hk' (fun e => hK (hk k e.symm))⟩
theorem Only.grown {K : Nat → Prop} {a b c : World} {row : Option Nat} (h : Only K a b) (g : b.grownBy c row) (hk : ∀ r, row = some r → r < a.heap.size → K r) : Only K a c :=
  h.trans (Only.of_grown (K := fun r => row = some r) g (fun _ e => e)) (fun i hi e => hk i e hi)
theorem Only.setCell {K : Nat → Prop} {a b : World} (h : Only K a b) {p : Addr} (hp : p.block < a.heap.size → K p.block) (u : Value) : Only K a (b.setCell p u) :=
  ⟨h.os, h.tape, h.output, by rw [show (b.setCell p u).heap.size = b.heap.size by simp [World.setCell]]; exact h.size, fun k hk hK => by
    have hne : k ≠ p.block := fun e => hK (by rw [e]; exact hp (by rw [← e]; exact hk))
    rw [Below.heap_setCell _ _ _ _ hne]
    exact h.block k hk hK⟩
theorem Only.below {K : Nat → Prop} {t a b : World} (h0 : Ext t a) (h : Only K a b) (hk : ∀ k, K k → t.heap.size ≤ k) : Ext t b :=
  ⟨h.os.trans h0.1, h.tape.trans h0.2, h.output.trans h0.3, Nat.le_trans h0.size h.size, fun k hk' =>
    (h.block k (Nat.lt_of_lt_of_le hk' h0.size) (fun e => by have := hk k e; omega)).trans (h0.block k hk')⟩
theorem Only.ext_of {K : Nat → Prop} {a b : World} (h : Only K a b) (hk : ∀ k, k < a.heap.size → ¬ K k) : Ext a b :=
  ⟨h.os, h.tape, h.output, h.size, fun k hk' => h.block k hk' (hk k hk')⟩
theorem Blk.only {K : Nat → Prop} {a b : World} {g : Nat} {t : TypeId} {cs : Array Value} (h : Blk a g t cs) (k : Only K a b) (hg : ¬ K g) : Blk b g t cs := (k.block g h.lt hg).trans h
theorem own_only {K : Nat → Prop} {a b : World} {base : Nat} {e : TypeId} {size : Nat} {v : Value} {n : Nat} {xs : List Value} (h : a.ownsRow base e size v n xs) (k : Only K a b) (hv : ∀ r, v.ownBlock = some r → ¬ K r) : b.ownsRow base e size v n xs := by
  obtain ⟨h1, h2⟩ := h
  refine ⟨h1, ?_⟩
  rcases h2 with h2 | ⟨g, cap, cur, hv', hg, hh, r⟩
  · exact Or.inl h2
  · refine Or.inr ⟨g, cap, cur, hv', hg, ?_, r⟩
    rw [k.block g (Array.getElem?_eq_some_iff.1 hh).1 (hv g (by rw [hv']; rfl))]
    exact hh
theorem SliceIs.only {K : Nat → Prop} {a b : World} {A : Option Addr} {n cap sz : Nat} {rows : List (List Value)} (h : SliceIs a A n cap sz rows) (k : Only K a b) (hA : ∀ q, A = some q → ¬ K q.block) : SliceIs b A n cap sz rows := by
  obtain ⟨h1, h2, h3, h4, h5⟩ := h
  refine ⟨h1, h2, h3, h4, fun hn => ?_⟩
  obtain ⟨g, off, rfl, hb, hc⟩ := h5 hn
  refine ⟨g, off, rfl, Nat.lt_of_lt_of_le hb k.size, fun i r hr j u hu => ?_⟩
  have := hc i r hr j u hu
  rw [← this]
  exact World.cell?_of_block (k.block g hb (hA _ rfl))

/-- The row's block is of the row's type. -/
theorem own_typed {w : World} {base : Nat} {e : TypeId} {size : Nat} {v : Value} {n : Nat} {xs : List Value} (h : w.ownsRow base e size v n xs) {r : Nat} (hr : v.ownBlock = some r) : ∃ cs, Blk w r e cs := by
  rcases h.2 with ⟨rfl, _⟩ | ⟨g, cap, cur, rfl, hg, hh, _⟩
  · cases hr
  · cases hr
    exact ⟨cur, hh⟩
theorem Blk.types {w : World} {g : Nat} {t t' : TypeId} {cs cs' : Array Value} (h : Blk w g t cs) (h' : Blk w g t' cs') : t = t' := by
  have := h.symm.trans h'
  cases this
  rfl
/-- A beginning of an owned row is owned. -/
theorem own_prefix {w : World} {base : Nat} {e : TypeId} {size g n m cap : Nat} {xs ys : List Value} (h : w.ownsRow base e size (.slice (some ⟨g, 0, none⟩) (n + m) cap) (n + m) (xs ++ ys)) (hl : xs.length = n * size) :
    w.ownsRow base e size (.slice (some ⟨g, 0, none⟩) n cap) n xs := by
  refine ⟨hl, Or.inr ?_⟩
  rcases h.2 with ⟨h0, _⟩ | ⟨g', cap', cur, hv, hg, hh, h1, h2, h3, h4⟩
  · cases h0
  · cases hv
    refine ⟨g, cap, cur, rfl, hg, hh, by omega, h2, h3, ?_⟩
    have := congrArg (List.take (n * size)) h4
    rw [List.take_take, List.take_left' hl] at this
    rw [← this]
    congr 1
    have : n * size ≤ (n + m) * size := Nat.mul_le_mul_right _ (by omega)
    omega

/-- What became of a row by an append: it is longer in its own block, or it lies in a new one. -/
def Fate (W w' : World) (base : Nat) (e : TypeId) (size : Nat) (v v' : Value) (n : Nat) (xs news : List Value) : Prop :=
  w'.ownsRow base e size v' (n + 1) (xs ++ news) ∧ ∃ g cap, v' = .slice (some ⟨g, 0, none⟩) (n + 1) cap ∧ ((v = .slice (some ⟨g, 0, none⟩) n cap ∧ W.grownBy w' (some g)) ∨ (W.heap.size ≤ g ∧ W.grownBy w' none))
section
variable {P : Program}
theorem run_append_fate (w : World) (base : Nat) (t ty e : TypeId) (i : TypeInfo) (z : Value) (size bytes : Nat) (ht : P.underlying t = some (.slice e)) (hi : P.info? e = some i) (hz : i.zero = some z)
    (hsize : i.size = size) (hby : i.bytes = bytes) (hzs : z.cells.size = size) (hsz : 0 < size)
    (v : Value) (n : Nat) (xs : List Value) (hown : w.ownsRow base e size v n xs)
    (g c : Nat) (news : List Value) (hl : news.length = size) (hnews : ∀ j, w.cell? ⟨g, j, none⟩ = news[j]?) (h1 : ∀ u ∈ news, u.oneCell' = true)
    (h63 : n + 1 ≤ maxLen) (hbytes : (n + 1) * bytes ≤ 140737488355328) (hbase : base ≤ w.heap.size) :
    ∃ v' w', (Builtin.append_ #[t, t] ty #[v, .slice (some ⟨g, 0, none⟩) 1 c]).run P w = .ok v' w' ∧ Fate w w' base e size v v' n xs news := by
  have hl' : news.length = 1 * size := by omega
  have hn' : ∀ j u, news[j]? = some u → w.cell? ((⟨g, 0, none⟩ : Addr).add j) = some u := fun j u hu => by rw [add_zero_addr, hnews j]; exact hu
  obtain ⟨v', w', hr, h2, h3, h4⟩ := run_append_own (P := P) w base t ty e i z size bytes ht hi hz hsize hby hzs hsz v n xs hown ⟨g, 0, none⟩ 1 c news hl' hn' h1 h63 hbytes hbase
  refine ⟨v', w', hr, h2, ?_⟩
  rcases hown.2 with ⟨rfl, rfl⟩ | ⟨b, cap, cur, rfl, hbg, hg, hnc, hcm, hcs, htake⟩
  · have hx : xs = [] := List.eq_nil_of_length_eq_zero (by simpa using hown.1)
    subst hx
    obtain ⟨v2, w2, hr2, h5, h6, _⟩ := run_append_own (P := P) w w.heap.size t ty e i z size bytes ht hi hz hsize hby hzs hsz (.slice none 0 0) 0 [] (World.ownsRow_nil w _ e size) ⟨g, 0, none⟩ 1 c news hl' hn' h1 h63 hbytes (Nat.le_refl _)
    rw [hr] at hr2
    cases hr2
    obtain ⟨b, cap, rfl⟩ := own_form h5 (by omega)
    exact ⟨b, cap, rfl, Or.inr ⟨(h5.lt b rfl).1, h6⟩⟩
  · by_cases hroom : n + 1 ≤ cap
    · have hr2 := run_append_room (P := P) w t ty e i ht hi b n cap cur hg ⟨g, 0, none⟩ 1 c news (by rw [hsize]; exact hl') hn' h1 hroom (by rw [hsize, hl', hcs, ← Nat.add_mul]; exact Nat.mul_le_mul_right _ hroom)
      rw [hr] at hr2
      injection hr2 with e1 e2
      exact ⟨b, cap, e1, Or.inl ⟨rfl, h3⟩⟩
    · have hx : ∀ j u, xs[j]? = some u → w.cell? ((⟨b, 0, none⟩ : Addr).add j) = some u := hown.cells (g := b) rfl
      obtain ⟨v2, w2, hr2, h5, h6⟩ := run_append_arg_grows (P := P) w t ty e i z size bytes ht hi hz hsize hby hzs hsz ⟨b, 0, none⟩ n cap xs hown.1 hx ⟨g, 0, none⟩ 1 c news hl' hn' (by omega) h63 hbytes
      rw [hr] at hr2
      cases hr2
      obtain ⟨b2, cap2, rfl⟩ := own_form h5 (by omega)
      exact ⟨b2, cap2, rfl, Or.inr ⟨(h5.lt b2 rfl).1, h6⟩⟩
/-- The same as a step of a region. -/
theorem step_append_fate {w : World} {ops : Array Oper} {o : Oper} {a : Act} {K : Act → World → Prop} {Q : Exit → Act → World → Prop} {F : Prop} (hgd : o.guard = none) (s x : Operand) (t : TypeId) (ho : o.op = .call { callee := .builtin .append, args := #[s, x], argTypes := #[t, t] })
    (base : Nat) (e : TypeId) (i : TypeInfo) (z : Value) (size bytes : Nat) (ht : P.underlying t = some (.slice e)) (hi : P.info? e = some i) (hz : i.zero = some z)
    (hsize : i.size = size) (hby : i.bytes = bytes) (hzs : z.cells.size = size) (hsz : 0 < size)
    (v : Value) (n : Nat) (xs : List Value) (hs : a.eval s = v) (hown : w.ownsRow base e size v n xs)
    (g c : Nat) (news : List Value) (hx : a.eval x = .slice (some ⟨g, 0, none⟩) 1 c) (hl : news.length = size) (hnews : ∀ j, w.cell? ⟨g, j, none⟩ = news[j]?) (h1 : ∀ u ∈ news, u.oneCell' = true)
    (h63 : n + 1 ≤ maxLen) (hbytes : (n + 1) * bytes ≤ 140737488355328) (hbase : base ≤ w.heap.size)
    (h : ∀ v' w', Fate w w' base e size v v' n xs news → K (a.put o.dst v') w') : if Region.wanted o (yielded ops a.tmps) = true then o.wp P a w K Q else F := by
  rw [if_pos (by simp [Region.wanted, hgd])]
  obtain ⟨v', w', hr, hf⟩ := run_append_fate (P := P) w base t o.type e i z size bytes ht hi hz hsize hby hzs hsz v n xs hown g c news hl hnews h1 h63 hbytes hbase
  unfold Oper.wp execOp
  simp only [ho, resolve, invoke, builtin, Sem.run_bind, Sem.run_pure, Result.andThen_ok, List.map_toArray, List.map_cons, List.map_nil, hs, hx, hr]
  exact h v' w' hf
end
end Go.Proofs.YtpikemglnnjemaaDoor

namespace Go.Proofs.YtpikemglnnjemaaDoor
open Go.RowKit

set_option maxHeartbeats 1000000 in
theorem indexInt_c (A : Option Addr) (cap : Nat) (xs : List Int) (v : Int) (i : Nat) (hi : xs[i]? = some v) (hno : ∀ j, j < i → xs[j]? ≠ some v) (w : World) (hs : Ints w A cap xs) :
    Calls Tryd.prog 126 #[.slice A xs.length cap, .int .i64 v] w fun e w' => e = .returned (.int .i64 (i : Int)) ∧ w = w' := by
  have hl := hs.len
  unfold maxLen at hl
  have hil : i < xs.length := (List.getElem?_eq_some_iff.1 hi).1
  have Hi := Lib.hid hi
  have Hno := Lib.hid hno
  clear hi hno
  go_enter Tryd.func126, Tryd.ntmps126
  go_wp2
  go_loop [8] (fun iv => ∃ k : Nat, k ≤ i ∧ iv = .int .i64 k) (fun iv => i + 1 - (intOf iv).toNat)
  case atStart => exact ⟨0, by omega, rfl⟩
  case round =>
    obtain ⟨k, hk, rfl⟩ := hrel
    have hkl : k < xs.length := by omega
    obtain ⟨b, off, rfl, hb, hc⟩ := hs.at_ (List.getElem?_eq_getElem hkl)
    obtain ⟨u, hu⟩ : ∃ u, xs[k] = u := ⟨_, rfl⟩
    rw [hu] at hc
    by_cases he : k = i
    · subst he
      have hv : u = v := by
        have := Hi.out
        rw [List.getElem?_eq_getElem hkl, hu] at this
        exact Option.some.inj this
      subst hv
      clear hu
      go_wp2
      go_ret
      exact ⟨rfl, rfl⟩
    · have hne : (v == u) = false := by
        have h1 := Hno.out k (by omega)
        rw [List.getElem?_eq_getElem hkl, hu] at h1
        simp
        exact fun e => h1 (by rw [e])
      clear hu
      go_wp2
      go_round
      case rel => exact ⟨k + 1, by omega, by go_num⟩
      case measure => simp only [intOf]; omega

set_option maxRecDepth 100000 in
set_option maxHeartbeats 4000000 in
theorem cell_c (g : Nat) (s : Shape) (A : Option Addr) (cap : Nat) (NA : Option Addr) (ncap : Nat) (ok : s.Ok) (n : Nat) (hn : n < fullN s.cells) (w : World) (hB : Base w g s A cap NA ncap) :
    Calls Tryd.prog 103 #[.pointer (some ⟨g, 0, none⟩), .int .i64 (n : Int)] w fun e w' => e = .returned (.agg #[.int .i64 (s.px (placeN s n)), .int .i64 (s.py (placeN s n)), .int .i64 (s.pz (placeN s n))]) ∧ Ext w w' := by
  obtain ⟨h1, h2, h3, _⟩ := place_num ok hn
  obtain ⟨k, hk⟩ : ∃ k, placeN s n = k := ⟨_, rfl⟩
  rw [hk] at h1 h2 ⊢
  obtain ⟨px, hpx⟩ : ∃ px, s.px k = px := ⟨_, rfl⟩
  obtain ⟨py, hpy⟩ : ∃ py, s.py k = py := ⟨_, rfl⟩
  obtain ⟨pz, hpz⟩ : ∃ pz, s.pz k = pz := ⟨_, rfl⟩
  rw [hpx, hpy, hpz]
  have hget : (numsOf s.cells)[k]? = some (n : Int) := by rw [numsOf_get h1, h2]
  have hno : ∀ j, j < k → (numsOf s.cells)[j]? ≠ some (n : Int) := fun j hj e => by
    rw [numsOf_get (by omega)] at e
    have e := Option.some.inj e
    have := numOf_inj (by omega) (e.trans h2.symm)
    omega
  have hidx := fun W (E : Ext w W) => indexInt_c NA ncap (numsOf s.cells) n k hget hno W (hB.nums.ext E)
  rw [numsOf_len] at hidx
  have Hidx := Lib.hid hidx
  have hlen := s.len_le ok
  have w1 := ok.w
  have d1 := ok.d
  obtain ⟨w1, w2⟩ := w1
  obtain ⟨d1, d2⟩ := d1
  have b3 := Int.emod_nonneg (k : Int) (show s.W ≠ 0 by omega)
  have b4 := Int.emod_lt_of_pos (k : Int) (show 0 < s.W by omega)
  have c0 : 0 ≤ (k : Int) / s.W := Int.ediv_nonneg (by omega) (by omega)
  have c2 : (k : Int) / s.W ≤ k := Int.ediv_le_self _ (by omega)
  have e1 : (k : Int).tmod s.W = px := by rw [← hpx]; exact Int.tmod_eq_emod_of_nonneg (by omega)
  have e2 : (k : Int).tdiv s.W = (k : Int) / s.W := Int.tdiv_eq_ediv_of_nonneg (by omega)
  have f1 : (k : Int) % s.W = px := hpx
  have f2 : (k : Int) / s.W % s.D = py := hpy
  have f3 : (k : Int) / s.W / s.D = pz := hpz
  obtain ⟨q, hq⟩ : ∃ q, (k : Int) / s.W = q := ⟨_, rfl⟩
  rw [hq] at c0 c2 e2 f2 f3
  have b5 := Int.emod_nonneg q (show s.D ≠ 0 by omega)
  have b6 := Int.emod_lt_of_pos q (show 0 < s.D by omega)
  have c1 : 0 ≤ q / s.D := Int.ediv_nonneg c0 (by omega)
  have c3 : q / s.D ≤ q := Int.ediv_le_self _ c0
  have e3 : q.tmod s.D = py := by rw [← f2]; exact Int.tmod_eq_emod_of_nonneg c0
  have e4 : q.tdiv s.D = pz := by rw [← f3]; exact Int.tdiv_eq_ediv_of_nonneg c0
  rw [f1] at b3 b4
  rw [f2] at b5 b6
  rw [f3] at c1 c3
  have g1 : wrap64 q = q := by unfold wrap64; omega
  have g2 : wrap64 pz = pz := by unfold wrap64; omega
  clear h1 h2 h3 hk hget hno hidx hpx hpy hpz
  obtain ⟨W1, hW1, E1, B1, hz1⟩ := box_ w #[.int .i64 0, .int .i64 0, .int .i64 0] 77
  have base := hB.ext E1
  have a0 := base.c0
  have a1 := base.c1
  have a5 := base.c5
  go_enter Tryd.func103, Tryd.ntmps103
  go_wp2_with fail
  refine (Hidx.out _ E1).mono ?_
  rintro e w2 ⟨rfl, rfl⟩
  go_wp2_with fail
  refine wp_region_tail 34 (by kernel_rfl) (by kernel_rfl) ?_
  simp only [List.take_succ_cons, List.take_zero, List.drop_succ_cons, List.drop_zero]
  repeat (go_big_quiet_step (fail))
  refine wpQuiet_nil ?_
  intro W10 hW10
  have E10 : Ext W1 W10 := by
    obtain ⟨x, rfl⟩ := hW10
    exact (Ext.refl _).grow x
  clear hW10
  obtain ⟨hcW10, hfW10, hzW10⟩ := ext_facts E10
  have B10 := B1.ext E10
  have b10 := B10.cell
  have f10 := B10.frozen
  go_wp2_with fail
  have hW3 := ((B10.set_ 0 (.int .i64 px)).set_ 1 (.int .i64 py)).set_ 2 (.int .i64 pz)
  have c10 := hW3.cell
  refine bodyPost_ret (v := .agg #[.int .i64 px, .int .i64 py, .int .i64 pz]) (by simp [results, Tryd.results103, go_sem, c10]) rfl ⟨rfl, ?_⟩
  exact (((E1.trans E10).setCell (Nat.le_refl _) _).setCell (Nat.le_refl _) _).setCell (Nat.le_refl _) _
end Go.Proofs.YtpikemglnnjemaaDoor
