/- CheckPlates of the program. Laid plates in memory; At, size, index, Has of the reference. By and Lies of the reference. Blocks of numbers that the call makes. -/
import Derived.Test.YtaaeapjnjjbglaaGreatDoorCd2
import Derived.Test.YtaaeapjnjjbglaaGreatDoorCd6
import Derived.Laws.MakeOwn

namespace Go.Proofs.YtaaeapjnjjbglaaGreatDoor
open Go.RowKit

def sideI (q p : Plate) : Int := orI (cmpI q.W p.W) (cmpI q.D p.D)
theorem side_cases (q p : Plate) : (sideI q p = -1 ∧ pairB q p = true) ∨ (sideI q p = 1 ∧ pairB q p = false) ∨ (sideI q p = 0 ∧ pairB q p = (decide (q.color ≠ 0) && decide (q.color < p.color))) := by
  unfold sideI orI cmpI pairB
  rcases Int.lt_trichotomy q.W p.W with h | h | h
  · left
    simp [h]
  · rcases Int.lt_trichotomy q.D p.D with h' | h' | h'
    · left
      simp [h, h']
    · right
      right
      simp [h, h']
    · right
      left
      simp [h, h', show ¬ q.D < p.D by omega, show ¬ q.D = p.D by omega]
  · right
    left
    simp [h, show ¬ q.W < p.W by omega, show ¬ q.W = p.W by omega]

theorem okAt_one {l : List Plate} {k : Nat} {p : Plate} (hp : l[k]? = some p) (h : p.one = false) : okAt l k = false := by simp [okAt, plateAt_eq hp, h]
theorem okAt_two {l : List Plate} {k : Nat} {p q : Plate} (hp : l[k]? = some p) (hk : k ≠ 0) (hq : l[k - 1]? = some q) : okAt l k = (p.one && pairB q p) := by simp [okAt, plateAt_eq hp, plateAt_eq hq, hk]

set_option maxRecDepth 100000 in
set_option maxHeartbeats 4000000 in
theorem checkPlates_c (A : Option Addr) (cap : Nat) (l : List Plate) (w : World) (hs : Plates w A cap l) :
    Calls Tryz.prog 23 #[.slice A l.length cap] w fun e w' => e = .returned (.int .i64 (platesErr l)) ∧ Ext w w' := by
  have hl := hs.len
  unfold maxLen at hl
  cases h1 : inB 1 8 l.length
  · go_enter Tryz.func23, Tryz.ntmps23
    go_wp2_with fail
    refine (from_is h1 _).mono ?_
    rintro e w1 ⟨rfl, rfl⟩
    go_wp2_with fail
    go_ret
    exact ⟨by simp [platesErr, platesB, h1], Ext.refl _⟩
  have hl8 : l.length ≤ 8 := by have := inB_iff.1 h1; omega
  go_enter Tryz.func23, Tryz.ntmps23
  go_wp2_with fail
  refine (from_is h1 _).mono ?_
  rintro e w1 ⟨rfl, rfl⟩
  go_wp2_with fail
  have H1 := Lib.hid h1
  clear h1
  go_loopw [13] (fun i wr => ∃ k : Nat, k ≤ l.length ∧ i = .int .i64 k ∧ Ext w wr ∧ ∀ j, j < k → okAt l j = true) (fun i _ => l.length - (intOf i).toNat)
  case atStart => exact ⟨0, by omega, rfl, Ext.refl _, fun j hj => by omega⟩
  case round =>
    obtain ⟨k, hk, rfl, E, hj⟩ := hrel
    have Hj := Lib.hid hj
    clear hj
    by_cases hlt : k < l.length
    · obtain ⟨b, off, p, rfl, hp, hb, p0, p1, p2, p3⟩ := (hs.ext E).at_ hlt
      obtain ⟨W1, hW1, E1, B4, hz1⟩ := box_ wr #[.int .i64 p.W, .int .i64 p.D, .int .i64 p.N, .int .u8 p.color] 64
      have b4 := B4.cell
      have l4 := B4.lt
      have Hp := Lib.hid hp
      clear hp
      have hone : p.one = (inB 1 p.D p.W && (decide (p.D ≤ 8) && (inB 0 99 p.N && decide (p.color ≤ 15)))) := rfl
      have Hone := Lib.hid hone
      clear hone
      have bad : p.one = false → platesErr l = 71 := fun h => by rw [platesErr, platesB_bad hlt (okAt_one Hp.out h)]; rfl
      have Bad := Lib.hid bad
      clear bad
      cases c1 : inB 1 p.D p.W
      · go_wp2_with fail
        refine (from_is c1 _).mono ?_
        rintro e w1 ⟨rfl, rfl⟩
        go_wp2_with fail
        go_ret
        exact ⟨by rw [Bad.out (by rw [Hone.out]; simp [c1])]; rfl, E.trans E1⟩
      by_cases c2 : 8 < p.D
      · go_wp2_with fail
        refine (from_is c1 _).mono ?_
        rintro e w1 ⟨rfl, rfl⟩
        go_wp2_with fail
        go_ret
        exact ⟨by rw [Bad.out (by rw [Hone.out]; simp [show ¬ p.D ≤ 8 by omega])]; rfl, E.trans E1⟩
      cases c3 : inB 0 99 p.N
      · go_wp2_with fail
        refine (from_is c1 _).mono ?_
        rintro e w1 ⟨rfl, rfl⟩
        go_wp2_with fail
        refine (from_is c3 _).mono ?_
        rintro e w1 ⟨rfl, rfl⟩
        go_wp2_with fail
        go_ret
        exact ⟨by rw [Bad.out (by rw [Hone.out]; simp [c3])]; rfl, E.trans E1⟩
      by_cases c4 : 15 < p.color
      · go_wp2_with fail
        refine (from_is c1 _).mono ?_
        rintro e w1 ⟨rfl, rfl⟩
        go_wp2_with fail
        refine (from_is c3 _).mono ?_
        rintro e w1 ⟨rfl, rfl⟩
        go_wp2_with fail
        go_ret
        exact ⟨by rw [Bad.out (by rw [Hone.out]; simp [show ¬ p.color ≤ 15 by omega])]; rfl, E.trans E1⟩
      have hone : p.one = true := by rw [Hone.out, c1, c3, decide_eq_true (by omega), decide_eq_true (by omega)]; rfl
      clear Hone
      have Hone := Lib.hid hone
      clear hone
      by_cases hk0 : k = 0
      · subst hk0
        simp only [Nat.zero_mul, Nat.add_zero] at p0 p1 p2 p3
        go_wp2_with fail
        refine (from_is c1 _).mono ?_
        rintro e w1 ⟨rfl, rfl⟩
        go_wp2_with fail
        refine (from_is c3 _).mono ?_
        rintro e w1 ⟨rfl, rfl⟩
        go_wp2_with fail
        go_roundw
        case rel => exact ⟨1, by omega, rfl, E.trans E1, fun j hj => by
          obtain rfl : j = 0 := by omega
          simp [okAt, plateAt_eq Hp.out, Hone.out]⟩
        case measure => simp only [intOf]; omega
      · obtain ⟨b', off', q, hA', hq, hb', q0, q1, q2, q3⟩ := (hs.ext (E.trans E1)).at_ (k := k - 1) (by omega)
        cases hA'
        have Hq := Lib.hid hq
        clear hq
        obtain ⟨W2, hW2, E2, B5, hz2⟩ := box_ W1 #[.int .i64 q.W, .int .i64 q.D, .int .i64 q.N, .int .u8 q.color] 64
        have B4' := B4.ext E2
        rw [hz1] at B5
        have b4' := B4'.cell
        have b5 := B5.cell
        have hkc : (((k - 1 : Nat) : Nat) : Int) = (k : Int) - 1 := by omega
        have ht : ((k : Int) - 1).toNat = k - 1 := by omega
        have hk1 : (1 : Int) ≤ k := by omega
        go_wp2_with fail
        refine (from_is c1 _).mono ?_
        rintro e w1 ⟨rfl, rfl⟩
        go_wp2_with fail
        refine (from_is c3 _).mono ?_
        rintro e w1 ⟨rfl, rfl⟩
        go_wp2_with fail
        refine wp_region_tail 10 (by kernel_rfl) (by kernel_rfl) ?_
        simp only [List.take_succ_cons, List.take_zero, List.drop_succ_cons, List.drop_zero]
        repeat (go_big_quiet_step ((go_at_call 47; exact quiet_grow_same (compare_c _ _ _))))
        refine wpQuiet_nil ?_
        intro W3 hW3
        have E3 : Ext W2 W3 := by
          obtain ⟨x, rfl⟩ := hW3
          exact (Ext.refl _).grow x
        clear hW3
        obtain ⟨W4, hW4, E4, B6, hz4⟩ := box_ W3 #[.int .i64 (cmpI q.W p.W), .int .i64 (cmpI q.D p.D)] 3
        have EE := (((E.trans E1).trans E2).trans E3).trans E4
        have B4'' := (B4'.ext E3).ext E4
        have B5'' := (B5.ext E3).ext E4
        have c4' := B4''.cell
        have c5' := B5''.cell
        go_wp2_with fail
        refine (or_c W3.heap.size _ _ _ B6.lt (B6.cell 0) (B6.cell 1)).mono ?_
        rintro e w1 ⟨rfl, hw1⟩
        subst w1
        rw [show orI (cmpI q.W p.W) (cmpI q.D p.D) = sideI q p from rfl]
        have next : pairB q p = true → ∀ j, j < k + 1 → okAt l j = true := fun h j hj => by
          rcases Nat.lt_or_ge j k with h' | h'
          · exact Hj.out j h'
          · obtain rfl : j = k := by omega
            rw [okAt_two Hp.out hk0 Hq.out, Hone.out, h]
            rfl
        have Next := Lib.hid next
        clear next
        have bad : pairB q p = false → platesErr l = 71 := fun h => by
          rw [platesErr, platesB_bad hlt (by rw [okAt_two Hp.out hk0 Hq.out, h, Bool.and_false])]; rfl
        have Bad := Lib.hid bad
        clear bad
        rcases side_cases q p with ⟨hs0, hpair⟩ | ⟨hs0, hpair⟩ | ⟨hs0, hpair⟩
        · have Hpair := Lib.hid hpair
          clear hpair
          rw [hs0]
          go_wp2_with fail
          go_roundw
          case rel => exact ⟨k + 1, by omega, by go_num, EE, Next.out Hpair.out⟩
          case measure => simp only [intOf]; omega
        · have Hpair := Lib.hid hpair
          clear hpair
          rw [hs0]
          go_wp2_with fail
          go_ret
          exact ⟨by rw [Bad.out Hpair.out]; rfl, EE⟩
        · have Hpair := Lib.hid hpair
          clear hpair
          rw [hs0]
          by_cases hc0 : q.color = 0
          · have hb : pairB q p = false := by rw [Hpair.out]; simp [hc0]
            have Hb := Lib.hid hb
            clear hb
            go_wp2_with fail
            go_ret
            exact ⟨by rw [Bad.out Hb.out]; rfl, EE⟩
          · by_cases hc1 : q.color < p.color
            · have hb : pairB q p = true := by rw [Hpair.out]; simp [hc0, hc1]
              have Hb := Lib.hid hb
              clear hb
              have hc2 : decide (p.color ≤ q.color) = false := by simp; omega
              have hc3 : ¬ p.color ≤ q.color := by omega
              go_wp2_with fail
              go_roundw
              case rel => exact ⟨k + 1, by omega, by go_num, EE, Next.out Hb.out⟩
              case measure => simp only [intOf]; omega
            · have hb : pairB q p = false := by rw [Hpair.out]; simp [hc1]
              have Hb := Lib.hid hb
              clear hb
              go_wp2_with fail
              go_ret
              exact ⟨by rw [Bad.out Hb.out]; rfl, EE⟩
    · obtain rfl : k = l.length := by omega
      have hgood : platesErr l = 0 := by rw [platesErr, platesB_good H1.out Hj.out]; rfl
      have Hgood := Lib.hid hgood
      clear hgood
      go_wp2_with fail
      go_ret
      exact ⟨by rw [Hgood.out]; rfl, E⟩
end Go.Proofs.YtaaeapjnjjbglaaGreatDoor

namespace Go.Proofs.YtaaeapjnjjbglaaGreatDoor
open Go.RowKit

def Laid.cells (c : Laid) : List Value := [.int .i64 c.plate, .int .i64 c.x, .int .i64 c.y, .int .i64 c.z, .bool c.turned]
def Laids (w : World) (A : Option Addr) (cap : Nat) (c : List Laid) : Prop := SliceIs w A c.length cap 5 (c.map Laid.cells)
theorem Laids.ext {w w' : World} {A : Option Addr} {cap : Nat} {c : List Laid} (h : Laids w A cap c) (e : Ext w w') : Laids w' A cap c := SliceIs.ext h e
theorem Laids.len {w : World} {A : Option Addr} {cap : Nat} {c : List Laid} (h : Laids w A cap c) : c.length ≤ maxLen := Nat.le_trans h.le h.small
theorem Laids.at_ {w : World} {A : Option Addr} {cap : Nat} {c : List Laid} (h : Laids w A cap c) {k : Nat} (hk : k < c.length) :
    ∃ b off x, A = some ⟨b, off, none⟩ ∧ c[k]? = some x ∧ b < w.heap.size ∧ w.cell? ⟨b, off + k * 5, none⟩ = some (.int .i64 x.plate) ∧ w.cell? ⟨b, off + k * 5 + 1, none⟩ = some (.int .i64 x.x) ∧
      w.cell? ⟨b, off + k * 5 + 2, none⟩ = some (.int .i64 x.y) ∧ w.cell? ⟨b, off + k * 5 + 3, none⟩ = some (.int .i64 x.z) ∧ w.cell? ⟨b, off + k * 5 + 4, none⟩ = some (.bool x.turned) := by
  obtain ⟨b, off, hA, hb, hc⟩ := SliceIs.cells h (by omega)
  have hget : c[k]? = some c[k] := List.getElem?_eq_getElem hk
  have hr : (c.map Laid.cells)[k]? = some c[k].cells := by rw [List.getElem?_map, hget]; rfl
  exact ⟨b, off, c[k], hA, hget, hb, hc k _ hr 0 _ rfl, hc k _ hr 1 _ rfl, hc k _ hr 2 _ rfl, hc k _ hr 3 _ rfl, hc k _ hr 4 _ rfl⟩

/-- What is laid within bounds. -/
structure Laid.Ok (l : List Plate) (c : Laid) : Prop where
  p : 0 ≤ c.plate ∧ c.plate < l.length
  x : 0 ≤ c.x ∧ c.x ≤ 8
  y : 0 ≤ c.y ∧ c.y ≤ 8
  z : 0 ≤ c.z ∧ c.z ≤ 4
theorem laid_ok {s : Shape} {l : List Plate} {c : Laid} (ok : s.Ok) (h : liesB s l c = true) : c.Ok l := by
  rw [lies_iff] at h
  obtain ⟨hp, hin, _⟩ := h
  rw [Shape.inside_iff] at hin
  have w1 := ok.w
  have d1 := ok.d
  have h1 := ok.h
  exact ⟨hp, by omega, by omega, by omega⟩
theorem sizes {l : List Plate} {c : Laid} (okl : platesB l = true) (h : 0 ≤ c.plate ∧ c.plate < l.length) : (1 ≤ sizeW l c ∧ sizeW l c ≤ 8) ∧ 1 ≤ sizeD l c ∧ sizeD l c ≤ 8 := by
  have hlt : c.plate.toNat < l.length := by omega
  have hget : l[c.plate.toNat]? = some l[c.plate.toNat] := List.getElem?_eq_getElem hlt
  have okp := plate_ok okl hget
  have h1 := okp.w
  have h2 := okp.d
  unfold sizeW sizeD
  rw [plateAt_eq hget]
  cases c.turned
  · simp only [Bool.false_eq_true, if_false]
    omega
  · simp only [if_true]
    omega

theorem hasB_eq {l : List Plate} {c : Laid} {x y z : Int} {a b : Bool} (h : z = c.z) (h1 : inB c.x (c.x + sizeW l c - 1) x = a) (h2 : inB c.y (c.y + sizeD l c - 1) y = b) : hasB l c x y z = (a && b) := by
  unfold hasB
  rw [decide_eq_true h, h1, h2]
  rfl
end Go.Proofs.YtaaeapjnjjbglaaGreatDoor

namespace Go.Proofs.YtaaeapjnjjbglaaGreatDoor
open Go.RowKit

theorem byRun_lo {l : List Plate} {c : List Laid} {x y z : Int} {k : Nat} {r : Int} (h : byRun l c x y z k = some r) : -1 ≤ r ∧ r < k ∨ r = -1 := by
  rcases byRun_some h with ⟨e, _⟩ | ⟨i, hi, e, _⟩
  · exact Or.inr e
  · left; omega
theorem sameAll_bad {s : Shape} {color z x y : Int} {w d i j : Nat} (hi : i < d) (hj : j < w) (h : s.colorAt (x + j) (y + i) z ≠ color) : sameAll s color z x y w d = false := by
  cases hs : sameAll s color z x y w d
  · rfl
  · exact absurd (sameAll_iff.1 hs i hi j hj) h
theorem colorAt_lo (s : Shape) (hb : ∀ c ∈ s.cells, byteOk c) (x y z : Int) : 0 ≤ s.colorAt x y z ∧ s.colorAt x y z ≤ 255 := by
  unfold Shape.colorAt
  split
  · rw [List.getD_eq_getElem?_getD]
    cases h : s.cells[(s.idx x y z).toNat]? with
    | none => simp
    | some c => exact hb c (List.mem_of_getElem? h)
  · omega

end Go.Proofs.YtaaeapjnjjbglaaGreatDoor

namespace Go.Proofs.YtaaeapjnjjbglaaGreatDoor
open Go.RowKit

def iv (n : Int) : Value := .int .i64 n
theorem Bytes.grow_ {w : World} {A : Option Addr} {cap : Nat} {cs : List Int} (h : Bytes w A cap cs) (x : Growth) : Bytes (grow w x) A cap cs := h.ext ((Ext.refl w).grow x)
theorem Plates.grow_ {w : World} {A : Option Addr} {cap : Nat} {l : List Plate} (h : Plates w A cap l) (x : Growth) : Plates (grow w x) A cap l := h.ext ((Ext.refl w).grow x)
theorem Laids.grow_ {w : World} {A : Option Addr} {cap : Nat} {c : List Laid} (h : Laids w A cap c) (x : Growth) : Laids (grow w x) A cap c := h.ext ((Ext.refl w).grow x)
theorem Shape.len_le (s : Shape) (ok : s.Ok) : s.cells.length ≤ 256 := by
  have h1 := ok.w
  have h2 := ok.d
  have h3 := ok.h
  have e := mul_bd (A := 8) (B := 8) h1.1 h1.2 h2.1 h2.2
  have e2 := mul_bd (A := 64) (B := 4) e.1 e.2 h3.1 h3.2
  have := ok.len
  omega
theorem Shape.len_pos (s : Shape) (ok : s.Ok) : 0 < s.cells.length := by
  have := ok.full
  have := fullN_le s.cells
  omega
/-- The cells of a block of numbers. -/
def intsA (xs : List Int) : Array Value := (xs.map iv).toArray
theorem intsA_get (xs : List Int) (i : Nat) : (intsA xs)[i]? = xs[i]?.map iv := by simp [intsA]
theorem intsA_set (xs : List Int) (i : Nat) (v : Int) : (intsA xs).setIfInBounds i (.int .i64 v) = intsA (xs.set i v) := by
  unfold intsA
  rw [List.setIfInBounds_toArray, List.map_set]
  rfl
theorem infoInt : (Tryz.prog.info? 3).map (fun i => (i.zero, i.size, i.bytes)) = some (some (.int .i64 0), 1, 8) := by kernel_rfl
theorem make_ints (n : Nat) (hn : n ≤ 100000) (w : World) : (Instr.makeSlice 41 (.int .i64 (n : Int)) (.int .i64 (n : Int))).run Tryz.prog w = .ok (.slice (some ⟨w.heap.size, 0, none⟩) n n) (w.alloc (.cells (intsA (List.replicate n 0)) 3)) := by
  obtain ⟨i0, hi, hz0, hz1, hz2⟩ := info_parts infoInt
  have h := run_make (P := Tryz.prog) w 41 3 i0 (.int .i64 0) Tryz.underlying41 hi hz0 .i64 .i64 (n : Int) (n : Int) (by omega) (Int.le_refl _) (by rw [hz2]; omega) (by omega)
  rw [h]
  have e : madeCells (Value.cells (.int .i64 0)) ((n : Int).toNat * i0.size) = intsA (List.replicate n 0) := by
    rw [hz1, Int.toNat_natCast, Nat.mul_one]
    apply Array.ext
    · simp [size_madeCells, intsA]
    · intro i h1 h2
      simp [madeCells, intsA, Value.cells, iv, Nat.mod_one]
  rw [e]
  simp

theorem Blk.store1 {w : World} {g : Nat} {t : TypeId} {cs : Array Value} (h : Blk w g t cs) (i : Nat) (u : Value) : ∃ w2, w.setCell ⟨g, i, none⟩ u = w2 ∧ Blk w2 g t (cs.setIfInBounds i u) ∧
    (∀ k t' cs', k ≠ g → Blk w k t' cs' → Blk w2 k t' cs') ∧ (∀ w0, Ext w0 w → w0.heap.size ≤ g → Ext w0 w2) ∧ w2.heap.size = w.heap.size :=
  ⟨_, rfl, h.set_ i u, fun _ _ _ hk hb => hb.far hk _, fun _ hE hg => hE.setCell hg _, by simp [World.setCell]⟩

theorem Ext.four {w W : World} (E : Ext w W) {a b c d : Addr} {p q r s : Value} (h0 : w.cell? a = some p) (h1 : w.cell? b = some q) (h2 : w.cell? c = some r) (h3 : w.cell? d = some s) :
    W.cell? a = some p ∧ W.cell? b = some q ∧ W.cell? c = some r ∧ W.cell? d = some s := ⟨E.cell h0, E.cell h1, E.cell h2, E.cell h3⟩
theorem Ext.five {w W : World} (E : Ext w W) {a b c d f : Addr} {p q r s t : Value} (h0 : w.cell? a = some p) (h1 : w.cell? b = some q) (h2 : w.cell? c = some r) (h3 : w.cell? d = some s) (h4 : w.cell? f = some t) :
    W.cell? a = some p ∧ W.cell? b = some q ∧ W.cell? c = some r ∧ W.cell? d = some s ∧ W.cell? f = some t := ⟨E.cell h0, E.cell h1, E.cell h2, E.cell h3, E.cell h4⟩

/-! ### how many of each plate -/
def usedL (l : List Plate) (c : List Laid) (k : Nat) : List Int := (List.range l.length).map fun p : Nat => (usedN c k (p : Int) : Int)
theorem usedL_len (l : List Plate) (c : List Laid) (k : Nat) : (usedL l c k).length = l.length := by simp [usedL]
theorem usedL_zero (l : List Plate) (c : List Laid) : usedL l c 0 = List.replicate l.length 0 := by
  apply List.ext_getElem?
  intro i
  simp only [usedL, List.getElem?_map, List.getElem?_replicate]
  rcases Nat.lt_or_ge i l.length with h | h
  · rw [List.getElem?_range h, if_pos h]
    simp [usedN]
  · rw [List.getElem?_eq_none (by simpa using h), if_neg (by omega)]
    rfl
theorem usedL_get {l : List Plate} {c : List Laid} {k p : Nat} (h : p < l.length) : (usedL l c k)[p]? = some (usedN c k (p : Int) : Int) := by
  simp only [usedL, List.getElem?_map, List.getElem?_range h]
  rfl
theorem usedN_succ {c : List Laid} {k : Nat} {a : Laid} (h : c[k]? = some a) (p : Int) : usedN c (k + 1) p = usedN c k p + if a.plate = p then 1 else 0 := by
  unfold usedN
  rw [List.take_add_one, h, Option.toList_some, List.countP_append]
  by_cases hp : a.plate = p <;> simp [hp]
theorem usedL_succ {l : List Plate} {c : List Laid} {k p : Nat} {a : Laid} (h : c[k]? = some a) (hp : a.plate = p) : (usedL l c k).set p (usedN c k (p : Int) + 1) = usedL l c (k + 1) := by
  apply List.ext_getElem?
  intro i
  rw [List.getElem?_set]
  rcases Nat.lt_or_ge i l.length with hi | hi
  · rw [usedL_get hi, usedL_get hi, usedN_succ h, hp]
    split
    · subst_vars
      rw [if_pos (by rw [usedL_len]; exact hi), if_pos rfl]
      rfl
    · rw [if_neg (by omega)]
      rfl
  · rw [List.getElem?_eq_none (by rw [usedL_len]; exact hi), List.getElem?_eq_none (by rw [usedL_len]; exact hi)]
    split
    · rw [if_neg (by rw [usedL_len]; omega)]
    · rfl
theorem usedN_le (c : List Laid) (k : Nat) (p : Int) : usedN c k p ≤ k := by
  unfold usedN
  have := List.countP_le_length (p := fun x : Laid => decide (x.plate = p)) (l := c.take k)
  have := List.length_take_le k c
  omega
end Go.Proofs.YtaaeapjnjjbglaaGreatDoor
