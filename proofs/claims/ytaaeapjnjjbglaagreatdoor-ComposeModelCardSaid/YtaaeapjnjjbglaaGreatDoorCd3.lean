/- The set of the cells of a block. Maps that the call makes, whose keys are structs or arrays: they read as lists of pairs. The keys of the maps of layer 7. -/
import Derived.Test.YtaaeapjnjjbglaaGreatDoorCd2
import Derived.Maps.Own
import Derived.WideKeyRuns
import Derived.ChangeKeysEq
import Derived.Laws.StructEq

namespace Go.Proofs.YtaaeapjnjjbglaaGreatDoor
open Go.RowKit

def cellStep (s : Shape) (color z v u : Int) (m : Nat) : Option Nat :=
  if s.num u v z < 0 ∨ s.cells.getD (s.idx u v z).toNat 0 ≠ color then none else some (m ||| 2 ^ (s.num u v z).toNat)
def rowStep (s : Shape) (color z x : Int) (w : Nat) (v : Int) (m : Nat) : Option Nat := runs (fun j m => cellStep s color z v (x + j) m) w m
/-- The set of the cells of a block, if all have a colour. -/
def blockS (s : Shape) (x y z : Int) (w d : Nat) (color : Int) : Option Nat := runs (fun i m => rowStep s color z x w (y + i) m) d 0
def blockV : Option Nat → Value
  | some m => .tuple #[.int .u32 (m : Int), .bool true]
  | none => .tuple #[.int .u32 0, .bool false]

theorem num_lt {s : Shape} (ok : s.Ok) (x y z : Int) : s.num x y z < 16 := by
  unfold Shape.num
  split
  · rename_i h
    have h1 := s.idx_in ok h
    have h2 := numOf_hi (cs := s.cells) (i := (s.idx x y z).toNat) (by omega)
    have := ok.full
    omega
  · omega
theorem num_in {s : Shape} {x y z : Int} (h : ¬ s.num x y z < 0) : s.inside x y z = true := by
  cases hi : s.inside x y z
  · rw [Shape.num, hi] at h
    simp at h
  · rfl
theorem or_lt {m n : Nat} (h : m < 65536) (hn : n < 16) : m ||| 2 ^ n < 65536 := by
  have h2 : 2 ^ n < 2 ^ 16 := Nat.pow_lt_pow_right (by omega) hn
  have := Nat.or_lt_two_pow (x := m) (y := 2 ^ n) (n := 16) (by omega) h2
  omega
theorem or_bit {k n : Nat} (hk : k < 65536) (hn : n < 16) : bits .or .u32 (k : Int) ((2 : Int) ^ n % 4294967296) = ((k ||| 2 ^ n : Nat) : Int) := by
  have h2 : 2 ^ n < 2 ^ 16 := Nat.pow_lt_pow_right (by omega) hn
  have e : (2 : Int) ^ n % 4294967296 = ((2 ^ n : Nat) : Int) := by
    rw [Int.emod_eq_of_lt]
    · exact (Int.natCast_pow 2 n).symm
    · exact Int.pow_nonneg (by omega)
    · have : ((2 ^ n : Nat) : Int) < 4294967296 := by omega
      rwa [Int.natCast_pow] at this
  rw [e]
  exact u32_or_nat k (2 ^ n) (by omega) (by omega)

set_option maxRecDepth 100000 in
set_option maxHeartbeats 4000000 in
theorem block_c (x y z : Int) (wd dd : Nat) (color : Int) (g : Nat) (s : Shape) (A : Option Addr) (cap : Nat) (NA : Option Addr) (ncap : Nat) (ok : s.Ok) (hx : 0 ≤ x ∧ x ≤ 8) (hy : 0 ≤ y ∧ y ≤ 8) (hwd : wd ≤ 8) (hdd : dd ≤ 8)
    (w : World) (h : Base w g s A cap NA ncap) :
    Calls Tryz.prog 84 #[.pointer (some ⟨g, 0, none⟩), .int .i64 x, .int .i64 y, .int .i64 z, .int .i64 wd, .int .i64 dd, .int .u8 color] w fun e w' => e = .returned (blockV (blockS s x y z wd dd color)) ∧ Ext w w' := by
  obtain ⟨x1, x2⟩ := hx
  obtain ⟨y1, y2⟩ := hy
  go_enter Tryz.func84, Tryz.ntmps84
  go_wp2_with fail
  go_loopw [16, 17] (fun st v wr => ∃ i m : Nat, i ≤ dd ∧ v = .int .i64 (y + (i : Int)) ∧ st = .int .u32 (m : Int) ∧ runs (fun i m => rowStep s color z x wd (y + i) m) i 0 = some m ∧ m < 65536 ∧ Ext w wr) (fun _ v _ => (y + (dd : Int) - intOf v).toNat)
  case atStart => exact ⟨0, 0, by omega, by simp, rfl, rfl, by omega, Ext.refl _⟩
  case round =>
    obtain ⟨i, m, hi, rfl, rfl, hrun, hm, E⟩ := hrel
    have Hrun := Lib.hid hrun
    clear hrun
    by_cases hlt : i < dd
    · obtain ⟨wo, rfl⟩ : ∃ wo : World, wo = wr := ⟨_, rfl⟩
      go_wp2_with fail
      go_loopw [16, 18] (fun st u wr => ∃ j k : Nat, j ≤ wd ∧ u = .int .i64 (x + (j : Int)) ∧ st = .int .u32 (k : Int) ∧ runs (fun j m => cellStep s color z (y + i) (x + j) m) j m = some k ∧ k < 65536 ∧ Ext w wr) (fun _ u _ => (x + (wd : Int) - intOf u).toNat)
      case atStart => exact ⟨0, m, by omega, by simp, rfl, rfl, by omega, E⟩
      case round =>
        obtain ⟨j, k, hj, rfl, rfl, hrun2, hk, E2⟩ := hrel
        have Hrun2 := Lib.hid hrun2
        clear hrun2
        by_cases hlt2 : j < wd
        · have base := h.ext E2
          go_wp2_with fail
          refine (at_c (x + j) (y + i) z g s A cap NA ncap ok _ base).mono ?_
          rintro e w1 ⟨rfl, E3⟩
          have base := base.ext E3
          have hstep : cellStep s color z (y + i) (x + j) k = if s.num (x + j) (y + i) z < 0 ∨ s.cells.getD (s.idx (x + j) (y + i) z).toNat 0 ≠ color then none else some (k ||| 2 ^ (s.num (x + j) (y + i) z).toNat) := rfl
          have Hstep := Lib.hid hstep
          clear hstep
          have bad : cellStep s color z (y + i) (x + j) k = none → blockV (blockS s x y z wd dd color) = .tuple #[.int .u32 0, .bool false] := fun hf => by
            have h1 : rowStep s color z x wd (y + i) m = none := runs_fail Hrun2.out hf hlt2
            have h2 : blockS s x y z wd dd color = none := runs_fail Hrun.out h1 hlt
            rw [h2]
            rfl
          have Bad := Lib.hid bad
          clear bad
          have Fin := E2.trans E3
          by_cases hn : s.num (x + j) (y + i) z < 0
          · have hd : decide (s.num (x + j) (y + i) z < 0) = true := by simpa using hn
            go_wp2_with fail
            refine wp_region_grow (by kernel_rfl) (by kernel_rfl) ?_
            repeat (go_big_quiet_step (fail))
            refine wpQuiet_nil ?_
            intro W3 hW3
            have E4 : Ext w1 W3 := by
              obtain ⟨x, rfl⟩ := hW3
              exact (Ext.refl _).grow x
            clear hW3
            obtain ⟨hcW3, hfW3, hzW3⟩ := ext_facts E4
            go_wp2_with fail
            go_ret2
            exact ⟨by rw [Bad.out (by rw [Hstep.out, if_pos (Or.inl hn)])]; rfl, Fin.trans E4⟩
          · have hd : decide (s.num (x + j) (y + i) z < 0) = false := by simpa using hn
            have hin := num_in hn
            obtain ⟨i1, i2, i3, i4, i5, i6, i7⟩ := s.idx_in ok hin
            have hlo := num_lt ok (x + j) (y + i) z
            obtain ⟨b, off, c, rfl, hc, hok, hbl, hcell⟩ := base.bytes.at_ (k := (s.idx (x + j) (y + i) z).toNat) (by omega)
            have hcc : s.cells.getD (s.idx (x + j) (y + i) z).toNat 0 = c := by simp [hc]
            have Hc := Lib.hid hcc
            clear hcc hc
            obtain ⟨c0, c1, c2, c3, c5, -, -⟩ := base
            have ei : (z * s.D + (y + i)) * s.W + (x + j) = s.idx (x + j) (y + i) z := rfl
            have w1' := ok.w
            have d1' := ok.d
            obtain ⟨n, hnn⟩ := Int.eq_ofNat_of_zero_le (a := s.num (x + j) (y + i) z) (by omega)
            have hn16 : n < 16 := by omega
            have hz : z * s.D ≤ 32 := i4
            by_cases hcol : c = color
            · have hcol' : (c == color) = true := by simpa using hcol
              have hcol2 : (c != color) = false := by simpa using hcol
              have hgood : cellStep s color z (y + i) (x + j) k = some (k ||| 2 ^ n) := by
                rw [Hstep.out, if_neg (by rw [Hc.out]; exact fun h => h.elim hn (fun h => h hcol)), hnn]
                rfl
              have Hgood := Lib.hid hgood
              clear hgood
              have hor := or_lt hk hn16
              rw [hnn]
              rw [hnn] at hd hn
              clear hnn
              go_wp2_with fail
              refine wp_region_grow (by kernel_rfl) (by kernel_rfl) ?_
              repeat (go_big_quiet_step (fail))
              refine wpQuiet_nil ?_
              intro W3 hW3
              have E4 : Ext w1 W3 := by
                obtain ⟨x, rfl⟩ := hW3
                exact (Ext.refl _).grow x
              clear hW3
              obtain ⟨hcW3, hfW3, hzW3⟩ := ext_facts E4
              go_wp2_with fail
              go_roundw
              case rel => exact ⟨j + 1, k ||| 2 ^ n, by omega, by go_num, by rw [or_bit hk hn16], by rw [runs_succ Hrun2.out]; exact Hgood.out, hor, Fin.trans E4⟩
              case measure => simp only [intOf]; omega
            · have hcol2 : (c != color) = true := by simpa using hcol
              rw [hnn]
              rw [hnn] at hd hn
              clear hnn
              go_wp2_with fail
              refine wp_region_grow (by kernel_rfl) (by kernel_rfl) ?_
              repeat (go_big_quiet_step (fail))
              refine wpQuiet_nil ?_
              intro W3 hW3
              have E4 : Ext w1 W3 := by
                obtain ⟨x, rfl⟩ := hW3
                exact (Ext.refl _).grow x
              clear hW3
              obtain ⟨hcW3, hfW3, hzW3⟩ := ext_facts E4
              go_wp2_with fail
              go_ret2
              exact ⟨by rw [Bad.out (by rw [Hstep.out, Hc.out, if_pos (Or.inr hcol)])]; rfl, Fin.trans E4⟩
        · obtain rfl : j = wd := by omega
          go_wp2_with fail
          go_roundw
          case rel => exact ⟨i + 1, k, by omega, by go_num, rfl, by rw [runs_succ Hrun.out]; exact Hrun2.out, hk, E2⟩
          case measure => simp only [intOf]; omega
    · obtain rfl : i = dd := by omega
      have Hb := Lib.hid (show blockS s x y z wd i color = some m from Hrun.out)
      go_wp2_with fail
      go_ret2
      exact ⟨by rw [Hb.out]; rfl, E⟩
theorem block_i (x y z wi di color : Int) (g : Nat) (s : Shape) (A : Option Addr) (cap : Nat) (NA : Option Addr) (ncap : Nat) (ok : s.Ok) (hx : 0 ≤ x ∧ x ≤ 8) (hy : 0 ≤ y ∧ y ≤ 8) (hwd : 0 ≤ wi ∧ wi ≤ 8) (hdd : 0 ≤ di ∧ di ≤ 8)
    (w : World) (h : Base w g s A cap NA ncap) :
    Calls Tryz.prog 84 #[.pointer (some ⟨g, 0, none⟩), .int .i64 x, .int .i64 y, .int .i64 z, .int .i64 wi, .int .i64 di, .int .u8 color] w fun e w' => e = .returned (blockV (blockS s x y z wi.toNat di.toNat color)) ∧ Ext w w' := by
  obtain ⟨wd, rfl⟩ := Int.eq_ofNat_of_zero_le hwd.1
  obtain ⟨dd, rfl⟩ := Int.eq_ofNat_of_zero_le hdd.1
  exact block_c x y z wd dd color g s A cap NA ncap ok hx hy (by omega) (by omega) w h
end Go.Proofs.YtaaeapjnjjbglaaGreatDoor

namespace Go.Proofs.YtaaeapjnjjbglaaGreatDoor
open Go.RowKit

/-! ### lists of pairs -/
section
variable {K V : Type} [DecidableEq K]
/-- Where a key stands, and what it has. -/
def lookAt : List (K × V) → K → Nat → Option (Nat × V)
  | [], _, _ => none
  | p :: m, x, i => if x = p.1 then some (i, p.2) else lookAt m x (i + 1)
def getK : List (K × V) → K → Option V
  | [], _ => none
  | p :: m, x => if x = p.1 then some p.2 else getK m x
def putK : List (K × V) → K → V → List (K × V)
  | [], x, v => [(x, v)]
  | p :: m, x, v => if x = p.1 then (x, v) :: m else p :: putK m x v
theorem getK_putK (m : List (K × V)) (x y : K) (v : V) : getK (putK m x v) y = if y = x then some v else getK m y := by
  induction m with
  | nil => rfl
  | cons p m ih =>
    unfold putK
    by_cases h : x = p.1
    · rw [if_pos h]
      unfold getK
      simp only
      by_cases hy : y = x
      · rw [if_pos hy, if_pos hy]
      · rw [if_neg hy, if_neg hy, if_neg (by rw [← h]; exact hy)]
    · rw [if_neg h]
      unfold getK
      rw [ih]
      by_cases hy : y = p.1
      · rw [if_pos hy, if_pos hy, if_neg (fun e => h (by rw [← e, hy]))]
      · rw [if_neg hy, if_neg hy]
theorem lookAt_getK (m : List (K × V)) (x : K) (i : Nat) : (lookAt m x i).map (·.2) = getK m x := by
  induction m generalizing i with
  | nil => rfl
  | cons p m ih =>
    unfold lookAt getK
    split
    · rfl
    · exact ih _
theorem lookAt_none {m : List (K × V)} {x : K} {i : Nat} (h : lookAt m x i = none) (v : V) : putK m x v = m ++ [(x, v)] := by
  induction m generalizing i with
  | nil => rfl
  | cons p m ih =>
    unfold lookAt at h
    unfold putK
    split at h
    · cases h
    · rename_i hx
      rw [if_neg hx, ih h]
      rfl
theorem lookAt_some {m : List (K × V)} {x : K} {i j : Nat} {u : V} (h : lookAt m x i = some (j, u)) (v : V) : ∃ k, j = i + k ∧ m[k]? = some (x, u) ∧ putK m x v = m.set k (x, v) := by
  induction m generalizing i with
  | nil => cases h
  | cons p m ih =>
    unfold lookAt at h
    unfold putK
    split at h
    · rename_i hx
      cases h
      refine ⟨0, rfl, ?_, ?_⟩
      · rw [hx]
        rfl
      · rw [if_pos hx]
        rfl
    · rename_i hx
      obtain ⟨k, rfl, h1, h2⟩ := ih h
      refine ⟨k + 1, by omega, h1, ?_⟩
      rw [if_neg hx, h2]
      rfl
theorem putK_len (m : List (K × V)) (x : K) (v : V) : (putK m x v).length ≤ m.length + 1 := by
  induction m with
  | nil => exact Nat.le_refl _
  | cons p m ih =>
    unfold putK
    split
    · simp
    · simp only [List.length_cons]
      omega
theorem putK_keys (m : List (K × V)) (x : K) (v : V) (h : (m.map (·.1)).Nodup) : ((putK m x v).map (·.1)).Nodup := by
  cases hl : lookAt m x 0 with
  | none =>
    rw [lookAt_none hl]
    have hx : ∀ (m : List (K × V)) (i : Nat), lookAt m x i = none → x ∉ m.map (·.1) := by
      intro m
      induction m with
      | nil => intro _ _; simp
      | cons p m ih =>
        intro i hi
        unfold lookAt at hi
        split at hi
        · cases hi
        · rename_i hne
          simp only [List.map_cons, List.mem_cons, not_or]
          exact ⟨hne, ih _ hi⟩
    rw [List.map_append, List.nodup_append]
    refine ⟨h, by simp, fun a ha b hb => ?_⟩
    simp only [List.map_cons, List.map_nil, List.mem_singleton] at hb
    rintro rfl
    subst hb
    exact hx m 0 hl ha
  | some r =>
    obtain ⟨j, u⟩ := r
    obtain ⟨k, _, h1, h2⟩ := lookAt_some hl v
    rw [h2]
    have : (m.set k (x, v)).map (·.1) = m.map (·.1) := by
      apply List.ext_getElem?
      intro i
      simp only [List.getElem?_map, List.getElem?_set]
      split
      · subst_vars
        rw [h1]
        split <;> simp_all
      · rfl
    rw [this]
    exact h
end

/-! ### in memory -/
/-- What the walk needs of a type of keys. -/
structure KeyEnc (P : Program) (k : TypeId) {K : Type} [DecidableEq K] (enc : K → Value) : Prop where
  wide : (match P.underlying k with | some (.array _ _) | some (.struct _) => true | _ => false) = true
  eq : ∀ w x y, (Op.equal k (enc x) (enc y)).run P w = .ok (decide (x = y)) w
  check : ∀ w em x, (Instr.checkKey em 10000 k (enc x)).run P w = .ok () w
  same : ∀ x, Instr.sameBits 10000 (enc x) (enc x) = true

section
variable {P : Program} {k : TypeId} {K V : Type} {enc : K → Value} {ev : V → Value}

/-- Block b is a map of these pairs. -/
def MapOf (enc : K → Value) (ev : V → Value) (w : World) (b : Nat) (m : List (K × V)) : Prop :=
  ∃ es clock, w.heap[b]? = some (.map es clock) ∧ es.toList.map (fun e => (e.key, e.val)) = m.map (fun p => (enc p.1, ev p.2)) ∧ (∀ e ∈ es.toList, e.born < clock) ∧ (es.toList.map (·.born)).Nodup

theorem MapOf.lt {w : World} {b : Nat} {m : List (K × V)} (h : MapOf enc ev w b m) : b < w.heap.size := by
  obtain ⟨es, clock, hb, _⟩ := h
  exact (Array.getElem?_eq_some_iff.1 hb).1
theorem MapOf.ext {w w' : World} {b : Nat} {m : List (K × V)} (h : MapOf enc ev w b m) (E : Ext w w') : MapOf enc ev w' b m := by
  have hlt := h.lt
  obtain ⟨es, clock, hb, r⟩ := h
  exact ⟨es, clock, (Below.block E b hlt).trans hb, r⟩
theorem MapOf.grown {w w' : World} {b : Nat} {m : List (K × V)} {row : Option Nat} (h : MapOf enc ev w b m) (g : w.grownBy w' row) (hr : some b ≠ row) : MapOf enc ev w' b m := by
  have hlt := h.lt
  obtain ⟨es, clock, hb, r⟩ := h
  exact ⟨es, clock, (g.block b hlt hr).trans hb, r⟩
theorem MapOf.made (w : World) : MapOf enc ev (w.alloc (.map #[] 0)) w.heap.size ([] : List (K × V)) :=
  ⟨#[], 0, (MapKept.heap_alloc w _).1, rfl, by simp, by simp⟩

/-- A map made: the new world under one name. -/
theorem mapbox_ (enc : K → Value) (ev : V → Value) (w : World) : ∃ W, w.alloc (.map #[] 0) = W ∧ Ext w W ∧ MapOf enc ev W w.heap.size [] ∧ W.heap.size = w.heap.size + 1 :=
  ⟨_, rfl, (Ext.refl w).alloc _, MapOf.made w, by simp⟩
variable [DecidableEq K]
theorem find_run (E : KeyEnc P k enc) (w : World) (x : K) : ∀ (es : List MapEntry) (m : List (K × V)) (i : Nat), es.map (fun e => (e.key, e.val)) = m.map (fun p => (enc p.1, ev p.2)) →
    (Instr.findAsking k (enc x) es i).run P w = .ok ((lookAt m x i).map fun r => (r.1, ev r.2)) w
  | [], [], i, _ => by simp [Instr.findAsking, lookAt]
  | [], p :: m, _, h => by simp at h
  | e :: es, [], _, h => by simp at h
  | e :: es, p :: m, i, h => by
    simp only [List.map_cons, List.cons.injEq, Prod.mk.injEq] at h
    obtain ⟨⟨h1, h2⟩, h3⟩ := h
    have ih := find_run E w x es m (i + 1) h3
    unfold lookAt
    by_cases hx : x = p.1
    · simp [Instr.findAsking, h1, E.eq, hx, h2]
    · simp [Instr.findAsking, h1, E.eq, hx, ih]

theorem lookup_run (E : KeyEnc P k enc) {t e : TypeId} (ht : P.underlying t = some (.map k e)) {w : World} {z : Value} (hz : (zeroValue e).run P w = .ok z w) {b : Nat} {m : List (K × V)} (h : MapOf enc ev w b m) (x : K) (ok : Bool) :
    (Instr.lookup t (.map (some b)) (enc x) ok).run P w = .ok (match getK m x with
      | some v => if ok then .tuple #[ev v, .bool true] else ev v
      | none => if ok then .tuple #[z, .bool false] else z) w := by
  obtain ⟨es, clock, hb, hm, _⟩ := h
  have hf := find_run E w x es.toList m 0 hm
  rw [← run_findKey_eq w E.wide] at hf
  rw [← lookAt_getK m x 0]
  cases hl : lookAt m x 0 with
  | none =>
    rw [hl] at hf
    simp [Instr.lookup, run_underlying ht, MapKept.run_getObj_map hb, E.check, hf, hz, Result.andThen]
  | some r =>
    rw [hl] at hf
    simp [Instr.lookup, run_underlying ht, MapKept.run_getObj_map hb, E.check, hf, Result.andThen]

/-- A store. -/
theorem update_run (E : KeyEnc P k enc) {t e : TypeId} (ht : P.underlying t = some (.map k e)) {w : World} {b : Nat} {m : List (K × V)} (h : MapOf enc ev w b m) (x : K) (v : V) :
    ∃ w', (Instr.mapUpdate t (.map (some b)) (enc x) (ev v)).run P w = .ok () w' ∧ MapOf enc ev w' b (putK m x v) ∧ w.grownBy w' (some b) ∧ w'.heap.size = w.heap.size := by
  obtain ⟨es, clock, hb, hm, hs1, hs2⟩ := h
  have hf := find_run E w x es.toList m 0 hm
  rw [← run_findKey_eq w E.wide] at hf
  have grown : ∀ o, w.grownBy (ChangeMaps.setBlock w b o) (some b) := fun o => ⟨rfl, rfl, rfl, by simp [ChangeMaps.setBlock], fun i _ hi => ChangeMaps.heap_setBlock_other hb _ (fun e => hi (by rw [e]))⟩
  have hsz : ∀ o, (ChangeMaps.setBlock w b o).heap.size = w.heap.size := fun o => by simp [ChangeMaps.setBlock]
  cases hl : lookAt m x 0 with
  | none =>
    rw [hl] at hf
    refine ⟨ChangeMaps.setBlock w b (.map (es.push { key := enc x, val := ev v, born := clock }) (clock + 1)), ?_, ⟨_, _, ChangeMaps.heap_setBlock_same hb _, ?_, ?_, ?_⟩, grown _, hsz _⟩
    · simp [Instr.mapUpdate, run_underlying ht, MapKept.run_getObj_map hb, E.check, hf, MapKept.run_setObj_map _ hb, Result.andThen, ChangeMaps.setBlock]
    · rw [lookAt_none hl]
      simp [hm]
    · intro y hy
      simp only [Array.toList_push, List.mem_append, List.mem_singleton] at hy
      rcases hy with hy | rfl
      · exact Nat.lt_succ_of_lt (hs1 y hy)
      · exact Nat.lt_succ_self _
    · simp only [Array.toList_push, List.map_append, List.map_cons, List.map_nil]
      refine List.nodup_append.2 ⟨hs2, by simp, ?_⟩
      intro a ha b hb
      simp only [List.mem_singleton] at hb
      subst hb
      obtain ⟨y, hy, rfl⟩ := List.mem_map.1 ha
      exact Nat.ne_of_lt (hs1 y hy)
  | some r =>
    obtain ⟨j, u⟩ := r
    rw [hl] at hf
    obtain ⟨j', hj', h1, h2⟩ := lookAt_some hl v
    obtain rfl : j = j' := by omega
    have hlen : es.toList.length = m.length := by
      have := congrArg List.length hm
      simpa using this
    have hjl : j < es.toList.length := by
      rw [hlen]
      exact (List.getElem?_eq_some_iff.1 h1).1
    have hjm : (es.toList.map (fun e => (e.key, e.val)))[j]? = some (enc x, ev u) := by
      rw [hm, List.getElem?_map, h1]
      rfl
    obtain ⟨e0, hej⟩ : ∃ e0, es.toList[j]? = some e0 := ⟨_, List.getElem?_eq_getElem hjl⟩
    have hmem : e0 ∈ es.toList := List.mem_of_getElem? hej
    have hkey : e0.key = enc x := by
      rw [List.getElem?_map, hej] at hjm
      simp only [Option.map_some, Option.some.injEq, Prod.mk.injEq] at hjm
      exact hjm.1
    have hej' : es[j]? = some e0 := by rw [← hej]; simp
    have hlist : (es.modify j (fun e' => { e' with key := enc x, val := ev v })).toList = es.toList.set j { e0 with key := enc x, val := ev v } := by
      rw [Array.toList_modify, ChangeMaps.modify_eq_set _ _ _ _ hej]
    refine ⟨ChangeMaps.setBlock w b (.map (es.modify j (fun e' => { e' with key := enc x, val := ev v })) clock), ?_, ⟨_, _, ChangeMaps.heap_setBlock_same hb _, ?_, ?_, ?_⟩, grown _, hsz _⟩
    · simp [Instr.mapUpdate, run_underlying ht, MapKept.run_getObj_map hb, E.check, hf, hej', hkey, Instr.keyThatStays, E.same, MapKept.run_setObj_map _ hb, Result.andThen, ChangeMaps.setBlock]
    · rw [hlist, h2, List.map_set, List.map_set, hm]
    · intro y hy
      rw [hlist] at hy
      rcases List.mem_or_eq_of_mem_set hy with hy | rfl
      · exact hs1 y hy
      · exact hs1 e0 hmem
    · rw [hlist, List.map_set]
      have : (es.toList.map (·.born)).set j e0.born = es.toList.map (·.born) := by
        apply List.ext_getElem?
        intro i
        rw [List.getElem?_set]
        split
        · rename_i hji
          subst hji
          rw [if_pos (by simpa using hjl), List.getElem?_map, hej]
          rfl
        · rfl
      rw [this]
      exact hs2
/-- A store at the operation. -/
theorem wpList_put (E : KeyEnc P k enc) {w : World} {ops : Array Oper} {rest : List Oper} {o : Oper} {a : Act} {Q : Exit → Act → World → Prop}
    (hg : o.guard = none) (mo xo vo : Operand) (t : TypeId) (hop : o.op = Op.mapUpdate t mo xo vo) (e : TypeId) (ht : P.underlying t = some (.map k e)) (b : Nat) (m : List (K × V)) (x : K) (v : V)
    (hm : a.eval mo = .map (some b)) (hown : MapOf enc ev w b m) (hx : a.eval xo = enc x) (hv : a.eval vo = ev v)
    (hK : ∀ w', MapOf enc ev w' b (putK m x v) → w.grownBy w' (some b) → w'.heap.size = w.heap.size → wpList P ops Q rest (a.put o.dst undef) w') : wpList P ops Q (o :: rest) a w := by
  refine wpList_plain hg fun K' hK' => ?_
  obtain ⟨w', hrun, r1, r2, r3⟩ := update_run E ht hown x v
  unfold Oper.wp
  simp [execOp, hop, hm, hx, hv, hrun, Result.andThen]
  exact hK' _ _ (hK w' r1 r2 r3)
end
end Go.Proofs.YtaaeapjnjjbglaaGreatDoor

namespace Go.Proofs.YtaaeapjnjjbglaaGreatDoor
open Go.RowKit

/-- A plate, turned or not. -/
def encSort (x : Int × Bool) : Value := .agg #[.int .i64 x.1, .bool x.2]
theorem sort_eq (w : World) (a c : Int) (b d : Bool) : (Op.equal 147 (.agg #[.int .i64 a, .bool b]) (.agg #[.int .i64 c, .bool d])).run Tryz.prog w = .ok (decide (a = c) && decide (b = d)) w := by
  have u3 := Tryz.underlying3
  have u4 := Tryz.underlying4
  have hS : Tryz.prog.underlying 147 = some (.struct (Tryz.prog.fieldsOf 147)) := by kernel_rfl
  have hp : Tryz.prog.stoodInHeld 147 = false := by kernel_rfl
  rw [Op.equal, Op.maxDepth, show (10000 : Nat) = 9999 + 1 from rfl, run_equalIn_agg w 9999 _ _ _ hS hp]
  simp only [Program.fieldsOf, Tryz.underlying147]
  go_simp
  by_cases h1 : a = c <;> cases b <;> cases d <;> simp [h1]
theorem sortKey : KeyEnc Tryz.prog 147 encSort where
  wide := by kernel_rfl
  eq w x y := by
    obtain ⟨a, b⟩ := x
    obtain ⟨c, d⟩ := y
    rw [encSort, encSort, sort_eq]
    simp
  check w em x := by
    obtain ⟨a, b⟩ := x
    show (Instr.checkKey em 10000 147 (.agg #[.int .i64 a, .bool b])).run Tryz.prog w = .ok () w
    kernel_rfl
  same x := by
    obtain ⟨a, b⟩ := x
    simp [encSort, Instr.sameBits]
/-- A pair of numbers. -/
def encPair (x : Int × Int) : Value := .agg #[.int .i64 x.1, .int .i64 x.2]
theorem pair_eq (w : World) (a b c d : Int) : (Op.equal 133 (.agg #[.int .i64 a, .int .i64 b]) (.agg #[.int .i64 c, .int .i64 d])).run Tryz.prog w = .ok (decide (a = c) && decide (b = d)) w := by
  have u3 := Tryz.underlying3
  have hS : Tryz.prog.underlying 133 = some (.array 2 3) := by kernel_rfl
  have hc : Tryz.prog.cellsOf 3 = 1 := by kernel_rfl
  obtain ⟨i, hi⟩ : ∃ i, Tryz.prog.info? 3 = some i := Option.isSome_iff_exists.1 (by kernel_rfl)
  rw [Op.equal, Op.maxDepth, show (10000 : Nat) = 9999 + 1 from rfl, run_equalIn_array w 9999 _ _ hS hi, hc]
  clear hi
  simp only [show List.range 2 = [0, 1] from rfl, Op.eqItems]
  go_simp
  by_cases h1 : a = c <;> by_cases h2 : b = d <;> simp [h1, h2]
theorem pairKey : KeyEnc Tryz.prog 133 encPair where
  wide := by kernel_rfl
  eq w x y := by
    obtain ⟨a, b⟩ := x
    obtain ⟨c, d⟩ := y
    rw [encPair, encPair, pair_eq]
    simp
  check w em x := by
    obtain ⟨a, b⟩ := x
    show (Instr.checkKey em 10000 133 (.agg #[.int .i64 a, .int .i64 b])).run Tryz.prog w = .ok () w
    kernel_rfl
  same x := by
    obtain ⟨a, b⟩ := x
    simp [encPair, Instr.sameBits]
end Go.Proofs.YtaaeapjnjjbglaaGreatDoor
