/- The plain side of look: places, neighbours, pairs; owned rows of two types lie apart; worlds in which one block and new ones have turned. What a composition is, and the sets of its plates: plain. -/
import Derived.Test.YtaaeapjnjjbglaaGreatDoorCd4

namespace Go.Proofs.YtaaeapjnjjbglaaGreatDoor
open Go.RowKit

theorem own_apart {w : World} {b b' : Nat} {e e' : TypeId} {sz sz' : Nat} {v v' : Value} {n n' : Nat} {xs xs' : List Value} (h : w.ownsRow b e sz v n xs) (h' : w.ownsRow b' e' sz' v' n' xs') (he : e ≠ e') : v.ownBlock = none ∨ v.ownBlock ≠ v'.ownBlock := by
  rcases h.2 with ⟨rfl, _⟩ | ⟨g, cap, cur, rfl, _, hg, _⟩
  · exact Or.inl rfl
  · right
    rcases h'.2 with ⟨rfl, _⟩ | ⟨g', cap', cur', rfl, _, hg', _⟩
    · intro e1
      cases e1
    · intro e1
      simp only [Value.ownBlock, Option.some.injEq] at e1
      subst e1
      rw [hg] at hg'
      simp only [Option.some.injEq, Obj.cells.injEq] at hg'
      exact he hg'.2.1
theorem own_map {K V : Type} {enc : K → Value} {ev : V → Value} {w : World} {b : Nat} {e : TypeId} {sz : Nat} {v : Value} {n : Nat} {xs : List Value} {M : Nat} {m : List (K × V)} (h : w.ownsRow b e sz v n xs) (h' : MapOf enc ev w M m) : some M ≠ v.ownBlock := by
  intro e1
  rcases h.2 with ⟨rfl, _⟩ | ⟨g, cap, cur, rfl, _, hg, _⟩
  · cases e1
  · simp only [Value.ownBlock, Option.some.injEq] at e1
    subst e1
    obtain ⟨es, clock, hm, _⟩ := h'
    rw [hg] at hm
    cases hm
theorem MapOf.far {K V : Type} {enc : K → Value} {ev : V → Value} {w : World} {M : Nat} {m : List (K × V)} (h : MapOf enc ev w M m) {p : Addr} (hp : M ≠ p.block) (u : Value) : MapOf enc ev (w.setCell p u) M m := by
  obtain ⟨es, clock, hm, r⟩ := h
  exact ⟨es, clock, by rw [Below.heap_setCell _ _ _ _ hp]; exact hm, r⟩
/-- An owned row reads as a slice. -/
theorem own_slice {w : World} {b : Nat} {e : TypeId} {sz : Nat} {A : Option Addr} {n cap : Nat} {rows : List (List Value)} (_hsz : 0 < sz) (hw : ∀ r ∈ rows, r.length = sz) (hn : rows.length = n) (hcap : 0 < n)
    (h : w.ownsRow b e sz (.slice A n cap) n rows.flatten) : SliceIs w A n cap sz rows := by
  rcases h.2 with ⟨_, h0⟩ | ⟨g, cap', cur, hv, _, hg, h1, h2, h3, h4⟩
  · omega
  · cases hv
    refine ⟨hn, h1, h2, hw, fun _ => ⟨g, 0, rfl, (Array.getElem?_eq_some_iff.1 hg).1, fun i r hr j u hu => ?_⟩⟩
    have hj : j < sz := by
      have := hw r (List.mem_of_getElem? hr)
      have := (List.getElem?_eq_some_iff.1 hu).1
      omega
    have hi : i < n := by
      have := (List.getElem?_eq_some_iff.1 hr).1
      omega
    have hflat : ∀ (rows : List (List Value)) (i : Nat), (∀ r ∈ rows, r.length = sz) → rows[i]? = some r → rows.flatten[i * sz + j]? = some u := by
      intro rows
      induction rows with
      | nil => intro i _ h; simp at h
      | cons x rows ih =>
        intro i hw h
        have hx := hw x (by simp)
        cases i with
        | zero =>
          simp only [List.getElem?_cons_zero, Option.some.injEq] at h
          subst h
          rw [List.flatten_cons, Nat.zero_mul, Nat.zero_add, List.getElem?_append_left (by omega)]
          exact hu
        | succ i =>
          simp only [List.getElem?_cons_succ] at h
          rw [List.flatten_cons, List.getElem?_append_right (by rw [hx, Nat.succ_mul]; omega), hx]
          have e2 : (i + 1) * sz + j - sz = i * sz + j := by rw [Nat.succ_mul]; omega
          rw [e2]
          exact ih i (fun r hr => hw r (by simp [hr])) h
    have hf := hflat rows i hw hr
    rw [← h4] at hf
    have hlt : i * sz + j < n * sz := by
      have : (i + 1) * sz ≤ n * sz := Nat.mul_le_mul_right _ (by omega)
      rw [Nat.succ_mul] at this
      omega
    rw [List.getElem?_take, if_pos hlt] at hf
    show w.cell? ⟨g, 0 + i * sz + j, none⟩ = some u
    simp only [World.cell?, hg]
    simpa using hf

/-! ### places -/
def Shape.px (s : Shape) (i : Nat) : Int := (i : Int) % s.W
def Shape.py (s : Shape) (i : Nat) : Int := (i : Int) / s.W % s.D
def Shape.pz (s : Shape) (i : Nat) : Int := (i : Int) / s.W / s.D
theorem Shape.place_in {s : Shape} (ok : s.Ok) {i : Nat} (hi : i < s.cells.length) : s.inside (s.px i) (s.py i) (s.pz i) = true ∧ s.idx (s.px i) (s.py i) (s.pz i) = i := by
  have w1 := ok.w
  have d1 := ok.d
  have hl := ok.len
  have a1 := Int.emod_add_mul_ediv (i : Int) s.W
  have a2 := Int.emod_add_mul_ediv ((i : Int) / s.W) s.D
  have b1 := Int.emod_nonneg (i : Int) (show s.W ≠ 0 by omega)
  have b2 := Int.emod_lt_of_pos (i : Int) (show 0 < s.W by omega)
  have b3 := Int.emod_nonneg ((i : Int) / s.W) (show s.D ≠ 0 by omega)
  have b4 := Int.emod_lt_of_pos ((i : Int) / s.W) (show 0 < s.D by omega)
  have e0 : (i : Int) < s.W * (s.D * s.H) := by rw [← Int.mul_assoc, ← hl]; omega
  have b5 : (i : Int) / s.W < s.D * s.H := Int.ediv_lt_of_lt_mul (by omega) (by rw [Int.mul_comm]; exact e0)
  have b6 : (i : Int) / s.W / s.D < s.H := Int.ediv_lt_of_lt_mul (by omega) (by rw [Int.mul_comm]; exact b5)
  have c0 : 0 ≤ (i : Int) / s.W := Int.ediv_nonneg (by omega) (by omega)
  have c1 : 0 ≤ (i : Int) / s.W / s.D := Int.ediv_nonneg c0 (by omega)
  constructor
  · simp only [Shape.inside, Bool.and_eq_true, inB_iff, Shape.px, Shape.py, Shape.pz]
    omega
  · unfold Shape.idx Shape.px Shape.py Shape.pz
    have e1 : (i : Int) / s.W / s.D * s.D + (i : Int) / s.W % s.D = (i : Int) / s.W := by rw [Int.mul_comm]; omega
    rw [e1, Int.mul_comm]
    omega

/-! ### what the second loop has collected -/
def edgesAt (s : Shape) (i : Nat) : List (Int × Int) :=
  (if 0 ≤ s.num (s.px i + 1) (s.py i) (s.pz i) then [(numOf s.cells i, s.num (s.px i + 1) (s.py i) (s.pz i))] else []) ++
  (if 0 ≤ s.num (s.px i) (s.py i + 1) (s.pz i) then [(numOf s.cells i, s.num (s.px i) (s.py i + 1) (s.pz i))] else [])
def aboveS (s : Shape) : Nat → List Int
  | 0 => []
  | k + 1 => if numOf s.cells k < 0 then aboveS s k else aboveS s k ++ [s.num (s.px k) (s.py k) (s.pz k + 1)]
def edgesS (s : Shape) : Nat → List (Int × Int)
  | 0 => []
  | k + 1 => if numOf s.cells k < 0 then edgesS s k else edgesS s k ++ edgesAt s k
def placesS (s : Shape) : Nat → List Nat
  | 0 => []
  | k + 1 => if numOf s.cells k < 0 then placesS s k else placesS s k ++ [k]
/-- The map from the pairs to their indices. -/
def pairsOf (es : List (Int × Int)) : List ((Int × Int) × Nat) := es.zipIdx.foldl (fun m p => putK m p.1 p.2) []
theorem pairsOf_snoc (es : List (Int × Int)) (p : Int × Int) : pairsOf (es ++ [p]) = putK (pairsOf es) p es.length := by
  simp [pairsOf, List.zipIdx_append]
def overAt (ab : List Int) (es : List (Int × Int)) (p : Int × Int) : Int :=
  match getK (pairsOf es) (ab.getD p.1.toNat 0, ab.getD p.2.toNat 0) with
  | some j => (j : Int)
  | none => -1
def overS (s : Shape) : List Int := (edgesS s s.cells.length).map (overAt (aboveS s s.cells.length) (edgesS s s.cells.length))

theorem numOf_neg {s : Shape} {k : Nat} {c : Int} (hc : s.cells[k]? = some c) : numOf s.cells k < 0 ↔ c = 0 := by
  unfold numOf
  rw [List.getD_eq_getElem?_getD, hc]
  simp only [Option.getD_some]
  split <;> omega
theorem aboveS_len {s : Shape} {k : Nat} (hk : k ≤ s.cells.length) : (aboveS s k).length = fullN (s.cells.take k) := by
  induction k with
  | zero => simp [aboveS, fullN]
  | succ k ih =>
    have hc : s.cells[k]? = some s.cells[k] := List.getElem?_eq_getElem (by omega)
    rw [fullN_succ hc, ← ih (by omega), aboveS]
    have := numOf_neg hc
    by_cases h : s.cells[k] = 0
    · rw [if_pos (this.2 h), if_pos h]; omega
    · rw [if_neg (fun h' => h (this.1 h')), if_neg h]; simp
theorem placesS_len {s : Shape} {k : Nat} : (placesS s k).length = (aboveS s k).length := by
  induction k with
  | zero => rfl
  | succ k ih =>
    unfold placesS aboveS
    split
    · exact ih
    · simp [ih]
theorem num_lt_full {s : Shape} (ok : s.Ok) (x y z : Int) : s.num x y z < fullN s.cells := by
  unfold Shape.num
  split
  · rename_i h
    have h1 := s.idx_in ok h
    exact numOf_hi (by omega)
  · omega
theorem edges_bd {s : Shape} (ok : s.Ok) {k : Nat} (hk : k ≤ s.cells.length) : ∀ p ∈ edgesS s k, (0 ≤ p.1 ∧ p.1 < fullN s.cells) ∧ 0 ≤ p.2 ∧ p.2 < fullN s.cells := by
  induction k with
  | zero => intro p hp; simp [edgesS] at hp
  | succ k ih =>
    intro p hp
    unfold edgesS at hp
    split at hp
    · exact ih (by omega) p hp
    · rename_i hn
      rcases List.mem_append.1 hp with hp | hp
      · exact ih (by omega) p hp
      · have h1 := numOf_hi (cs := s.cells) (i := k) (by omega)
        unfold edgesAt at hp
        rcases List.mem_append.1 hp with hp | hp
        · split at hp
          · rw [List.mem_singleton] at hp
            subst hp
            exact ⟨⟨by omega, h1⟩, by assumption, num_lt_full ok _ _ _⟩
          · simp at hp
        · split at hp
          · rw [List.mem_singleton] at hp
            subst hp
            exact ⟨⟨by omega, h1⟩, by assumption, num_lt_full ok _ _ _⟩
          · simp at hp
theorem edgesAt_len (s : Shape) (i : Nat) : (edgesAt s i).length ≤ 2 := by
  unfold edgesAt
  split <;> split <;> simp
theorem edgesS_len (s : Shape) (k : Nat) : (edgesS s k).length ≤ 2 * k := by
  induction k with
  | zero => simp [edgesS]
  | succ k ih =>
    unfold edgesS
    have := edgesAt_len s k
    split
    · omega
    · rw [List.length_append]; omega
end Go.Proofs.YtaaeapjnjjbglaaGreatDoor

namespace Go.Proofs.YtaaeapjnjjbglaaGreatDoor
open Go.RowKit

/-- A plate that is laid. -/
structure Laid where
  plate : Int
  x : Int
  y : Int
  z : Int
  turned : Bool
instance : Inhabited Laid := ⟨⟨0, 0, 0, 0, false⟩⟩
def laidAt (c : List Laid) (k : Nat) : Laid := c.getD k default
theorem laidAt_eq {c : List Laid} {k : Nat} {x : Laid} (h : c[k]? = some x) : laidAt c k = x := by simp [laidAt, h]

/-! ### blocks -/
def okCell (s : Shape) (color z v u : Int) : Prop := 0 ≤ s.num u v z ∧ s.cells.getD (s.idx u v z).toNat 0 = color
theorem cellStep_some {s : Shape} {color z v u : Int} {m m' : Nat} (h : cellStep s color z v u m = some m') : okCell s color z v u ∧ m' = m ||| 2 ^ (s.num u v z).toNat := by
  unfold cellStep at h
  split at h
  · cases h
  · rename_i hn
    rw [not_or] at hn
    exact ⟨⟨by omega, Classical.not_not.1 hn.2⟩, (Option.some.inj h).symm⟩
theorem cellStep_none {s : Shape} {color z v u : Int} {m : Nat} (h : cellStep s color z v u m = none) : ¬ okCell s color z v u := by
  unfold cellStep at h
  split at h
  · rename_i hn
    rintro ⟨h1, h2⟩
    rcases hn with hn | hn
    · omega
    · exact hn h2
  · cases h
theorem bit_or (m n b : Nat) : (m ||| 2 ^ n).testBit b = true ↔ m.testBit b = true ∨ n = b := by
  rw [Nat.testBit_or, Nat.testBit_two_pow]
  simp
theorem row_some {s : Shape} {color z x v : Int} {m : Nat} : ∀ {w m' : Nat}, rowStep s color z x w v m = some m' →
    (∀ j : Nat, j < w → okCell s color z v (x + j)) ∧ ∀ b : Nat, m'.testBit b = true ↔ m.testBit b = true ∨ ∃ j : Nat, j < w ∧ s.num (x + j) v z = b
  | 0, m', h => by
    have h : some m = some m' := h
    cases h
    exact ⟨fun j hj => by omega, fun b => ⟨Or.inl, fun h => h.elim id (fun ⟨j, hj, _⟩ => by omega)⟩⟩
  | w + 1, m', h => by
    have h' : (rowStep s color z x w v m).bind (fun k => cellStep s color z v (x + w) k) = some m' := h
    cases hr : rowStep s color z x w v m with
    | none => rw [hr] at h'; cases h'
    | some k =>
      rw [hr] at h'
      obtain ⟨ok, rfl⟩ := cellStep_some h'
      obtain ⟨h1, h2⟩ := row_some hr
      refine ⟨fun j hj => ?_, fun b => ?_⟩
      · rcases Nat.lt_or_ge j w with hj' | hj'
        · exact h1 j hj'
        · obtain rfl : j = w := by omega
          exact ok
      · rw [bit_or, h2 b]
        have := ok.1
        constructor
        · rintro ((h | ⟨j, hj, e⟩) | h)
          · exact Or.inl h
          · exact Or.inr ⟨j, by omega, e⟩
          · exact Or.inr ⟨w, by omega, by omega⟩
        · rintro (h | ⟨j, hj, e⟩)
          · exact Or.inl (Or.inl h)
          · rcases Nat.lt_or_ge j w with hj' | hj'
            · exact Or.inl (Or.inr ⟨j, hj', e⟩)
            · obtain rfl : j = w := by omega
              exact Or.inr (by omega)
theorem row_none {s : Shape} {color z x v : Int} {m : Nat} : ∀ {w : Nat}, rowStep s color z x w v m = none → ∃ j : Nat, j < w ∧ ¬ okCell s color z v (x + j)
  | 0, h => by cases h
  | w + 1, h => by
    have h' : (rowStep s color z x w v m).bind (fun k => cellStep s color z v (x + w) k) = none := h
    cases hr : rowStep s color z x w v m with
    | none =>
      obtain ⟨j, hj, h1⟩ := row_none hr
      exact ⟨j, by omega, h1⟩
    | some k =>
      rw [hr] at h'
      exact ⟨w, by omega, cellStep_none h'⟩
theorem block_some {s : Shape} {x y z color : Int} {w : Nat} : ∀ {d m : Nat}, blockS s x y z w d color = some m →
    (∀ i : Nat, i < d → ∀ j : Nat, j < w → okCell s color z (y + i) (x + j)) ∧ ∀ b : Nat, m.testBit b = true ↔ ∃ i : Nat, i < d ∧ ∃ j : Nat, j < w ∧ s.num (x + j) (y + i) z = b
  | 0, m, h => by
    have h : some 0 = some m := h
    cases h
    exact ⟨fun i hi => by omega, fun b => ⟨fun h => by simp at h, fun ⟨i, hi, _⟩ => by omega⟩⟩
  | d + 1, m', h => by
    have h' : (blockS s x y z w d color).bind (fun m => rowStep s color z x w (y + d) m) = some m' := h
    cases hr : blockS s x y z w d color with
    | none => rw [hr] at h'; cases h'
    | some k =>
      rw [hr] at h'
      obtain ⟨r1, r2⟩ := row_some h'
      obtain ⟨h1, h2⟩ := block_some hr
      refine ⟨fun i hi => ?_, fun b => ?_⟩
      · rcases Nat.lt_or_ge i d with hi' | hi'
        · exact h1 i hi'
        · obtain rfl : i = d := by omega
          exact r1
      · rw [r2 b, h2 b]
        constructor
        · rintro (⟨i, hi, e⟩ | e)
          · exact ⟨i, by omega, e⟩
          · exact ⟨d, by omega, e⟩
        · rintro ⟨i, hi, e⟩
          rcases Nat.lt_or_ge i d with hi' | hi'
          · exact Or.inl ⟨i, hi', e⟩
          · obtain rfl : i = d := by omega
            exact Or.inr e
theorem block_none {s : Shape} {x y z color : Int} {w : Nat} : ∀ {d : Nat}, blockS s x y z w d color = none → ∃ i : Nat, i < d ∧ ∃ j : Nat, j < w ∧ ¬ okCell s color z (y + i) (x + j)
  | 0, h => by cases h
  | d + 1, h => by
    have h' : (blockS s x y z w d color).bind (fun m => rowStep s color z x w (y + d) m) = none := h
    cases hr : blockS s x y z w d color with
    | none =>
      obtain ⟨i, hi, e⟩ := block_none hr
      exact ⟨i, by omega, e⟩
    | some k =>
      rw [hr] at h'
      obtain ⟨j, hj, e⟩ := row_none h'
      exact ⟨d, by omega, j, hj, e⟩

/-! ### numbers of full cells -/
theorem numOf_full {cs : List Int} {i : Nat} (h : 0 ≤ numOf cs i) : cs.getD i 0 ≠ 0 ∧ numOf cs i = (fullN (cs.take i) : Int) := by
  unfold numOf at h ⊢
  split at h
  · omega
  · rename_i h0
    exact ⟨h0, by rw [if_neg h0]⟩
theorem getD_lt {cs : List Int} {i : Nat} (h : cs.getD i 0 ≠ 0) : i < cs.length := by
  rcases Nat.lt_or_ge i cs.length with h' | h'
  · exact h'
  · exfalso
    apply h
    simp [List.getElem?_eq_none h']
theorem fullN_mono {cs : List Int} {i j : Nat} (h : i ≤ j) : fullN (cs.take i) ≤ fullN (cs.take j) := by
  have : cs.take i = (cs.take j).take i := by rw [List.take_take, Nat.min_eq_left h]
  rw [this]
  exact (List.take_sublist _ _).countP_le
theorem fullN_step {cs : List Int} {i : Nat} (h : cs.getD i 0 ≠ 0) : fullN (cs.take (i + 1)) = fullN (cs.take i) + 1 := by
  have hi := getD_lt h
  have hc : cs[i]? = some cs[i] := List.getElem?_eq_getElem hi
  rw [fullN_succ hc, if_neg]
  rw [List.getD_eq_getElem?_getD, hc] at h
  exact h
theorem numOf_lt {cs : List Int} {i j : Nat} (hi : 0 ≤ numOf cs i) (hj : 0 ≤ numOf cs j) : numOf cs i < numOf cs j ↔ i < j := by
  obtain ⟨i1, i2⟩ := numOf_full hi
  obtain ⟨j1, j2⟩ := numOf_full hj
  rw [i2, j2]
  constructor
  · intro h
    rcases Nat.lt_or_ge i j with h' | h'
    · exact h'
    · have := fullN_mono (cs := cs) h'
      omega
  · intro h
    have h1 := fullN_mono (cs := cs) (show i + 1 ≤ j from h)
    rw [fullN_step i1] at h1
    omega
theorem numOf_inj {cs : List Int} {i j : Nat} (hi : 0 ≤ numOf cs i) (h : numOf cs i = numOf cs j) : i = j := by
  have hj : 0 ≤ numOf cs j := by omega
  rcases Nat.lt_trichotomy i j with h' | h' | h'
  · have := (numOf_lt hi hj).2 h'
    omega
  · exact h'
  · have := (numOf_lt hj hi).2 h'
    omega
theorem numOf_surj {cs : List Int} : ∀ {k : Nat} {b : Nat}, k ≤ cs.length → b < fullN (cs.take k) → ∃ i, i < k ∧ numOf cs i = b
  | 0, b, _, h => by simp [fullN] at h
  | k + 1, b, hk, h => by
    by_cases h0 : cs.getD k 0 = 0
    · have hc : cs[k]? = some cs[k] := List.getElem?_eq_getElem (by omega)
      rw [List.getD_eq_getElem?_getD, hc] at h0
      simp only [Option.getD_some] at h0
      rw [fullN_succ hc, if_pos h0] at h
      obtain ⟨i, hi, e⟩ := numOf_surj (by omega) (show b < fullN (cs.take k) by omega)
      exact ⟨i, by omega, e⟩
    · rw [fullN_step h0] at h
      rcases Nat.lt_or_ge b (fullN (cs.take k)) with hb | hb
      · obtain ⟨i, hi, e⟩ := numOf_surj (by omega) hb
        exact ⟨i, by omega, e⟩
      · refine ⟨k, by omega, ?_⟩
        unfold numOf
        rw [if_neg h0]
        omega

/-! ### places -/
theorem Shape.inside_iff (s : Shape) (x y z : Int) : s.inside x y z = true ↔ (0 ≤ x ∧ x ≤ s.W - 1) ∧ (0 ≤ y ∧ y ≤ s.D - 1) ∧ 0 ≤ z ∧ z ≤ s.H - 1 := by
  simp only [Shape.inside, Bool.and_eq_true, inB_iff]
theorem Shape.place_of {s : Shape} (ok : s.Ok) {x y z : Int} (h : s.inside x y z = true) : s.px (s.idx x y z).toNat = x ∧ s.py (s.idx x y z).toNat = y ∧ s.pz (s.idx x y z).toNat = z := by
  have hi := s.idx_in ok h
  rw [Shape.inside_iff] at h
  obtain ⟨⟨x1, x2⟩, ⟨y1, y2⟩, z1, z2⟩ := h
  have w1 := ok.w
  have d1 := ok.d
  have e : ((s.idx x y z).toNat : Int) = (z * s.D + y) * s.W + x := by
    have : s.idx x y z = (z * s.D + y) * s.W + x := rfl
    omega
  have e1 : ((s.idx x y z).toNat : Int) % s.W = x := by
    rw [e, Int.mul_comm, Int.add_comm, Int.add_mul_emod_self_left, Int.emod_eq_of_lt x1 (by omega)]
  have e2 : ((s.idx x y z).toNat : Int) / s.W = z * s.D + y := by
    rw [e, Int.mul_comm, Int.add_comm, Int.add_mul_ediv_left _ _ (by omega), Int.ediv_eq_zero_of_lt x1 (by omega)]
    omega
  refine ⟨e1, ?_, ?_⟩
  · unfold Shape.py
    rw [e2, Int.mul_comm, Int.add_comm, Int.add_mul_emod_self_left, Int.emod_eq_of_lt y1 (by omega)]
  · unfold Shape.pz
    rw [e2, Int.mul_comm, Int.add_comm, Int.add_mul_ediv_left _ _ (by omega), Int.ediv_eq_zero_of_lt y1 (by omega)]
    omega
theorem Shape.idx_inj {s : Shape} (ok : s.Ok) {x y z x' y' z' : Int} (h : s.inside x y z = true) (h' : s.inside x' y' z' = true) (e : s.idx x y z = s.idx x' y' z') : x = x' ∧ y = y' ∧ z = z' := by
  obtain ⟨a1, a2, a3⟩ := s.place_of ok h
  obtain ⟨b1, b2, b3⟩ := s.place_of ok h'
  rw [e] at a1 a2 a3
  exact ⟨a1.symm.trans b1, a2.symm.trans b2, a3.symm.trans b3⟩
theorem Shape.num_eq {s : Shape} {x y z : Int} (h : s.inside x y z = true) : s.num x y z = numOf s.cells (s.idx x y z).toNat := by rw [Shape.num, if_pos h]
theorem Shape.num_inj {s : Shape} (ok : s.Ok) {x y z x' y' z' : Int} (h : 0 ≤ s.num x y z) (e : s.num x y z = s.num x' y' z') : x = x' ∧ y = y' ∧ z = z' := by
  have h1 : s.inside x y z = true := num_in (by omega)
  have h2 : s.inside x' y' z' = true := num_in (by omega)
  have i1 := s.idx_in ok h1
  have i2 := s.idx_in ok h2
  rw [s.num_eq h1] at h
  rw [s.num_eq h1, s.num_eq h2] at e
  have := numOf_inj h e
  exact s.idx_inj ok h1 h2 (by omega)
/-- The colour of a place; 0 outside. -/
def Shape.colorAt (s : Shape) (x y z : Int) : Int := if s.inside x y z then s.cells.getD (s.idx x y z).toNat 0 else 0
theorem Shape.num_iff {s : Shape} (x y z : Int) : 0 ≤ s.num x y z ↔ s.colorAt x y z ≠ 0 := by
  unfold Shape.num Shape.colorAt
  split
  · unfold numOf
    split
    · rename_i h
      exact ⟨fun h' => by omega, fun h' => absurd h h'⟩
    · rename_i h
      constructor
      · exact fun _ => h
      · intro _; omega
  · simp
theorem okCell_iff {s : Shape} {color z v u : Int} (hc : color ≠ 0) : okCell s color z v u ↔ s.colorAt u v z = color := by
  unfold okCell
  rw [Shape.num_iff]
  unfold Shape.colorAt
  split
  · exact ⟨fun h => h.2, fun h => ⟨by rw [h]; exact hc, h⟩⟩
  · simp
    exact fun h => hc h.symm

/-! ### laid plates -/
def sizeW (l : List Plate) (c : Laid) : Int := if c.turned then (plateAt l c.plate.toNat).D else (plateAt l c.plate.toNat).W
def sizeD (l : List Plate) (c : Laid) : Int := if c.turned then (plateAt l c.plate.toNat).W else (plateAt l c.plate.toNat).D
def hasB (l : List Plate) (c : Laid) (x y z : Int) : Bool := decide (z = c.z) && (inB c.x (c.x + sizeW l c - 1) x && inB c.y (c.y + sizeD l c - 1) y)
theorem hasB_iff {l : List Plate} {c : Laid} {x y z : Int} : hasB l c x y z = true ↔ z = c.z ∧ (c.x ≤ x ∧ x ≤ c.x + sizeW l c - 1) ∧ c.y ≤ y ∧ y ≤ c.y + sizeD l c - 1 := by
  simp only [hasB, Bool.and_eq_true, inB_iff, decide_eq_true_eq]
/-- All places of a block have a colour. -/
def sameAll (s : Shape) (color z x y : Int) (w d : Nat) : Bool := (List.range d).all fun i => (List.range w).all fun j => decide (s.colorAt (x + j) (y + i) z = color)
theorem sameAll_iff {s : Shape} {color z x y : Int} {w d : Nat} : sameAll s color z x y w d = true ↔ ∀ i : Nat, i < d → ∀ j : Nat, j < w → s.colorAt (x + j) (y + i) z = color := by
  simp only [sameAll, List.all_eq_true, List.mem_range, decide_eq_true_eq]
def liesB (s : Shape) (l : List Plate) (c : Laid) : Bool :=
  inB 0 ((l.length : Int) - 1) c.plate && (s.inside c.x c.y c.z && (!(c.turned && decide ((plateAt l c.plate.toNat).W = (plateAt l c.plate.toNat).D)) &&
    (sameAll s (s.colorAt c.x c.y c.z) c.z c.x c.y (sizeW l c).toNat (sizeD l c).toNat && (decide (s.colorAt c.x c.y c.z ≠ 0) && (decide ((plateAt l c.plate.toNat).color = 0) || decide ((plateAt l c.plate.toNat).color = s.colorAt c.x c.y c.z))))))
/-- The set that a laid plate covers. -/
def coverOf (s : Shape) (l : List Plate) (c : Laid) : Option Nat := layF s l c.x c.y c.z (s.colorAt c.x c.y c.z) l.length (c.plate, c.turned)

theorem layP_eq (s : Shape) (l : List Plate) (c : Laid) (color : Int) : layP s c.x c.y c.z color (plateAt l c.plate.toNat) c.turned =
    if (plateAt l c.plate.toNat).color ≠ 0 ∧ (plateAt l c.plate.toNat).color ≠ color then none else if c.turned = true ∧ (plateAt l c.plate.toNat).W = (plateAt l c.plate.toNat).D then none
    else blockS s c.x c.y c.z (sizeW l c).toNat (sizeD l c).toNat color := by
  unfold layP sizeW sizeD
  cases c.turned <;> simp
theorem lies_iff {s : Shape} {l : List Plate} {c : Laid} : liesB s l c = true ↔ (0 ≤ c.plate ∧ c.plate < l.length) ∧ s.inside c.x c.y c.z = true ∧ ¬ (c.turned = true ∧ (plateAt l c.plate.toNat).W = (plateAt l c.plate.toNat).D) ∧
    sameAll s (s.colorAt c.x c.y c.z) c.z c.x c.y (sizeW l c).toNat (sizeD l c).toNat = true ∧ s.colorAt c.x c.y c.z ≠ 0 ∧ ((plateAt l c.plate.toNat).color = 0 ∨ (plateAt l c.plate.toNat).color = s.colorAt c.x c.y c.z) := by
  simp only [liesB, Bool.and_eq_true, Bool.or_eq_true, Bool.not_eq_true', Bool.and_eq_false_iff, decide_eq_true_eq, decide_eq_false_iff_not, inB_iff, not_and]
  constructor
  · rintro ⟨⟨a1, a2⟩, b, c1, d, e, f⟩
    refine ⟨⟨a1, by omega⟩, b, fun h => ?_, d, e, f⟩
    rcases c1 with c1 | c1
    · rw [h] at c1; cases c1
    · exact c1
  · rintro ⟨⟨a1, a2⟩, b, c1, d, e, f⟩
    refine ⟨⟨a1, by omega⟩, b, ?_, d, e, f⟩
    cases h : c.turned
    · exact Or.inl rfl
    · exact Or.inr (c1 h)
/-- A laid plate is valid just if the map of its place has it. -/
theorem lies_cover {s : Shape} {l : List Plate} {c : Laid} : liesB s l c = true ↔ 0 ≤ s.num c.x c.y c.z ∧ (coverOf s l c).isSome = true := by
  rw [lies_iff, Shape.num_iff]
  unfold coverOf layF
  constructor
  · rintro ⟨hp, hin, ht, hs, hc, hcol⟩
    refine ⟨hc, ?_⟩
    rw [if_pos hp]
    show (layP s c.x c.y c.z (s.colorAt c.x c.y c.z) (plateAt l c.plate.toNat) c.turned).isSome = true
    rw [layP_eq, if_neg (by omega), if_neg ht]
    cases hb : blockS s c.x c.y c.z (sizeW l c).toNat (sizeD l c).toNat (s.colorAt c.x c.y c.z) with
    | some m => rfl
    | none =>
      exfalso
      obtain ⟨i, hi, j, hj, hn⟩ := block_none hb
      exact hn ((okCell_iff hc).2 (sameAll_iff.1 hs i hi j hj))
  · rintro ⟨hc, h⟩
    have hin : s.inside c.x c.y c.z = true := by
      have := (Shape.num_iff (s := s) c.x c.y c.z).2 hc
      exact num_in (by omega)
    split at h
    · rename_i hp
      have h : (layP s c.x c.y c.z (s.colorAt c.x c.y c.z) (plateAt l c.plate.toNat) c.turned).isSome = true := h
      rw [layP_eq] at h
      split at h
      · cases h
      · rename_i hcol
        split at h
        · cases h
        · rename_i ht
          obtain ⟨m, hm⟩ := Option.isSome_iff_exists.1 h
          obtain ⟨h1, _⟩ := block_some hm
          exact ⟨hp, hin, ht, sameAll_iff.2 fun i hi j hj => (okCell_iff hc).1 (h1 i hi j hj), hc, by omega⟩
    · cases h
/-- Which cells it covers. -/
theorem cover_bits {s : Shape} {l : List Plate} {c : Laid} {m : Nat} (ok : s.Ok) (hm : coverOf s l c = some m) {x y z : Int} {b : Nat} (hn : s.num x y z = b) : m.testBit b = true ↔ hasB l c x y z = true := by
  unfold coverOf layF at hm
  split at hm
  · have hm : layP s c.x c.y c.z (s.colorAt c.x c.y c.z) (plateAt l c.plate.toNat) c.turned = some m := hm
    rw [layP_eq] at hm
    split at hm
    · cases hm
    · split at hm
      · cases hm
      · obtain ⟨_, h2⟩ := block_some hm
        rw [h2 b, hasB_iff]
        constructor
        · rintro ⟨i, hi, j, hj, e⟩
          obtain ⟨e1, e2, e3⟩ := s.num_inj ok (by omega) (hn.trans e.symm)
          omega
        · rintro ⟨e, hx, hy⟩
          refine ⟨(y - c.y).toNat, by omega, (x - c.x).toNat, by omega, ?_⟩
          rw [show c.x + ((x - c.x).toNat : Int) = x by omega, show c.y + ((y - c.y).toNat : Int) = y by omega, ← e]
          exact hn
  · cases hm
theorem cover_lt {s : Shape} {l : List Plate} {c : Laid} {m : Nat} (ok : s.Ok) (hm : coverOf s l c = some m) {b : Nat} (hb : m.testBit b = true) : b < fullN s.cells ∧ ∃ x y z, s.num x y z = b := by
  unfold coverOf layF at hm
  split at hm
  · have hm : layP s c.x c.y c.z (s.colorAt c.x c.y c.z) (plateAt l c.plate.toNat) c.turned = some m := hm
    rw [layP_eq] at hm
    split at hm
    · cases hm
    · split at hm
      · cases hm
      · obtain ⟨_, h2⟩ := block_some hm
        obtain ⟨i, hi, j, hj, e⟩ := (h2 b).1 hb
        have := num_lt_full ok (c.x + j) (c.y + i) c.z
        exact ⟨by omega, _, _, _, e⟩
  · cases hm
end Go.Proofs.YtaaeapjnjjbglaaGreatDoor
