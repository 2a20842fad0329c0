/- The plain side of look: places, neighbours, pairs; owned rows of two types lie apart; worlds in which one block and new ones have turned. -/
import Derived.Test.YtpikemglnnjemaaLay
import Derived.Test.YtpikemglnnjemaaApp
namespace Go.Proofs.Ytpikemglnnjemaa
open Go.RowKit

theorem own_apart {w : World} {b b' : Nat} {e e' : TypeId} {sz sz' : Nat} {v v' : Value} {n n' : Nat} {xs xs' : List Value} (h : w.ownsRow b e sz v n xs) (h' : w.ownsRow b' e' sz' v' n' xs') (he : e ≠ e') : v.ownBlock = none ∨ v.ownBlock ≠ v'.ownBlock := by
  rcases h.2 with ⟨rfl, _⟩ | ⟨g, cap, cur, rfl, _, hg, _⟩
  · exact Or.inl rfl
  · right
    rcases h'.2 with ⟨rfl, _⟩ | ⟨g', cap', cur', rfl, _, hg', _⟩
    · intro e1
      cases e1
    · intro e1
      simp only [Value.ownBlock, Option.some.injEq] at e1
      subst e1
      rw [hg] at hg'
      simp only [Option.some.injEq, Obj.cells.injEq] at hg'
      exact he hg'.2.1
theorem own_map {K V : Type} {enc : K → Value} {ev : V → Value} {w : World} {b : Nat} {e : TypeId} {sz : Nat} {v : Value} {n : Nat} {xs : List Value} {M : Nat} {m : List (K × V)} (h : w.ownsRow b e sz v n xs) (h' : MapOf enc ev w M m) : some M ≠ v.ownBlock := by
  intro e1
  rcases h.2 with ⟨rfl, _⟩ | ⟨g, cap, cur, rfl, _, hg, _⟩
  · cases e1
  · simp only [Value.ownBlock, Option.some.injEq] at e1
    subst e1
    obtain ⟨es, clock, hm, _⟩ := h'
    rw [hg] at hm
    cases hm
theorem MapOf.far {K V : Type} {enc : K → Value} {ev : V → Value} {w : World} {M : Nat} {m : List (K × V)} (h : MapOf enc ev w M m) {p : Addr} (hp : M ≠ p.block) (u : Value) : MapOf enc ev (w.setCell p u) M m := by
  obtain ⟨es, clock, hm, r⟩ := h
  exact ⟨es, clock, by rw [Below.heap_setCell _ _ _ _ hp]; exact hm, r⟩
/-- An owned row reads as a slice. -/
theorem own_slice {w : World} {b : Nat} {e : TypeId} {sz : Nat} {A : Option Addr} {n cap : Nat} {rows : List (List Value)} (hsz : 0 < sz) (hw : ∀ r ∈ rows, r.length = sz) (hn : rows.length = n) (hcap : 0 < n)
    (h : w.ownsRow b e sz (.slice A n cap) n rows.flatten) : SliceIs w A n cap sz rows := by
  rcases h.2 with ⟨_, h0⟩ | ⟨g, cap', cur, hv, _, hg, h1, h2, h3, h4⟩
  · omega
  · cases hv
    refine ⟨hn, h1, h2, hw, fun _ => ⟨g, 0, rfl, (Array.getElem?_eq_some_iff.1 hg).1, fun i r hr j u hu => ?_⟩⟩
    have hj : j < sz := by
      have := hw r (List.mem_of_getElem? hr)
      have := (List.getElem?_eq_some_iff.1 hu).1
      omega
    have hi : i < n := by
      have := (List.getElem?_eq_some_iff.1 hr).1
      omega
    have hflat : ∀ (rows : List (List Value)) (i : Nat), (∀ r ∈ rows, r.length = sz) → rows[i]? = some r → rows.flatten[i * sz + j]? = some u := by
      intro rows
      induction rows with
      | nil => intro i _ h; simp at h
      | cons x rows ih =>
        intro i hw h
        have hx := hw x (by simp)
        cases i with
        | zero =>
          simp only [List.getElem?_cons_zero, Option.some.injEq] at h
          subst h
          rw [List.flatten_cons, Nat.zero_mul, Nat.zero_add, List.getElem?_append_left (by omega)]
          exact hu
        | succ i =>
          simp only [List.getElem?_cons_succ] at h
          rw [List.flatten_cons, List.getElem?_append_right (by rw [hx, Nat.succ_mul]; omega), hx]
          have e2 : (i + 1) * sz + j - sz = i * sz + j := by rw [Nat.succ_mul]; omega
          rw [e2]
          exact ih i (fun r hr => hw r (by simp [hr])) h
    have hf := hflat rows i hw hr
    rw [← h4] at hf
    have hlt : i * sz + j < n * sz := by
      have : (i + 1) * sz ≤ n * sz := Nat.mul_le_mul_right _ (by omega)
      rw [Nat.succ_mul] at this
      omega
    rw [List.getElem?_take, if_pos hlt] at hf
    show w.cell? ⟨g, 0 + i * sz + j, none⟩ = some u
    simp only [World.cell?, hg]
    simpa using hf

/-! ### places -/
def Shape.px (s : Shape) (i : Nat) : Int := (i : Int) % s.W
def Shape.py (s : Shape) (i : Nat) : Int := (i : Int) / s.W % s.D
def Shape.pz (s : Shape) (i : Nat) : Int := (i : Int) / s.W / s.D
theorem Shape.place_in {s : Shape} (ok : s.Ok) {i : Nat} (hi : i < s.cells.length) : s.inside (s.px i) (s.py i) (s.pz i) = true ∧ s.idx (s.px i) (s.py i) (s.pz i) = i := by
  have w1 := ok.w
  have d1 := ok.d
  have hl := ok.len
  have a1 := Int.emod_add_mul_ediv (i : Int) s.W
  have a2 := Int.emod_add_mul_ediv ((i : Int) / s.W) s.D
  have b1 := Int.emod_nonneg (i : Int) (show s.W ≠ 0 by omega)
  have b2 := Int.emod_lt_of_pos (i : Int) (show 0 < s.W by omega)
  have b3 := Int.emod_nonneg ((i : Int) / s.W) (show s.D ≠ 0 by omega)
  have b4 := Int.emod_lt_of_pos ((i : Int) / s.W) (show 0 < s.D by omega)
  have e0 : (i : Int) < s.W * (s.D * s.H) := by rw [← Int.mul_assoc, ← hl]; omega
  have b5 : (i : Int) / s.W < s.D * s.H := Int.ediv_lt_of_lt_mul (by omega) (by rw [Int.mul_comm]; exact e0)
  have b6 : (i : Int) / s.W / s.D < s.H := Int.ediv_lt_of_lt_mul (by omega) (by rw [Int.mul_comm]; exact b5)
  have c0 : 0 ≤ (i : Int) / s.W := Int.ediv_nonneg (by omega) (by omega)
  have c1 : 0 ≤ (i : Int) / s.W / s.D := Int.ediv_nonneg c0 (by omega)
  constructor
  · simp only [Shape.inside, Bool.and_eq_true, inB_iff, Shape.px, Shape.py, Shape.pz]
    omega
  · unfold Shape.idx Shape.px Shape.py Shape.pz
    have e1 : (i : Int) / s.W / s.D * s.D + (i : Int) / s.W % s.D = (i : Int) / s.W := by rw [Int.mul_comm]; omega
    rw [e1, Int.mul_comm]
    omega

/-! ### what the second loop has collected -/
def edgesAt (s : Shape) (i : Nat) : List (Int × Int) :=
  (if 0 ≤ s.num (s.px i + 1) (s.py i) (s.pz i) then [(numOf s.cells i, s.num (s.px i + 1) (s.py i) (s.pz i))] else []) ++
  (if 0 ≤ s.num (s.px i) (s.py i + 1) (s.pz i) then [(numOf s.cells i, s.num (s.px i) (s.py i + 1) (s.pz i))] else [])
def aboveS (s : Shape) : Nat → List Int
  | 0 => []
  | k + 1 => if numOf s.cells k < 0 then aboveS s k else aboveS s k ++ [s.num (s.px k) (s.py k) (s.pz k + 1)]
def edgesS (s : Shape) : Nat → List (Int × Int)
  | 0 => []
  | k + 1 => if numOf s.cells k < 0 then edgesS s k else edgesS s k ++ edgesAt s k
def placesS (s : Shape) : Nat → List Nat
  | 0 => []
  | k + 1 => if numOf s.cells k < 0 then placesS s k else placesS s k ++ [k]
/-- The map from the pairs to their indices. -/
def pairsOf (es : List (Int × Int)) : List ((Int × Int) × Nat) := es.zipIdx.foldl (fun m p => putK m p.1 p.2) []
theorem pairsOf_snoc (es : List (Int × Int)) (p : Int × Int) : pairsOf (es ++ [p]) = putK (pairsOf es) p es.length := by
  simp [pairsOf, List.zipIdx_append]
def overAt (ab : List Int) (es : List (Int × Int)) (p : Int × Int) : Int :=
  match getK (pairsOf es) (ab.getD p.1.toNat 0, ab.getD p.2.toNat 0) with
  | some j => (j : Int)
  | none => -1
def overS (s : Shape) : List Int := (edgesS s s.cells.length).map (overAt (aboveS s s.cells.length) (edgesS s s.cells.length))

theorem numOf_neg {s : Shape} {k : Nat} {c : Int} (hc : s.cells[k]? = some c) : numOf s.cells k < 0 ↔ c = 0 := by
  unfold numOf
  rw [List.getD_eq_getElem?_getD, hc]
  simp only [Option.getD_some]
  split <;> omega
theorem aboveS_len {s : Shape} {k : Nat} (hk : k ≤ s.cells.length) : (aboveS s k).length = fullN (s.cells.take k) := by
  induction k with
  | zero => simp [aboveS, fullN]
  | succ k ih =>
    have hc : s.cells[k]? = some s.cells[k] := List.getElem?_eq_getElem (by omega)
    rw [fullN_succ hc, ← ih (by omega), aboveS]
    have := numOf_neg hc
    by_cases h : s.cells[k] = 0
    · rw [if_pos (this.2 h), if_pos h]; omega
    · rw [if_neg (fun h' => h (this.1 h')), if_neg h]; simp
theorem placesS_len {s : Shape} {k : Nat} : (placesS s k).length = (aboveS s k).length := by
  induction k with
  | zero => rfl
  | succ k ih =>
    unfold placesS aboveS
    split
    · exact ih
    · simp [ih]
theorem num_lt_full {s : Shape} (ok : s.Ok) (x y z : Int) : s.num x y z < fullN s.cells := by
  unfold Shape.num
  split
  · rename_i h
    have h1 := s.idx_in ok h
    exact numOf_hi (by omega)
  · omega
theorem edges_bd {s : Shape} (ok : s.Ok) {k : Nat} (hk : k ≤ s.cells.length) : ∀ p ∈ edgesS s k, (0 ≤ p.1 ∧ p.1 < fullN s.cells) ∧ 0 ≤ p.2 ∧ p.2 < fullN s.cells := by
  induction k with
  | zero => intro p hp; simp [edgesS] at hp
  | succ k ih =>
    intro p hp
    unfold edgesS at hp
    split at hp
    · exact ih (by omega) p hp
    · rename_i hn
      rcases List.mem_append.1 hp with hp | hp
      · exact ih (by omega) p hp
      · have h1 := numOf_hi (cs := s.cells) (i := k) (by omega)
        unfold edgesAt at hp
        rcases List.mem_append.1 hp with hp | hp
        · split at hp
          · rw [List.mem_singleton] at hp
            subst hp
            exact ⟨⟨by omega, h1⟩, by assumption, num_lt_full ok _ _ _⟩
          · simp at hp
        · split at hp
          · rw [List.mem_singleton] at hp
            subst hp
            exact ⟨⟨by omega, h1⟩, by assumption, num_lt_full ok _ _ _⟩
          · simp at hp
theorem edgesAt_len (s : Shape) (i : Nat) : (edgesAt s i).length ≤ 2 := by
  unfold edgesAt
  split <;> split <;> simp
theorem edgesS_len (s : Shape) (k : Nat) : (edgesS s k).length ≤ 2 * k := by
  induction k with
  | zero => simp [edgesS]
  | succ k ih =>
    unfold edgesS
    have := edgesAt_len s k
    split
    · omega
    · rw [List.length_append]; omega
end Go.Proofs.Ytpikemglnnjemaa
