/- The search's order, and what is found by it: plain. cell: where the full cell with a number is. -/
import Derived.Test.YtaaeapjnjjbglaaGreatDoorCd2
import Derived.Test.YtaaeapjnjjbglaaGreatDoorCd9
import Derived.Test.YtaaeapjnjjbglaaGreatDoorCd33

namespace Go.Proofs.YtaaeapjnjjbglaaGreatDoor
open Go.RowKit

/-! ### the order -/
def beforeL : List Laid → List Laid → Bool
  | x :: a, y :: b => if x.plate ≠ y.plate then decide (x.plate < y.plate) else if x.turned ≠ y.turned then y.turned else beforeL a b
  | _, _ => false
theorem beforeL_irr : ∀ a : List Laid, beforeL a a = false
  | [] => rfl
  | x :: a => by
    unfold beforeL
    simp [beforeL_irr a]
theorem beforeL_asymm : ∀ {a b : List Laid}, beforeL a b = true → beforeL b a = false
  | [], _, h => by simp [beforeL] at h
  | _ :: _, [], h => by simp [beforeL] at h
  | x :: a, y :: b, h => by
    unfold beforeL at h ⊢
    by_cases hp : x.plate = y.plate
    · rw [if_neg (by simpa using hp)] at h
      rw [if_neg (by simpa using hp.symm)]
      by_cases ht : x.turned = y.turned
      · rw [if_neg (by simpa using ht)] at h
        rw [if_neg (by simpa using ht.symm)]
        exact beforeL_asymm h
      · rw [if_pos (by simpa using ht)] at h
        rw [if_pos (by simpa using fun e => ht e.symm)]
        cases hx : x.turned
        · rfl
        · rw [hx, h] at ht
          exact absurd rfl ht
    · rw [if_pos hp] at h
      rw [if_pos (fun e => hp e.symm)]
      have : x.plate < y.plate := by simpa using h
      simp
      omega
def sortLt (p q : Nat × Bool) : Prop := p.1 < q.1 ∨ p.1 = q.1 ∧ p.2 = false ∧ q.2 = true
theorem sorts_sorted (l : List Plate) : (sorts l).Pairwise sortLt := by
  unfold sorts
  rw [List.pairwise_flatMap]
  constructor
  · intro i _
    simp [sortLt]
  · refine List.pairwise_lt_range.imp ?_
    intro i j hij x hx y hy
    simp only [List.mem_cons, List.not_mem_nil, or_false] at hx hy
    left
    rcases hx with rfl | rfl <;> rcases hy with rfl | rfl <;> exact hij
theorem comps_prefix {s : Shape} {l : List Plate} : ∀ {f : Nat} {c : List Laid} {all : List Nat} {cov : Nat} {p : List Laid × List Nat}, p ∈ comps s l f c all cov → c <+: p.1
  | 0, _, _, _, _, h => by simp [comps] at h
  | f + 1, c, all, cov, p, h => by
    unfold comps at h
    split at h
    · rw [List.mem_singleton] at h
      rw [h]
      exact List.prefix_refl _
    · rw [List.mem_flatMap] at h
      obtain ⟨q, _, hq⟩ := h
      split at hq
      · simp at hq
      · exact (List.prefix_append _ _).trans (comps_prefix hq)
theorem before_mid {c a b : List Laid} {x y : Laid} (hp : c ++ [x] <+: a) (hq : c ++ [y] <+: b) (h : x.plate < y.plate ∨ x.plate = y.plate ∧ x.turned = false ∧ y.turned = true) : beforeL a b = true := by
  obtain ⟨d, rfl⟩ := hp
  obtain ⟨e, rfl⟩ := hq
  rw [List.append_assoc, List.append_assoc]
  induction c with
  | nil =>
    show beforeL (x :: d) (y :: e) = true
    unfold beforeL
    rcases h with h | ⟨h1, h2, h3⟩
    · rw [if_pos (by omega)]
      simpa using h
    · rw [if_neg (by simpa using h1), if_pos (by rw [h2, h3]; simp)]
      exact h3
  | cons z c ih =>
    show beforeL (z :: _) (z :: _) = true
    unfold beforeL
    rw [if_neg (by simp), if_neg (by simp)]
    exact ih
theorem comps_sorted {s : Shape} {l : List Plate} : ∀ (f : Nat) (c : List Laid) (all : List Nat) (cov : Nat), (comps s l f c all cov).Pairwise (fun p q => beforeL p.1 q.1 = true)
  | 0, _, _, _ => List.Pairwise.nil
  | f + 1, c, all, cov => by
    unfold comps
    split
    · exact List.pairwise_singleton _ _
    · rw [List.pairwise_flatMap]
      constructor
      · intro q _
        split
        · exact List.Pairwise.nil
        · exact comps_sorted f _ _ _
      · refine (sorts_sorted l).imp ?_
        intro p q hpq x hx y hy
        split at hx
        · simp at hx
        · split at hy
          · simp at hy
          · refine before_mid (comps_prefix hx) (comps_prefix hy) ?_
            rcases hpq with h | ⟨h1, h2, h3⟩
            · left
              show (p.1 : Int) < (q.1 : Int)
              omega
            · right
              refine ⟨?_, h2, h3⟩
              show (p.1 : Int) = (q.1 : Int)
              omega

/-! ### the search with a state -/
section
variable {σ : Type} (longF : σ → Nat → Bool) (seeF : σ → List Laid → List Nat → σ) (s : Shape) (l : List Plate)
def growS : Nat → σ → List Laid → List Nat → Nat → σ
  | 0, st, _, _, _ => st
  | f + 1, st, c, all, cov => if longF st c.length = true then st else if fullN s.cells ≤ lowZ cov then seeF st c all else
      (sorts l).foldl (fun st q => match kidOk s l c cov q.1 q.2 with
        | none => st
        | some m => growS f st (c ++ [laidN s (lowZ cov) q.1 q.2]) (all ++ [m]) (cov ||| m)) st
/-- What one sort adds. -/
def kidS (f : Nat) (c : List Laid) (all : List Nat) (cov : Nat) (st : σ) (q : Nat × Bool) : σ := match kidOk s l c cov q.1 q.2 with
  | none => st
  | some m => growS longF seeF s l f st (c ++ [laidN s (lowZ cov) q.1 q.2]) (all ++ [m]) (cov ||| m)
def growTo (f : Nat) (c : List Laid) (all : List Nat) (cov : Nat) (st : σ) (k : Nat) : σ := ((sorts l).take k).foldl (kidS longF seeF s l f c all cov) st
theorem sorts_len (l : List Plate) : (sorts l).length = 2 * l.length := by
  unfold sorts
  rw [List.length_flatMap]
  simp only [List.length_cons, List.length_nil]
  rw [List.map_const', List.sum_replicate_nat, List.length_range]
  omega
theorem sorts_get {l : List Plate} {i : Nat} (hi : i < l.length) (t : Bool) : (sorts l)[2 * i + t.toNat]? = some (i, t) := by
  have key : ∀ n, i < n → ((List.range n).flatMap fun i => [(i, false), (i, true)])[2 * i + t.toNat]? = some (i, t) := by
    intro n
    induction n with
    | zero => intro h; omega
    | succ n ih =>
      intro h
      have hlen : ((List.range n).flatMap fun i => [((i : Nat), false), (i, true)]).length = 2 * n := by
        rw [List.length_flatMap]
        simp only [List.length_cons, List.length_nil]
        rw [List.map_const', List.sum_replicate_nat, List.length_range]
        omega
      have ht : t.toNat ≤ 1 := by cases t <;> simp
      rw [List.range_succ, List.flatMap_append]
      rcases Nat.lt_or_ge i n with h' | h'
      · rw [List.getElem?_append_left (by omega)]
        exact ih h'
      · obtain rfl : i = n := by omega
        rw [List.getElem?_append_right (by omega), hlen]
        cases t <;> simp
  exact key _ hi
theorem growTo_succ {f : Nat} {c : List Laid} {all : List Nat} {cov : Nat} {st : σ} {i : Nat} (hi : i < l.length) (t : Bool) :
    growTo longF seeF s l f c all cov st (2 * i + t.toNat + 1) = kidS longF seeF s l f c all cov (growTo longF seeF s l f c all cov st (2 * i + t.toNat)) (i, t) := by
  unfold growTo
  rw [List.take_add_one, sorts_get hi t, List.foldl_append]
  rfl
theorem growS_go {f : Nat} {c : List Laid} {all : List Nat} {cov : Nat} {st : σ} (h1 : longF st c.length = false) (h2 : lowZ cov < fullN s.cells) :
    growS longF seeF s l (f + 1) st c all cov = growTo longF seeF s l f c all cov st (2 * l.length) := by
  show (if _ then _ else _) = _
  rw [h1, if_neg (by simp), if_neg (by omega)]
  unfold growTo
  rw [← sorts_len, List.take_of_length_le (Nat.le_refl _)]
  rfl
variable {longF seeF s l}
theorem foldl_same {α β : Type} {h : β → α → β} {b : β} : ∀ {xs : List α}, (∀ x ∈ xs, h b x = b) → xs.foldl h b = b
  | [], _ => rfl
  | x :: xs, hx => by
    rw [List.foldl_cons, hx x (by simp)]
    exact foldl_same fun y hy => hx y (by simp [hy])
theorem growS_eq (hl : ∀ st k c out, longF st k = true → k ≤ c.length → seeF st c out = st) : ∀ (f : Nat) (st : σ) (c : List Laid) (all : List Nat) (cov : Nat),
    growS longF seeF s l f st c all cov = (comps s l f c all cov).foldl (fun st p => seeF st p.1 p.2) st
  | 0, _, _, _, _ => rfl
  | f + 1, st, c, all, cov => by
    by_cases h1 : longF st c.length = true
    · have e : growS longF seeF s l (f + 1) st c all cov = st := by
        show (if _ then _ else _) = _
        rw [if_pos h1]
      rw [e]
      exact (foldl_same fun p hp => hl st _ p.1 p.2 h1 (comps_prefix hp).length_le).symm
    · show (if _ then _ else _) = _
      unfold comps
      rw [if_neg h1]
      split
      · rfl
      · rw [List.foldl_flatMap]
        congr 1
        funext st q
        generalize kidOk s l c cov q.1 q.2 = r
        cases r with
        | none => rfl
        | some m => exact growS_eq hl f _ _ _ _
end

/-! ### all compositions of a shape -/
def allComps (s : Shape) (l : List Plate) : List (List Laid × List Nat) := comps s l (fullN s.cells + 1) [] [] 0
theorem lowZ_zero : lowZ 0 = 0 := lowZ_eq (by omega) (by simp) fun j hj => by omega
theorem mem_all {s : Shape} {l : List Plate} (ok : s.Ok) (okl : platesB l = true) {c : List Laid} {out : List Nat} : (c, out) ∈ allComps s l ↔ setRun s l c c.length = some (out, 2 ^ fullN s.cells - 1) := by
  unfold allComps
  rw [mem_comps ok okl (Part.nil s l) (by omega)]
  exact ⟨fun h => h.2, fun h => ⟨List.nil_prefix, h⟩⟩
theorem mem_all_comp {s : Shape} {l : List Plate} (ok : s.Ok) (okl : platesB l = true) {c : List Laid} : (∃ out, (c, out) ∈ allComps s l) ↔ compB s l c = true := by
  rw [← set_comp ok]
  unfold setB
  constructor
  · rintro ⟨out, h⟩
    rw [mem_all ok okl] at h
    rw [h]
    simp
  · intro h
    split at h
    · cases h
    · rename_i st hst
      obtain ⟨out, all⟩ := st
      have h : all = 2 ^ fullN s.cells - 1 := by simpa using h
      exact ⟨out, (mem_all ok okl).2 (by rw [hst, h])⟩
theorem all_sorted (s : Shape) (l : List Plate) : (allComps s l).Pairwise (fun p q => beforeL p.1 q.1 = true) := comps_sorted _ _ _ _
theorem all_nodup (s : Shape) (l : List Plate) : (allComps s l).Nodup := (all_sorted s l).imp fun {p q} h e => by
  rw [e, beforeL_irr] at h
  cases h

/-! ### the best one -/
noncomputable def better (s : Shape) (c : List Laid) (out : List Nat) (b : List Laid × Nat) : Bool := decide (c.length < b.1.length ∨ c.length = b.1.length ∧ weakN s out < b.2)
open Classical in
noncomputable def seeB (s : Shape) (l : List Plate) (st : Option (List Laid × Nat)) (c : List Laid) (out : List Nat) : Option (List Laid × Nat) :=
  if hangB s l c = true then (match st with
    | none => some (c, weakN s out)
    | some b => if better s c out b = true then some (c, weakN s out) else some b) else st
def longB (st : Option (List Laid × Nat)) (k : Nat) : Bool := match st with
  | none => false
  | some b => decide (b.1.length < k)
theorem longB_see {s : Shape} {l : List Plate} (st : Option (List Laid × Nat)) (k : Nat) (c : List Laid) (out : List Nat) (h : longB st k = true) (hk : k ≤ c.length) : seeB s l st c out = st := by
  unfold longB at h
  split at h
  · cases h
  · rename_i b
    have h : b.1.length < k := by simpa using h
    unfold seeB better
    split
    · show (if _ then _ else _) = _
      rw [if_neg]
      simp
      omega
    · rfl
noncomputable def bestB (s : Shape) (l : List Plate) : Option (List Laid × Nat) := (allComps s l).foldl (fun st p => seeB s l st p.1 p.2) none
/-- What is known of the best one when some have been seen. -/
def BestOf (s : Shape) (l : List Plate) (xs : List (List Laid × List Nat)) : Option (List Laid × Nat) → Prop
  | none => ∀ p ∈ xs, hangB s l p.1 = false
  | some b => ∃ xs1 out xs2, xs = xs1 ++ (b.1, out) :: xs2 ∧ hangB s l b.1 = true ∧ b.2 = weakN s out ∧ (∀ p ∈ xs1, hangB s l p.1 = true → better s b.1 out (p.1, weakN s p.2) = true) ∧ ∀ p ∈ xs2, hangB s l p.1 = true → better s p.1 p.2 b = false
theorem better_iff {s : Shape} {c : List Laid} {out : List Nat} {b : List Laid × Nat} : better s c out b = true ↔ c.length < b.1.length ∨ c.length = b.1.length ∧ weakN s out < b.2 := by simp [better]
theorem BestOf.step {s : Shape} {l : List Plate} {xs : List (List Laid × List Nat)} {st : Option (List Laid × Nat)} (h : BestOf s l xs st) (p : List Laid × List Nat) : BestOf s l (xs ++ [p]) (seeB s l st p.1 p.2) := by
  obtain ⟨c, out⟩ := p
  unfold seeB
  by_cases hh : hangB s l c = true
  · rw [if_pos hh]
    cases st with
    | none =>
      refine ⟨xs, out, [], rfl, hh, rfl, fun p hp hp2 => ?_, fun p hp => by cases hp⟩
      rw [h p hp] at hp2
      cases hp2
    | some b =>
      obtain ⟨xs1, o, xs2, rfl, h1, h2, h3, h4⟩ := h
      show BestOf s l _ (if _ then _ else _)
      by_cases hb : better s c out b = true
      · rw [if_pos hb]
        refine ⟨xs1 ++ (b.1, o) :: xs2, out, [], by simp, hh, rfl, fun p hp hp2 => ?_, fun p hp => by cases hp⟩
        rw [better_iff] at hb
        rw [better_iff]
        rw [List.mem_append, List.mem_cons] at hp
        rcases hp with hp | rfl | hp
        · have := h3 p hp hp2
          rw [better_iff] at this
          simp only at this ⊢
          omega
        · simp only
          omega
        · have := h4 p hp hp2
          rw [← Bool.not_eq_true, better_iff] at this
          simp only at this ⊢
          omega
      · rw [if_neg hb]
        refine ⟨xs1, o, xs2 ++ [(c, out)], by simp, h1, h2, h3, fun p hp hp2 => ?_⟩
        rw [List.mem_append, List.mem_singleton] at hp
        rcases hp with hp | rfl
        · exact h4 p hp hp2
        · simpa using hb
  · rw [if_neg hh]
    have hf : hangB s l c = false := by simpa using hh
    cases st with
    | none =>
      intro p hp
      rw [List.mem_append, List.mem_singleton] at hp
      rcases hp with hp | rfl
      · exact h p hp
      · exact hf
    | some b =>
      obtain ⟨xs1, o, xs2, rfl, h1, h2, h3, h4⟩ := h
      refine ⟨xs1, o, xs2 ++ [(c, out)], by simp, h1, h2, h3, fun p hp hp2 => ?_⟩
      rw [List.mem_append, List.mem_singleton] at hp
      rcases hp with hp | rfl
      · exact h4 p hp hp2
      · rw [hf] at hp2
        cases hp2
theorem BestOf.all {s : Shape} {l : List Plate} : ∀ (ys xs : List (List Laid × List Nat)) (st : Option (List Laid × Nat)), BestOf s l xs st → BestOf s l (xs ++ ys) (ys.foldl (fun st p => seeB s l st p.1 p.2) st)
  | [], xs, st, h => by simpa using h
  | p :: ys, xs, st, h => by
    have := BestOf.all ys (xs ++ [p]) _ (h.step p)
    rw [List.append_assoc] at this
    exact this
theorem best_is (s : Shape) (l : List Plate) : BestOf s l (allComps s l) (bestB s l) := by
  have := BestOf.all (s := s) (l := l) (allComps s l) [] none (fun p hp => by cases hp)
  rw [List.nil_append] at this
  exact this
end Go.Proofs.YtaaeapjnjjbglaaGreatDoor

namespace Go.Proofs.YtaaeapjnjjbglaaGreatDoor
open Go.RowKit

set_option maxHeartbeats 1000000 in
theorem indexInt_c (A : Option Addr) (cap : Nat) (xs : List Int) (v : Int) (i : Nat) (hi : xs[i]? = some v) (hno : ∀ j, j < i → xs[j]? ≠ some v) (w : World) (hs : Ints w A cap xs) :
    Calls Tryz.prog 85 #[.slice A xs.length cap, .int .i64 v] w fun e w' => e = .returned (.int .i64 (i : Int)) ∧ w = w' := by
  have hl := hs.len
  unfold maxLen at hl
  have hil : i < xs.length := (List.getElem?_eq_some_iff.1 hi).1
  have Hi := Lib.hid hi
  have Hno := Lib.hid hno
  clear hi hno
  go_enter Tryz.func85, Tryz.ntmps85
  go_wp2
  go_loop [8] (fun iv => ∃ k : Nat, k ≤ i ∧ iv = .int .i64 k) (fun iv => i + 1 - (intOf iv).toNat)
  case atStart => exact ⟨0, by omega, rfl⟩
  case round =>
    obtain ⟨k, hk, rfl⟩ := hrel
    have hkl : k < xs.length := by omega
    obtain ⟨b, off, rfl, hb, hc⟩ := hs.at_ (List.getElem?_eq_getElem hkl)
    obtain ⟨u, hu⟩ : ∃ u, xs[k] = u := ⟨_, rfl⟩
    rw [hu] at hc
    by_cases he : k = i
    · subst he
      have hv : u = v := by
        have := Hi.out
        rw [List.getElem?_eq_getElem hkl, hu] at this
        exact Option.some.inj this
      subst hv
      clear hu
      go_wp2
      go_ret
      exact ⟨rfl, rfl⟩
    · have hne : (v == u) = false := by
        have h1 := Hno.out k (by omega)
        rw [List.getElem?_eq_getElem hkl, hu] at h1
        simp
        exact fun e => h1 (by rw [e])
      clear hu
      go_wp2
      go_round
      case rel => exact ⟨k + 1, by omega, by go_num⟩
      case measure => simp only [intOf]; omega

set_option maxRecDepth 100000 in
set_option maxHeartbeats 4000000 in
theorem cell_c (g : Nat) (s : Shape) (A : Option Addr) (cap : Nat) (NA : Option Addr) (ncap : Nat) (ok : s.Ok) (n : Nat) (hn : n < fullN s.cells) (w : World) (hB : Base w g s A cap NA ncap) :
    Calls Tryz.prog 66 #[.pointer (some ⟨g, 0, none⟩), .int .i64 (n : Int)] w fun e w' => e = .returned (.agg #[.int .i64 (s.px (placeN s n)), .int .i64 (s.py (placeN s n)), .int .i64 (s.pz (placeN s n))]) ∧ Ext w w' := by
  obtain ⟨h1, h2, h3, _⟩ := place_num ok hn
  obtain ⟨k, hk⟩ : ∃ k, placeN s n = k := ⟨_, rfl⟩
  rw [hk] at h1 h2 ⊢
  obtain ⟨px, hpx⟩ : ∃ px, s.px k = px := ⟨_, rfl⟩
  obtain ⟨py, hpy⟩ : ∃ py, s.py k = py := ⟨_, rfl⟩
  obtain ⟨pz, hpz⟩ : ∃ pz, s.pz k = pz := ⟨_, rfl⟩
  rw [hpx, hpy, hpz]
  have hget : (numsOf s.cells)[k]? = some (n : Int) := by rw [numsOf_get h1, h2]
  have hno : ∀ j, j < k → (numsOf s.cells)[j]? ≠ some (n : Int) := fun j hj e => by
    rw [numsOf_get (by omega)] at e
    have e := Option.some.inj e
    have := numOf_inj (by omega) (e.trans h2.symm)
    omega
  have hidx := fun W (E : Ext w W) => indexInt_c NA ncap (numsOf s.cells) n k hget hno W (hB.nums.ext E)
  rw [numsOf_len] at hidx
  have Hidx := Lib.hid hidx
  have hlen := s.len_le ok
  have w1 := ok.w
  have d1 := ok.d
  obtain ⟨w1, w2⟩ := w1
  obtain ⟨d1, d2⟩ := d1
  have b3 := Int.emod_nonneg (k : Int) (show s.W ≠ 0 by omega)
  have b4 := Int.emod_lt_of_pos (k : Int) (show 0 < s.W by omega)
  have c0 : 0 ≤ (k : Int) / s.W := Int.ediv_nonneg (by omega) (by omega)
  have c2 : (k : Int) / s.W ≤ k := Int.ediv_le_self _ (by omega)
  have e1 : (k : Int).tmod s.W = px := by rw [← hpx]; exact Int.tmod_eq_emod_of_nonneg (by omega)
  have e2 : (k : Int).tdiv s.W = (k : Int) / s.W := Int.tdiv_eq_ediv_of_nonneg (by omega)
  have f1 : (k : Int) % s.W = px := hpx
  have f2 : (k : Int) / s.W % s.D = py := hpy
  have f3 : (k : Int) / s.W / s.D = pz := hpz
  obtain ⟨q, hq⟩ : ∃ q, (k : Int) / s.W = q := ⟨_, rfl⟩
  rw [hq] at c0 c2 e2 f2 f3
  have b5 := Int.emod_nonneg q (show s.D ≠ 0 by omega)
  have b6 := Int.emod_lt_of_pos q (show 0 < s.D by omega)
  have c1 : 0 ≤ q / s.D := Int.ediv_nonneg c0 (by omega)
  have c3 : q / s.D ≤ q := Int.ediv_le_self _ c0
  have e3 : q.tmod s.D = py := by rw [← f2]; exact Int.tmod_eq_emod_of_nonneg c0
  have e4 : q.tdiv s.D = pz := by rw [← f3]; exact Int.tdiv_eq_ediv_of_nonneg c0
  rw [f1] at b3 b4
  rw [f2] at b5 b6
  rw [f3] at c1 c3
  have g1 : wrap64 q = q := by unfold wrap64; omega
  have g2 : wrap64 pz = pz := by unfold wrap64; omega
  clear h1 h2 h3 hk hget hno hidx hpx hpy hpz
  obtain ⟨W1, hW1, E1, B1, hz1⟩ := box_ w #[.int .i64 0, .int .i64 0, .int .i64 0] 53
  have base := hB.ext E1
  have a0 := base.c0
  have a1 := base.c1
  have a5 := base.c5
  go_enter Tryz.func66, Tryz.ntmps66
  go_wp2_with fail
  refine (Hidx.out _ E1).mono ?_
  rintro e w2 ⟨rfl, rfl⟩
  go_wp2_with fail
  refine wp_region_tail 34 (by kernel_rfl) (by kernel_rfl) ?_
  simp only [List.take_succ_cons, List.take_zero, List.drop_succ_cons, List.drop_zero]
  repeat (go_big_quiet_step (fail))
  refine wpQuiet_nil ?_
  intro W10 hW10
  have E10 : Ext W1 W10 := by
    obtain ⟨x, rfl⟩ := hW10
    exact (Ext.refl _).grow x
  clear hW10
  obtain ⟨hcW10, hfW10, hzW10⟩ := ext_facts E10
  have B10 := B1.ext E10
  have b10 := B10.cell
  have f10 := B10.frozen
  go_wp2_with fail
  have hW3 := ((B10.set_ 0 (.int .i64 px)).set_ 1 (.int .i64 py)).set_ 2 (.int .i64 pz)
  have c10 := hW3.cell
  refine bodyPost_ret (v := .agg #[.int .i64 px, .int .i64 py, .int .i64 pz]) (by simp [results, Tryz.results66, go_sem, c10]) rfl ⟨rfl, ?_⟩
  exact (((E1.trans E10).setCell (Nat.le_refl _) _).setCell (Nat.le_refl _) _).setCell (Nat.le_refl _) _
end Go.Proofs.YtaaeapjnjjbglaaGreatDoor
