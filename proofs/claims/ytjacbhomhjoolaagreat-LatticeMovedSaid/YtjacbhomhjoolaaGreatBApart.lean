/- LatticeApart's plain law: tallies of a list, the cells of bricks that overlap nowhere, the ends of links. The maps of LatticeApart: ends as keys, counts as values; a range that yields its values. LatticeApart: what the walk needs beside the maps. -/
import Derived.Test.YtjacbhomhjoolaaGreatBLib
import Derived.Test.YtjacbhomhjoolaaGreatBLinkS
import Derived.Test.YtjacbhomhjoolaaGreatBPairs
import Derived.Test.YtjacbhomhjoolaaGreatBOvN
import Derived.Test.YtjacbhomhjoolaaGreatBApi
namespace Go.Proofs.YtjacbhomhjoolaaGreat
open Go.RowKit

section
variable {K : Type} [DecidableEq K]
/-- The map counts the list. -/
def Tally (m : List (K × Int)) (l : List K) : Prop := (∀ x, (getK m x).getD 0 = (l.count x : Int)) ∧ ∀ p ∈ m, p.2 ≤ (l.count p.1 : Int)
theorem Tally.nil : Tally ([] : List (K × Int)) [] := ⟨fun _ => rfl, fun _ h => nomatch h⟩
theorem mem_putK {m : List (K × Int)} {x : K} {v : Int} {p : K × Int} (h : p ∈ putK m x v) : p = (x, v) ∨ p ∈ m := by
  induction m with
  | nil => exact Or.inl (by simpa [putK] using h)
  | cons q m ih =>
    unfold putK at h
    split at h
    · rcases List.mem_cons.1 h with h | h
      · exact Or.inl h
      · exact Or.inr (List.mem_cons_of_mem _ h)
    · rcases List.mem_cons.1 h with h | h
      · exact Or.inr (by rw [h]; exact List.mem_cons_self)
      · rcases ih h with h | h
        · exact Or.inl h
        · exact Or.inr (List.mem_cons_of_mem _ h)
theorem Tally.put {m : List (K × Int)} {l : List K} (h : Tally m l) (x : K) : Tally (putK m x ((getK m x).getD 0 + 1)) (l ++ [x]) := by
  constructor
  · intro y
    rw [getK_putK]
    by_cases hy : y = x
    · subst hy
      rw [if_pos rfl, h.1]
      simp
    · rw [if_neg hy, h.1, List.count_append, List.count_singleton]
      rw [if_neg (by simpa using fun e => hy e.symm)]
      simp
  · intro p hp
    rcases mem_putK hp with rfl | hp
    · simp [h.1]
    · have := h.2 p hp
      rw [List.count_append]
      omega
theorem Tally.one {m : List (K × Int)} {l : List K} (h : Tally m l) (hn : l.Nodup) : ∀ p ∈ m, ¬ 1 < p.2 := fun p hp => by
  have := h.2 p hp
  have := List.nodup_iff_count.1 hn p.1
  omega
theorem Tally.le {m : List (K × Int)} {l : List K} (h : Tally m l) (x : K) : 0 ≤ (getK m x).getD 0 ∧ (getK m x).getD 0 ≤ l.length := by
  rw [h.1]
  have := List.count_le_length (a := x) (l := l)
  omega
/-- Some member stands twice. -/
def twiceB (l : List K) : Bool := !decide l.Nodup
theorem twiceB_snoc {m : List (K × Int)} {l : List K} (h : Tally m l) (x : K) : twiceB (l ++ [x]) = (twiceB l || decide (1 < (getK m x).getD 0 + 1)) := by
  rw [h.1]
  have hc : (1 : Int) < (l.count x : Int) + 1 ↔ x ∈ l := by
    rw [← List.count_pos_iff]
    omega
  have hn : (l ++ [x]).Nodup ↔ l.Nodup ∧ x ∉ l := by
    unfold List.Nodup
    rw [List.pairwise_append]
    simp only [List.pairwise_cons, List.not_mem_nil, false_implies, implies_true, List.Pairwise.nil, and_self, List.mem_singleton, forall_eq, true_and]
    constructor
    · rintro ⟨h1, h2⟩
      exact ⟨h1, fun h => h2 x h rfl⟩
    · rintro ⟨h1, h2⟩
      exact ⟨h1, fun a ha e => h2 (e ▸ ha)⟩
  unfold twiceB
  by_cases h1 : l.Nodup <;> by_cases h2 : x ∈ l <;> simp [hn, hc, h1, h2]
end

/-! ### cells -/
/-- The cells of the first j bricks. -/
def flatC (ks : List Knd) (bs : List Brk) (j : Nat) : List Pt := (List.range j).flatMap fun i => bcells ks (brkAt bs i)
theorem flatC_succ (ks : List Knd) (bs : List Brk) (j : Nat) : flatC ks bs (j + 1) = flatC ks bs j ++ bcells ks (brkAt bs j) := by
  unfold flatC
  rw [List.range_succ, List.flatMap_append]
  simp
theorem flatC_over {ks : List Knd} {bs : List Brk} (hn : ∀ i, i < bs.length → (bcells ks (brkAt bs i)).Nodup) : twiceB (flatC ks bs bs.length) = !decide (overL ks bs bs.length = []) := by
  unfold twiceB
  congr 1
  rw [decide_eq_decide]
  unfold flatC List.Nodup
  rw [List.pairwise_flatMap]
  constructor
  · rintro ⟨-, h⟩
    rw [List.eq_nil_iff_forall_not_mem]
    intro p hp
    obtain ⟨i, k, -, hik, hk, hc⟩ := mem_overL.1 hp
    obtain ⟨c, h1, h2⟩ := commonB_iff.1 hc
    have := List.pairwise_iff_getElem.1 h i k (by simp; omega) (by simpa using hk) hik
    rw [List.getElem_range, List.getElem_range] at this
    exact this c h1 c h2 rfl
  · intro h0
    refine ⟨fun i hi => hn i (List.mem_range.1 hi), ?_⟩
    rw [List.pairwise_iff_getElem]
    intro i k hi hk hik x hx y hy e
    rw [List.getElem_range] at hx hy
    subst e
    have : ((i : Int), (k : Int)) ∈ overL ks bs bs.length := mem_overL.2 ⟨i, k, rfl, hik, by simpa using hk, commonB_iff.2 ⟨x, hx, hy⟩⟩
    rw [h0] at this
    cases this

/-! ### ends -/
theorem meet_back {p q : Pt} {d e : Int} (h0 : 0 ≤ d) (h1 : d < 6) (h : addP p (stepS d.toNat) = q) (he : e = oppD d) : addP q (stepS e.toNat) = p ∧ oppD e = d := by
  subst he h
  obtain ⟨x, y, z⟩ := p
  have hd : d = 0 ∨ d = 1 ∨ d = 2 ∨ d = 3 ∨ d = 4 ∨ d = 5 := by omega
  rcases hd with rfl | rfl | rfl | rfl | rfl | rfl <;> simp [addP, stepS, oppD] <;> omega
section
variable {ks : List Knd} {bs : List Brk}
theorem IsLnk.back (hf : Fit ks bs) {x : Lnk} (h : IsLnk ks bs x) : addP (knbAt (bknobs ks (brkAt bs x.b)) x.other).at_ (stepS (knbAt (bknobs ks (brkAt bs x.b)) x.other).dir.toNat) = (knbAt (bknobs ks (brkAt bs x.a)) x.knob).at_ ∧
    oppD (knbAt (bknobs ks (brkAt bs x.b)) x.other).dir = (knbAt (bknobs ks (brkAt bs x.a)) x.knob).dir := by
  have hm := meetB_iff.1 h.m
  have hd := hf.dir (Nat.lt_trans h.ab h.b) h.k
  exact meet_back hd.1 hd.2.1 hm.1 hm.2.1
/-- At most one other knob meets a knob, from the other side. -/
theorem lnk_uniqueB (hf : Fit ks bs) {x y : Lnk} (hx : IsLnk ks bs x) (hy : IsLnk ks bs y) (hb : x.b = y.b) (ho : x.other = y.other) : x = y := by
  have h1 := hx.back hf
  have h2 := hy.back hf
  rw [hb, ho] at h1
  obtain ⟨h3, h4⟩ := hf.face (Nat.lt_trans hx.ab hx.b) (Nat.lt_trans hy.ab hy.b) hx.k hy.k (h1.1.symm.trans h2.1) (h1.2.symm.trans h2.2)
  exact lnk_unique hf hx hy h3 h4
theorem lnk_cross (hf : Fit ks bs) {x y : Lnk} (hx : IsLnk ks bs x) (hy : IsLnk ks bs y) (hb : x.a = y.b) (ho : x.knob = y.other) : False := by
  have h1 := meetB_iff.1 hx.m
  have h2 := hy.back hf
  rw [← hb, ← ho] at h2
  obtain ⟨h3, -⟩ := hf.face hx.b (Nat.lt_trans hy.ab hy.b) hx.o hy.k (h1.1.symm.trans h2.1) (h1.2.1.trans h2.2)
  have := hx.ab
  have := hy.ab
  omega
/-- The ends of the first links. -/
def endsL (l : List Lnk) : List (Nat × Nat) := l.flatMap fun x => [(x.a, x.knob), (x.b, x.other)]
theorem endsL_nodup (hf : Fit ks bs) : (endsL (linkL ks bs)).Nodup := by
  unfold endsL List.Nodup
  rw [List.pairwise_flatMap]
  constructor
  · intro x hx
    have := (mem_linkL.1 hx).ab
    simp only [List.pairwise_cons, List.mem_singleton, forall_eq, List.not_mem_nil, false_implies, implies_true, List.Pairwise.nil, and_self, and_true]
    intro e
    rw [Prod.mk.injEq] at e
    omega
  · refine (linkL_nodup ks bs).imp_of_mem fun {x y} hx hy hne => ?_
    rw [mem_linkL] at hx hy
    intro p hp q hq e
    subst e
    simp only [List.mem_cons, List.not_mem_nil, or_false] at hp hq
    rcases hp with rfl | rfl <;> rcases hq with hq | hq <;> rw [Prod.mk.injEq] at hq
    · exact hne (lnk_unique hf hx hy hq.1 hq.2)
    · exact lnk_cross hf hx hy hq.1 hq.2
    · exact lnk_cross hf hy hx hq.1.symm hq.2.symm
    · exact hne (lnk_uniqueB hf hx hy hq.1 hq.2)
theorem endsL_take {l : List Lnk} {i : Nat} {x : Lnk} (h : l[i]? = some x) : endsL (l.take (i + 1)) = (endsL (l.take i) ++ [(x.a, x.knob)]) ++ [(x.b, x.other)] := by
  unfold endsL
  rw [List.take_add_one, h, List.flatMap_append]
  simp
theorem endsL_len (l : List Lnk) : (endsL l).length = 2 * l.length := by
  induction l with
  | nil => rfl
  | cons x l ih =>
    have : endsL (x :: l) = (x.a, x.knob) :: (x.b, x.other) :: endsL l := rfl
    rw [this, List.length_cons, List.length_cons, ih, List.length_cons]
    omega
end
end Go.Proofs.YtjacbhomhjoolaaGreat
namespace Go.Proofs.YtjacbhomhjoolaaGreat
open Go.RowKit

def encE (x : Nat × Nat) : Value := .agg #[.int .i64 x.1, .int .i64 x.2]
def evI (x : Int) : Value := .int .i64 x
theorem look_at {w : World} {M : Nat} {m : List (Pt × Int)} (h : MapOf encPt evI w M m) (x y z : Int) :
    (Instr.lookup 171 (.map (some M)) (.agg #[.int .i64 x, .int .i64 y, .int .i64 z]) false).run Tryz.prog w = .ok (.int .i64 ((getK m ⟨x, y, z⟩).getD 0)) w := by
  have := lookup_run ptKey Tryz.underlying171 (w := w) (z := .int .i64 0) (by kernel_rfl) h ⟨x, y, z⟩ false
  rw [show Value.agg #[.int .i64 x, .int .i64 y, .int .i64 z] = encPt ⟨x, y, z⟩ from rfl, this]
  cases getK m ⟨x, y, z⟩ <;> rfl
section
variable {P : Program} {K V : Type} {enc : K → Value} {ev : V → Value}
theorem next_val {w w' : World} {b r : Nat} {m : List (K × V)} {done left : List K} (h : RngOf enc ev w b r m done left) {ty : TypeId} {k u : Value}
    (hr : (Instr.next (.pointer (some ⟨r, 0, none⟩)) false ty).run P w = .ok (.tuple #[.bool true, k, u]) w') : ∃ p ∈ m, u = ev p.2 := by
  obtain ⟨es, clock, since, seen, c0, hb, hm, hs1, hs2, hh, hc, hcl, hl, hp⟩ := h
  rcases run_next_at (P := P) w ty r b since c0 seen es clock hh hb hs1 hc with ⟨h0, hrun⟩ | ⟨e, he, w1, hal, hrun⟩
  · rw [hrun] at hr
    simp at hr
  · rw [hrun] at hr
    simp only [Result.ok.injEq, Value.tuple.injEq, Array.mk.injEq, List.cons.injEq, and_true, true_and] at hr
    obtain ⟨⟨-, rfl⟩, -⟩ := hr
    have h1 : (e.key, e.val) ∈ m.map fun p => (enc p.1, ev p.2) := by
      rw [← hm]
      exact List.mem_map.2 ⟨e, (mem_left he).1, rfl⟩
    obtain ⟨p, hp1, hp2⟩ := List.mem_map.1 h1
    rw [Prod.mk.injEq] at hp2
    exact ⟨p, hp1, hp2.2.symm⟩
theorem wpList_nxtV {w : World} {ops : Array Oper} {rest : List Oper} {o : Oper} {a : Act} {Q : Exit → Act → World → Prop} (hg : o.guard = none) (it : Operand) (hop : o.op = Op.next it false) (b r : Nat) (m : List (K × V)) (done left : List K)
    (hit : a.eval it = .pointer (some ⟨r, 0, none⟩)) (h : RngOf enc ev w b r m done left)
    (hDone : left = [] → wpList P ops Q rest (a.put o.dst (.tuple #[.bool false])) w)
    (hMore : ∀ (x : K) (v : V) (left' : List K) (w' : World), (∃ p ∈ m, v = p.2) → RngOf enc ev w' b r m (done ++ [x]) left' → left'.length < left.length → w.grownBy w' (some r) → w'.heap.size = w.heap.size →
      (Instr.entry (.pointer (some ⟨r, 0, none⟩))).run P w' = .ok (.tuple #[enc x, ev v]) w' → wpList P ops Q rest (a.put o.dst (.tuple #[.bool true, enc x, ev v])) w') : wpList P ops Q (o :: rest) a w := by
  refine wpList_plain hg fun K' hK' => ?_
  unfold Oper.wp
  rcases next_run (P := P) h o.type with ⟨h0, hrun⟩ | ⟨x, u, left', w', hrun, h1, h2, h3, h4, h5⟩
  · simp [execOp, hop, hit, hrun, Result.andThen]
    exact hK' _ _ (hDone h0)
  · obtain ⟨p, hp, rfl⟩ := next_val h hrun
    simp [execOp, hop, hit, hrun, Result.andThen]
    exact hK' _ _ (hMore x p.2 left' w' ⟨p, hp, rfl⟩ h1 h2 h3 h4 h5)
end
/-- The stamp that an entry carries. -/
def bornOf : Value → Nat
  | .tuple #[_, .int _ n] => n.toNat
  | _ => 0
end Go.Proofs.YtjacbhomhjoolaaGreat
namespace Go.Proofs.YtjacbhomhjoolaaGreat
open Go.RowKit

theorem apart_model {ks : List Knd} {bs : List Brk} {ce : Int} (h : checkErr ks bs = ce) (hc : ce = 0 ∨ ce = 12) : modelErr ks bs = 0 := by
  by_cases h0 : modelErr ks bs = 0
  · exact h0
  · rw [checkErr, if_neg h0] at h
    exfalso
    unfold modelErr at h h0
    rcases kindsErr_ge ks with e | e | e
    · rw [if_pos e] at h h0
      split at h
      · omega
      · split at h
        · exact h0 (by simp_all)
        · omega
    · rw [if_neg (by omega)] at h
      omega
    · rw [if_neg (by omega)] at h
      omega
theorem asked_one {ks : List Knd} {bs : List Brk} {b : Brk} (h : askedErr ks bs = 0) (hm : b ∈ bs) : askedErr ks [b] = 0 := by
  have h0 : kindsErr ks = 0 := by
    by_cases h0 : kindsErr ks = 0
    · exact h0
    · rwa [askedErr_kinds h0] at h
  obtain ⟨j, hj⟩ := List.getElem?_of_mem hm
  cases hb : b.ok ks.length
  · rw [askedErr_bad h0 (List.getElem?_eq_some_iff.1 hj).1 (by rw [brkAt_eq hj]; exact hb)] at h
    cases h
  · refine askedErr_good h0 fun i hi => ?_
    obtain rfl : i = 0 := by simpa using hi
    exact hb
theorem flatC_zero (ks : List Knd) (bs : List Brk) : flatC ks bs 0 = [] := rfl
theorem twiceB_nil {K : Type} [DecidableEq K] : twiceB ([] : List K) = false := by simp [twiceB]
theorem flatC_len {ks : List Knd} {bs : List Brk} {j n : Nat} (hj : j ≤ n) (h : ∀ i, i < n → (bcells ks (brkAt bs i)).length ≤ 24) : (flatC ks bs j).length ≤ j * 24 := by
  have : ∀ k, k ≤ n → (flatC ks bs k).length ≤ k * 24 := fun k => by
    induction k with
    | zero => exact fun _ => Nat.zero_le _
    | succ k ih =>
      intro hk
      rw [flatC_succ, List.length_append]
      have := ih (by omega)
      have := h k (by omega)
      omega
  exact this j hj
theorem RowX.grown {w w' : World} {g : Nat} {t : TypeId} {rows : List (List Value)} {row : Option Nat} (h : RowX w g t rows) (e : w.grownBy w' row) (hr : some g ≠ row) : RowX w' g t rows := by
  obtain ⟨ex, hb⟩ := h
  exact ⟨ex, hb.grown e hr⟩
theorem RowX.map_ne {K V : Type} {enc : K → Value} {ev : V → Value} {w : World} {M : Nat} {m : List (K × V)} {g : Nat} {t : TypeId} {rows : List (List Value)} (h : RowX w g t rows) (hm : MapOf enc ev w M m) : some g ≠ some M := by
  obtain ⟨ex, hb⟩ := h
  exact fun e => hm.blk_ne hb (by cases e; rfl)
theorem EntOf.asMap {K V : Type} {enc : K → Value} {ev : V → Value} [DecidableEq K] {w : World} {b : Nat} {m : List (K × V)} {x : K} {born : Nat} (h : EntOf enc ev w b m x born) : MapOf enc ev w b m := by
  obtain ⟨es, clock, h1, h2, h3, h4, -⟩ := h
  exact ⟨es, clock, h1, h2, h3, h4⟩
theorem take_snoc {α : Type} {l : List α} {q : Nat} {c : α} (h : l[q]? = some c) (p : List α) : p ++ l.take (q + 1) = (p ++ l.take q) ++ [c] := by
  rw [List.take_add_one, h, List.append_assoc]
  rfl
theorem got_put {K : Type} [DecidableEq K] (m : List (K × Int)) (x : K) (v : Int) : (getK (putK m x v) x).getD 0 = v := by
  rw [getK_putK, if_pos rfl]
  rfl
end Go.Proofs.YtjacbhomhjoolaaGreat
