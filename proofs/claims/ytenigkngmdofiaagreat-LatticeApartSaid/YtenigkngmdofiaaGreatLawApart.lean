/- The given statement LatticeApartSaid: for every input the law returns true, and each argument reads behind the call as it did. No conditions. -/
import Derived.Test.YtenigkngmdofiaaGreatBLib
import Derived.Test.YtenigkngmdofiaaGreatBLinkS
import Derived.Test.YtenigkngmdofiaaGreatBPairs
import Derived.Test.YtenigkngmdofiaaGreatBOvN
import Derived.Test.YtenigkngmdofiaaGreatBApi
import Derived.Test.YtenigkngmdofiaaGreatBAlive
import Derived.Test.YtenigkngmdofiaaGreatBOvWalk
import Derived.Test.YtenigkngmdofiaaGreatBLinks
import Derived.Test.YtenigkngmdofiaaGreatBOpen
namespace Go.Proofs.YtenigkngmdofiaaGreat
open Go.RowKit

section
variable {K : Type} [DecidableEq K]
/-- The map counts the list. -/
def Tally (m : List (K × Int)) (l : List K) : Prop := (∀ x, (getK m x).getD 0 = (l.count x : Int)) ∧ ∀ p ∈ m, p.2 ≤ (l.count p.1 : Int)
theorem Tally.nil : Tally ([] : List (K × Int)) [] := ⟨fun _ => rfl, fun _ h => nomatch h⟩
theorem mem_putK {m : List (K × Int)} {x : K} {v : Int} {p : K × Int} (h : p ∈ putK m x v) : p = (x, v) ∨ p ∈ m := by
  induction m with
  | nil => exact Or.inl (by simpa [putK] using h)
  | cons q m ih =>
    unfold putK at h
    split at h
    · rcases List.mem_cons.1 h with h | h
      · exact Or.inl h
      · exact Or.inr (List.mem_cons_of_mem _ h)
    · rcases List.mem_cons.1 h with h | h
      · exact Or.inr (by rw [h]; exact List.mem_cons_self)
      · rcases ih h with h | h
        · exact Or.inl h
        · exact Or.inr (List.mem_cons_of_mem _ h)
theorem Tally.put {m : List (K × Int)} {l : List K} (h : Tally m l) (x : K) : Tally (putK m x ((getK m x).getD 0 + 1)) (l ++ [x]) := by
  constructor
  · intro y
    rw [getK_putK]
    by_cases hy : y = x
    · subst hy
      rw [if_pos rfl, h.1]
      simp
    · rw [if_neg hy, h.1, List.count_append, List.count_singleton]
      rw [if_neg (by simpa using fun e => hy e.symm)]
      simp
  · intro p hp
    rcases mem_putK hp with rfl | hp
    · simp [h.1]
    · have := h.2 p hp
      rw [List.count_append]
      omega
theorem Tally.one {m : List (K × Int)} {l : List K} (h : Tally m l) (hn : l.Nodup) : ∀ p ∈ m, ¬ 1 < p.2 := fun p hp => by
  have := h.2 p hp
  have := List.nodup_iff_count.1 hn p.1
  omega
theorem Tally.le {m : List (K × Int)} {l : List K} (h : Tally m l) (x : K) : 0 ≤ (getK m x).getD 0 ∧ (getK m x).getD 0 ≤ l.length := by
  rw [h.1]
  have := List.count_le_length (a := x) (l := l)
  omega
/-- Some member stands twice. -/
def twiceB (l : List K) : Bool := !decide l.Nodup
theorem twiceB_snoc {m : List (K × Int)} {l : List K} (h : Tally m l) (x : K) : twiceB (l ++ [x]) = (twiceB l || decide (1 < (getK m x).getD 0 + 1)) := by
  rw [h.1]
  have hc : (1 : Int) < (l.count x : Int) + 1 ↔ x ∈ l := by
    rw [← List.count_pos_iff]
    omega
  have hn : (l ++ [x]).Nodup ↔ l.Nodup ∧ x ∉ l := by
    unfold List.Nodup
    rw [List.pairwise_append]
    simp only [List.pairwise_cons, List.not_mem_nil, false_implies, implies_true, List.Pairwise.nil, and_self, List.mem_singleton, forall_eq, true_and]
    constructor
    · rintro ⟨h1, h2⟩
      exact ⟨h1, fun h => h2 x h rfl⟩
    · rintro ⟨h1, h2⟩
      exact ⟨h1, fun a ha e => h2 (e ▸ ha)⟩
  unfold twiceB
  by_cases h1 : l.Nodup <;> by_cases h2 : x ∈ l <;> simp [hn, hc, h1, h2]
end

/-! ### cells -/
/-- The cells of the first j bricks. -/
def flatC (ks : List Knd) (bs : List Brk) (j : Nat) : List Pt := (List.range j).flatMap fun i => bcells ks (brkAt bs i)
theorem flatC_succ (ks : List Knd) (bs : List Brk) (j : Nat) : flatC ks bs (j + 1) = flatC ks bs j ++ bcells ks (brkAt bs j) := by
  unfold flatC
  rw [List.range_succ, List.flatMap_append]
  simp
theorem flatC_over {ks : List Knd} {bs : List Brk} (hn : ∀ i, i < bs.length → (bcells ks (brkAt bs i)).Nodup) : twiceB (flatC ks bs bs.length) = !decide (overL ks bs bs.length = []) := by
  unfold twiceB
  congr 1
  rw [decide_eq_decide]
  unfold flatC List.Nodup
  rw [List.pairwise_flatMap]
  constructor
  · rintro ⟨-, h⟩
    rw [List.eq_nil_iff_forall_not_mem]
    intro p hp
    obtain ⟨i, k, -, hik, hk, hc⟩ := mem_overL.1 hp
    obtain ⟨c, h1, h2⟩ := commonB_iff.1 hc
    have := List.pairwise_iff_getElem.1 h i k (by simp; omega) (by simpa using hk) hik
    rw [List.getElem_range, List.getElem_range] at this
    exact this c h1 c h2 rfl
  · intro h0
    refine ⟨fun i hi => hn i (List.mem_range.1 hi), ?_⟩
    rw [List.pairwise_iff_getElem]
    intro i k hi hk hik x hx y hy e
    rw [List.getElem_range] at hx hy
    subst e
    have : ((i : Int), (k : Int)) ∈ overL ks bs bs.length := mem_overL.2 ⟨i, k, rfl, hik, by simpa using hk, commonB_iff.2 ⟨x, hx, hy⟩⟩
    rw [h0] at this
    cases this

/-! ### ends -/
theorem meet_back {p q : Pt} {d e : Int} (h0 : 0 ≤ d) (h1 : d < 6) (h : addP p (stepS d.toNat) = q) (he : e = oppD d) : addP q (stepS e.toNat) = p ∧ oppD e = d := by
  subst he h
  obtain ⟨x, y, z⟩ := p
  have hd : d = 0 ∨ d = 1 ∨ d = 2 ∨ d = 3 ∨ d = 4 ∨ d = 5 := by omega
  rcases hd with rfl | rfl | rfl | rfl | rfl | rfl <;> simp [addP, stepS, oppD] <;> omega
section
variable {ks : List Knd} {bs : List Brk}
theorem IsLnk.back (hf : Fit ks bs) {x : Lnk} (h : IsLnk ks bs x) : addP (knbAt (bknobs ks (brkAt bs x.b)) x.other).at_ (stepS (knbAt (bknobs ks (brkAt bs x.b)) x.other).dir.toNat) = (knbAt (bknobs ks (brkAt bs x.a)) x.knob).at_ ∧
    oppD (knbAt (bknobs ks (brkAt bs x.b)) x.other).dir = (knbAt (bknobs ks (brkAt bs x.a)) x.knob).dir := by
  have hm := meetB_iff.1 h.m
  have hd := hf.dir (Nat.lt_trans h.ab h.b) h.k
  exact meet_back hd.1 hd.2.1 hm.1 hm.2.1
/-- At most one other knob meets a knob, from the other side. -/
theorem lnk_uniqueB (hf : Fit ks bs) {x y : Lnk} (hx : IsLnk ks bs x) (hy : IsLnk ks bs y) (hb : x.b = y.b) (ho : x.other = y.other) : x = y := by
  have h1 := hx.back hf
  have h2 := hy.back hf
  rw [hb, ho] at h1
  obtain ⟨h3, h4⟩ := hf.face (Nat.lt_trans hx.ab hx.b) (Nat.lt_trans hy.ab hy.b) hx.k hy.k (h1.1.symm.trans h2.1) (h1.2.symm.trans h2.2)
  exact lnk_unique hf hx hy h3 h4
theorem lnk_cross (hf : Fit ks bs) {x y : Lnk} (hx : IsLnk ks bs x) (hy : IsLnk ks bs y) (hb : x.a = y.b) (ho : x.knob = y.other) : False := by
  have h1 := meetB_iff.1 hx.m
  have h2 := hy.back hf
  rw [← hb, ← ho] at h2
  obtain ⟨h3, -⟩ := hf.face hx.b (Nat.lt_trans hy.ab hy.b) hx.o hy.k (h1.1.symm.trans h2.1) (h1.2.1.trans h2.2)
  have := hx.ab
  have := hy.ab
  omega
/-- The ends of the first links. -/
def endsL (l : List Lnk) : List (Nat × Nat) := l.flatMap fun x => [(x.a, x.knob), (x.b, x.other)]
theorem endsL_nodup (hf : Fit ks bs) : (endsL (linkL ks bs)).Nodup := by
  unfold endsL List.Nodup
  rw [List.pairwise_flatMap]
  constructor
  · intro x hx
    have := (mem_linkL.1 hx).ab
    simp only [List.pairwise_cons, List.mem_singleton, forall_eq, List.not_mem_nil, false_implies, implies_true, List.Pairwise.nil, and_self, and_true]
    intro e
    rw [Prod.mk.injEq] at e
    omega
  · refine (linkL_nodup ks bs).imp_of_mem fun {x y} hx hy hne => ?_
    rw [mem_linkL] at hx hy
    intro p hp q hq e
    subst e
    simp only [List.mem_cons, List.not_mem_nil, or_false] at hp hq
    rcases hp with rfl | rfl <;> rcases hq with hq | hq <;> rw [Prod.mk.injEq] at hq
    · exact hne (lnk_unique hf hx hy hq.1 hq.2)
    · exact lnk_cross hf hx hy hq.1 hq.2
    · exact lnk_cross hf hy hx hq.1.symm hq.2.symm
    · exact hne (lnk_uniqueB hf hx hy hq.1 hq.2)
theorem endsL_take {l : List Lnk} {i : Nat} {x : Lnk} (h : l[i]? = some x) : endsL (l.take (i + 1)) = (endsL (l.take i) ++ [(x.a, x.knob)]) ++ [(x.b, x.other)] := by
  unfold endsL
  rw [List.take_add_one, h, List.flatMap_append]
  simp
theorem endsL_len (l : List Lnk) : (endsL l).length = 2 * l.length := by
  induction l with
  | nil => rfl
  | cons x l ih =>
    have : endsL (x :: l) = (x.a, x.knob) :: (x.b, x.other) :: endsL l := rfl
    rw [this, List.length_cons, List.length_cons, ih, List.length_cons]
    omega
end
end Go.Proofs.YtenigkngmdofiaaGreat
namespace Go.Proofs.YtenigkngmdofiaaGreat
open Go.RowKit

def encE (x : Nat × Nat) : Value := .agg #[.int .i64 x.1, .int .i64 x.2]
def evI (x : Int) : Value := .int .i64 x
theorem end_equal (w : World) (a b c d : Int) : (Op.equal 78 (.agg #[.int .i64 a, .int .i64 b]) (.agg #[.int .i64 c, .int .i64 d])).run Tryz.prog w = .ok (decide (a = c) && decide (b = d)) w := by
  have u3 := Tryz.underlying3
  have hS : Tryz.prog.underlying 78 = some (.struct (Tryz.prog.fieldsOf 78)) := by kernel_rfl
  have hp : Tryz.prog.stoodInHeld 78 = false := by kernel_rfl
  rw [Op.equal, Op.maxDepth, show (10000 : Nat) = 9999 + 1 from rfl, run_equalIn_agg w 9999 _ _ _ hS hp]
  simp only [Program.fieldsOf, Tryz.underlying78]
  go_simp
  by_cases h1 : a = c <;> by_cases h2 : b = d <;> simp [h1, h2]
theorem endKey : KeyEnc Tryz.prog 78 encE where
  wide := by kernel_rfl
  eq w x y := by
    obtain ⟨a, b⟩ := x
    obtain ⟨c, d⟩ := y
    rw [encE, encE, end_equal]
    by_cases h1 : a = c <;> by_cases h2 : b = d <;> simp [h1, h2] <;> omega
  check w em x := by
    obtain ⟨a, b⟩ := x
    show (Instr.checkKey em 10000 78 (.agg #[.int .i64 a, .int .i64 b])).run Tryz.prog w = .ok () w
    kernel_rfl
  same x := by
    obtain ⟨a, b⟩ := x
    simp [encE, Instr.sameBits]
theorem look_at {w : World} {M : Nat} {m : List (Pt × Int)} (h : MapOf encPt evI w M m) (x y z : Int) :
    (Instr.lookup 71 (.map (some M)) (.agg #[.int .i64 x, .int .i64 y, .int .i64 z]) false).run Tryz.prog w = .ok (.int .i64 ((getK m ⟨x, y, z⟩).getD 0)) w := by
  have := lookup_run ptKey Tryz.underlying71 (w := w) (z := .int .i64 0) (by kernel_rfl) h ⟨x, y, z⟩ false
  rw [show Value.agg #[.int .i64 x, .int .i64 y, .int .i64 z] = encPt ⟨x, y, z⟩ from rfl, this]
  cases getK m ⟨x, y, z⟩ <;> rfl
theorem look_met {w : World} {M : Nat} {m : List ((Nat × Nat) × Int)} (h : MapOf encE evI w M m) (a b : Nat) :
    (Instr.lookup 74 (.map (some M)) (.agg #[.int .i64 a, .int .i64 b]) false).run Tryz.prog w = .ok (.int .i64 ((getK m (a, b)).getD 0)) w := by
  have := lookup_run endKey Tryz.underlying74 (w := w) (z := .int .i64 0) (by kernel_rfl) h (a, b) false
  rw [show Value.agg #[.int .i64 (a : Int), .int .i64 (b : Int)] = encE (a, b) from rfl, this]
  cases getK m (a, b) <;> rfl
section
variable {P : Program} {K V : Type} {enc : K → Value} {ev : V → Value}
theorem next_val {w w' : World} {b r : Nat} {m : List (K × V)} {done left : List K} (h : RngOf enc ev w b r m done left) {ty : TypeId} {k u : Value}
    (hr : (Instr.next (.pointer (some ⟨r, 0, none⟩)) false ty).run P w = .ok (.tuple #[.bool true, k, u]) w') : ∃ p ∈ m, u = ev p.2 := by
  obtain ⟨es, clock, since, seen, c0, hb, hm, hs1, hs2, hh, hc, hcl, hl, hp⟩ := h
  rcases run_next_at (P := P) w ty r b since c0 seen es clock hh hb hs1 hc with ⟨h0, hrun⟩ | ⟨e, he, w1, hal, hrun⟩
  · rw [hrun] at hr
    simp at hr
  · rw [hrun] at hr
    simp only [Result.ok.injEq, Value.tuple.injEq, Array.mk.injEq, List.cons.injEq, and_true, true_and] at hr
    obtain ⟨⟨-, rfl⟩, -⟩ := hr
    have h1 : (e.key, e.val) ∈ m.map fun p => (enc p.1, ev p.2) := by
      rw [← hm]
      exact List.mem_map.2 ⟨e, (mem_left he).1, rfl⟩
    obtain ⟨p, hp1, hp2⟩ := List.mem_map.1 h1
    rw [Prod.mk.injEq] at hp2
    exact ⟨p, hp1, hp2.2.symm⟩
theorem wpList_nxtV {w : World} {ops : Array Oper} {rest : List Oper} {o : Oper} {a : Act} {Q : Exit → Act → World → Prop} (hg : o.guard = none) (it : Operand) (hop : o.op = Op.next it false) (b r : Nat) (m : List (K × V)) (done left : List K)
    (hit : a.eval it = .pointer (some ⟨r, 0, none⟩)) (h : RngOf enc ev w b r m done left)
    (hDone : left = [] → wpList P ops Q rest (a.put o.dst (.tuple #[.bool false])) w)
    (hMore : ∀ (x : K) (v : V) (left' : List K) (w' : World), (∃ p ∈ m, v = p.2) → RngOf enc ev w' b r m (done ++ [x]) left' → left'.length < left.length → w.grownBy w' (some r) → w'.heap.size = w.heap.size →
      (Instr.entry (.pointer (some ⟨r, 0, none⟩))).run P w' = .ok (.tuple #[enc x, ev v]) w' → wpList P ops Q rest (a.put o.dst (.tuple #[.bool true, enc x, ev v])) w') : wpList P ops Q (o :: rest) a w := by
  refine wpList_plain hg fun K' hK' => ?_
  unfold Oper.wp
  rcases next_run (P := P) h o.type with ⟨h0, hrun⟩ | ⟨x, u, left', w', hrun, h1, h2, h3, h4, h5⟩
  · simp [execOp, hop, hit, hrun, Result.andThen]
    exact hK' _ _ (hDone h0)
  · obtain ⟨p, hp, rfl⟩ := next_val h hrun
    simp [execOp, hop, hit, hrun, Result.andThen]
    exact hK' _ _ (hMore x p.2 left' w' ⟨p, hp, rfl⟩ h1 h2 h3 h4 h5)
end
/-- The stamp that an entry carries. -/
def bornOf : Value → Nat
  | .tuple #[_, .int _ n] => n.toNat
  | _ => 0
end Go.Proofs.YtenigkngmdofiaaGreat
namespace Go.Proofs.YtenigkngmdofiaaGreat
open Go.RowKit

theorem apart_model {ks : List Knd} {bs : List Brk} {ce : Int} (h : checkErr ks bs = ce) (hc : ce = 0 ∨ ce = 12) : modelErr ks bs = 0 := by
  by_cases h0 : modelErr ks bs = 0
  · exact h0
  · rw [checkErr, if_neg h0] at h
    exfalso
    unfold modelErr at h h0
    rcases kindsErr_ge ks with e | e | e
    · rw [if_pos e] at h h0
      split at h
      · omega
      · split at h
        · exact h0 (by simp_all)
        · omega
    · rw [if_neg (by omega)] at h
      omega
    · rw [if_neg (by omega)] at h
      omega
theorem asked_one {ks : List Knd} {bs : List Brk} {b : Brk} (h : askedErr ks bs = 0) (hm : b ∈ bs) : askedErr ks [b] = 0 := by
  have h0 : kindsErr ks = 0 := by
    by_cases h0 : kindsErr ks = 0
    · exact h0
    · rwa [askedErr_kinds h0] at h
  obtain ⟨j, hj⟩ := List.getElem?_of_mem hm
  cases hb : b.ok ks.length
  · rw [askedErr_bad h0 (List.getElem?_eq_some_iff.1 hj).1 (by rw [brkAt_eq hj]; exact hb)] at h
    cases h
  · refine askedErr_good h0 fun i hi => ?_
    obtain rfl : i = 0 := by simpa using hi
    exact hb
theorem flatC_zero (ks : List Knd) (bs : List Brk) : flatC ks bs 0 = [] := rfl
theorem twiceB_nil {K : Type} [DecidableEq K] : twiceB ([] : List K) = false := by simp [twiceB]
theorem flatC_len {ks : List Knd} {bs : List Brk} {j n : Nat} (hj : j ≤ n) (h : ∀ i, i < n → (bcells ks (brkAt bs i)).length ≤ 24) : (flatC ks bs j).length ≤ j * 24 := by
  have : ∀ k, k ≤ n → (flatC ks bs k).length ≤ k * 24 := fun k => by
    induction k with
    | zero => exact fun _ => Nat.zero_le _
    | succ k ih =>
      intro hk
      rw [flatC_succ, List.length_append]
      have := ih (by omega)
      have := h k (by omega)
      omega
  exact this j hj
theorem RowX.grown {w w' : World} {g : Nat} {t : TypeId} {rows : List (List Value)} {row : Option Nat} (h : RowX w g t rows) (e : w.grownBy w' row) (hr : some g ≠ row) : RowX w' g t rows := by
  obtain ⟨ex, hb⟩ := h
  exact ⟨ex, hb.grown e hr⟩
theorem RowX.map_ne {K V : Type} {enc : K → Value} {ev : V → Value} {w : World} {M : Nat} {m : List (K × V)} {g : Nat} {t : TypeId} {rows : List (List Value)} (h : RowX w g t rows) (hm : MapOf enc ev w M m) : some g ≠ some M := by
  obtain ⟨ex, hb⟩ := h
  exact fun e => hm.blk_ne hb (by cases e; rfl)
theorem EntOf.asMap {K V : Type} {enc : K → Value} {ev : V → Value} [DecidableEq K] {w : World} {b : Nat} {m : List (K × V)} {x : K} {born : Nat} (h : EntOf enc ev w b m x born) : MapOf enc ev w b m := by
  obtain ⟨es, clock, h1, h2, h3, h4, -⟩ := h
  exact ⟨es, clock, h1, h2, h3, h4⟩
theorem take_snoc {α : Type} {l : List α} {q : Nat} {c : α} (h : l[q]? = some c) (p : List α) : p ++ l.take (q + 1) = (p ++ l.take q) ++ [c] := by
  rw [List.take_add_one, h, List.append_assoc]
  rfl
theorem got_put {K : Type} [DecidableEq K] (m : List (K × Int)) (x : K) (v : Int) : (getK (putK m x v) x).getD 0 = v := by
  rw [getK_putK, if_pos rfl]
  rfl
end Go.Proofs.YtenigkngmdofiaaGreat
namespace Go.Proofs.YtenigkngmdofiaaGreat
open Go.RowKit

theorem great_at {qs : List (Knd × KAt)} {A : Option Addr} {cap : Nat} {B : Option Addr} {n cb : Nat} {r : Bool} (h : greatB (qs.map (·.1)) n = r) {w : World} (hk : Kinds w A cap qs) (hn : n ≤ maxLen) :
    Calls Tryz.prog 14 #[.slice A qs.length cap, .agg #[.slice B n cb]] w fun e w' => e = .returned (.bool r) ∧ Ext w w' := by
  subst h
  exact great_c _ _ _ _ _ _ _ hk hn
structure Ap18 (W0 : World) (M X g : Nat) (cx cy cz v : Int) (m : List (Pt × Int)) (Lc : List Pt) (L : Nat → Bool) (us : Nat → Value) (w : World) : Prop where
  x : Ext W0 w
  g0 : Blk w X 50 #[.int .i64 cx, .int .i64 cy, .int .i64 cz]
  g1 : L 4 = false → MapOf encPt evI w M m
  g2 : L 4 = true → us 4 = .tuple #[.int .i64 v, .int .i64 (bornOf (us 4))]
  g3 : L 4 = true → L 6 = false → EntOf encPt evI w M (putK m ⟨cx, cy, cz⟩ v) ⟨cx, cy, cz⟩ (bornOf (us 4))
  g4 : L 6 = true → MapOf encPt evI w M (putK m ⟨cx, cy, cz⟩ (v + 1))
  g5 : RowX w g 50 (Lc.map Pt.cs)
  f0 : L 0 = true → us 0 = .map (some M)
  f1 : L 1 = true → us 1 = .agg #[.int .i64 cx, .int .i64 cy, .int .i64 cz]
  f2 : L 2 = true → us 2 = .int .i64 v
  f3 : L 3 = true → us 3 = .int .i64 (v + 1)
  f5 : L 5 = true → us 5 = .int .i64 (bornOf (us 4))
structure Ap31 (W0 : World) (M X o1 o2 : Nat) (xa xb xk xo xs : Int) (ea ek : Nat) (v : Int) (m : List ((Nat × Nat) × Int)) (L : Nat → Bool) (us : Nat → Value) (w : World) : Prop where
  x : Ext W0 w
  g0 : Blk w X 76 #[.int .i64 xa, .int .i64 xb, .int .i64 xk, .int .i64 xo, .int .u8 xs]
  g1 : L 8 = false → MapOf encE evI w M m
  g2 : L 8 = true → us 8 = .tuple #[.int .i64 v, .int .i64 (bornOf (us 8))]
  g3 : L 8 = true → L 10 = false → EntOf encE evI w M (putK m (ea, ek) v) (ea, ek) (bornOf (us 8))
  g4 : L 10 = true → MapOf encE evI w M (putK m (ea, ek) (v + 1))
  f0 : L 0 = true → us 0 = .map (some M)
  f1 : L 1 = true → us 1 = .pointer (some ⟨X, o1, none⟩)
  f2 : L 2 = true → us 2 = .int .i64 ea
  f3 : L 3 = true → us 3 = .pointer (some ⟨X, o2, none⟩)
  f4 : L 4 = true → us 4 = .int .i64 ek
  f5 : L 5 = true → us 5 = .agg #[.int .i64 ea, .int .i64 ek]
  f6 : L 6 = true → us 6 = .int .i64 v
  f7 : L 7 = true → us 7 = .int .i64 (v + 1)
  f9 : L 9 = true → us 9 = .int .i64 (bornOf (us 8))
set_option maxRecDepth 100000 in
set_option maxHeartbeats 16000000 in
theorem apart_walk (qs : List (Knd × KAt)) (QA : Option Addr) (qc : Nat) (bs : List Brk) (B : Option Addr) (cb : Nat) (w : World) (hk : Kinds w QA qc qs) (hb : Bricks w B cb bs) (_ : B = none → cb = 0) :
    Calls Tryz.prog 7 #[.slice QA qs.length qc, .agg #[.slice B bs.length cb]] w fun e w' => e = .returned (.bool true) ∧ Ext w w' := by
  have hmm := @run_makeMap Tryz.prog
  obtain ⟨W1, hW1, E1, B1, hz1⟩ := mk_ w #[.slice B bs.length cb] 25
  have b1 := B1.cell
  clear hz1
  obtain ⟨gr, hg⟩ : ∃ r, greatB (qs.map (·.1)) bs.length = r := ⟨_, rfl⟩
  have GR := Lib.hid (fun W (E : Ext w W) => great_at (B := B) (cb := cb) hg (hk.ext E) hb.len)
  have CK := Lib.hid (fun W (E : Ext w W) => checkM_c qs QA qc bs B cb W (hk.ext E) (hb.ext E))
  have LA := Lib.hid (fun W (E : Ext w W) => linksA_c qs QA qc bs B cb W (hk.ext E) (hb.ext E))
  obtain ⟨ce, hce⟩ : ∃ c, checkErr (qs.map (·.1)) bs = c := ⟨_, rfl⟩
  rw [hce] at CK LA
  go_enter Tryz.func7, Tryz.ntmps7
  go_wp2_with fail
  refine (alive_c _).mono ?_
  rintro e W2 ⟨rfl, E2⟩
  have b2 := (B1.ext E2).cell
  clear b1 hW1
  go_wp2_with fail
  refine (GR.out _ (E1.trans E2)).mono ?_
  rintro e W3 ⟨rfl, E3⟩
  have E := (E1.trans E2).trans E3
  have BM := (B1.ext E2).ext E3
  clear b2 E1 E2 E3 B1 GR
  have b1 := BM.cell
  cases gr
  rotate_left
  · clear hg hk hb hce
    go_wp2_with fail
    go_ret
    exact ⟨rfl, E⟩
  go_wp2_with fail
  refine (CK.out _ E).mono ?_
  rintro e W4 ⟨rfl, E4⟩
  replace E := E.trans E4
  replace BM := BM.ext E4
  clear b1 E4 CK hg
  have b1 := BM.cell
  by_cases hc : ce = 0 ∨ ce = 12
  rotate_left
  · have h1 : (ce != 0) = true := by simp; omega
    have h2 : (ce != 12) = true := by simp; omega
    clear hk hb hce hc
    go_wp2_with fail
    go_ret
    exact ⟨rfl, E⟩
  have h0 := apart_model hce hc
  obtain ⟨e0, e1, e2⟩ := modelErr_zero h0
  have hf := mfine_of hk hb.2 h0
  have hbn := hf.n
  have hqn := hk.len
  unfold maxLen at hqn
  have PL := Lib.hid (fun (b : Brk) (hm : b ∈ bs) => hf.b b hm)
  have ND : ∀ i, i < bs.length → (bcells (qs.map (·.1)) (brkAt bs i)).Nodup := fun i hi => by
    rw [brkAt_eq (List.getElem?_eq_getElem hi)]
    exact bcells_nodup hk hb.2 h0 (List.getElem_mem hi)
  have Hov := Lib.hid (flatC_over ND)
  have HFl := Lib.hid (fun (j : Nat) (hj : j ≤ bs.length) => flatC_len (ks := qs.map (·.1)) hj (fun i hi => by
    obtain ⟨ii, tn, kk, p, a1, a2, a3, a4, a5, -⟩ := hf.b _ (List.getElem_mem hi)
    rw [brkAt_eq (List.getElem?_eq_getElem hi), bcells_is a1 a2 a4, sortP_len, placeP_len]
    exact a5.len))
  have HAs := Lib.hid (fun (b : Brk) (hm : b ∈ bs) => asked_one e2 hm)
  have HKi := Lib.hid (fun (i : Nat) (hi : i < qs.length) => (hk.ext E).at_ hi)
  have PLc := Lib.hid (fun (W : World) (E' : Ext W4 W) => Cells_ok qs QA qc W (hk.ext (E.trans E')))
  have HFit := Lib.hid (fun (h : ce = 0) => fit_of hk hb.2 (hce.trans h))
  obtain ⟨nq, hnq⟩ : ∃ m, qs.length = m := ⟨_, rfl⟩
  obtain ⟨nb, hnb⟩ : ∃ m, bs.length = m := ⟨_, rfl⟩
  rw [hnq] at LA HKi PLc hqn ⊢
  have HQ := Lib.hid hnq
  rw [hnb] at LA hbn HFl Hov BM b1 ⊢
  have Hnb := Lib.hid hnb
  have HB := Lib.hid (hb.ext E)
  obtain ⟨ks, hks⟩ : ∃ ks, qs.map (·.1) = ks := ⟨_, rfl⟩
  have Hks := Lib.hid hks
  rw [hks] at ND Hov HFl HAs HFit LA
  have HE := Lib.hid E
  have Hce := Lib.hid (show checkErr ks bs = ce from hks ▸ hce)
  have H0 := Lib.hid (show modelErr ks bs = 0 from hks ▸ h0)
  clear hnq hnb hks hf hk hb e0 e1 e2 h0 hce ND E
  rcases hc with rfl | rfl
  · have hov : decide (overL ks bs nb = []) = true := by
      have := check_over Hce.out
      rw [Hnb.out] at this
      simp [this]
    have hll : linkR ks bs = linkL ks bs := if_pos Hce.out
    rw [hll] at LA
    obtain ⟨Ls, hLL⟩ : ∃ l, linkL ks bs = l := ⟨_, rfl⟩
    have HEn := Lib.hid (show (endsL Ls).Nodup from hLL ▸ endsL_nodup (HFit.out rfl))
    have hnl1 : Ls.length ≤ 1920 := hLL ▸ linkL_len (HFit.out rfl)
    rw [hLL] at LA
    obtain ⟨nl, hnl⟩ : ∃ n, Ls.length = n := ⟨_, rfl⟩
    rw [hnl] at hnl1
    have Hnl := Lib.hid hnl
    clear hnl hLL hll
    obtain ⟨W5, hW5, E5, M5, hz5⟩ := mapbox_ encPt evI W4
    obtain ⟨M, hM⟩ : ∃ M, W4.heap.size = M := ⟨_, rfl⟩
    rw [hM] at M5 hz5
    have HM := Lib.hid hM
    have b5 := (BM.ext E5).cell
    clear b1
    go_wp2_with fail
    clear hW5 hM b5
    go_loopw [8, 41] (fun tw ii wr => ∃ (j : Nat) (m : List (Pt × Int)), j ≤ nb ∧ ii = .int .i64 j ∧ tw = .bool (twiceB (flatC ks bs j)) ∧ Ext W4 wr ∧ MapOf encPt evI wr M m ∧ Tally m (flatC ks bs j)) (fun _ ii _ => nb - (intOf ii).toNat)
    case atStart => exact ⟨0, [], by omega, rfl, by rw [flatC_zero, twiceB_nil], E5, M5, Tally.nil⟩
    case round =>
      clear E5 M5 hz5
      obtain ⟨j, m, hj, rfl, rfl, Er, MA, TA⟩ := hrel
      have b1 := (BM.ext Er).cell
      by_cases hlt : j < nb
      · obtain ⟨g, off, ⟨kd, ⟨x, y, z⟩, t, cl⟩, rfl, hq, hby, hg, d0, d1, d2, d3, d4, d5⟩ := (HB.out.ext Er).at_ (k := j) (by rw [Hnb.out]; exact hlt)
        obtain ⟨i, tn, kk, p, e1, e2, htn, hqi, hkf, hpt, -⟩ := PL.out _ (List.mem_of_getElem? hq)
        have has := HAs.out _ (List.mem_of_getElem? hq)
        simp only at e1 e2 hpt d0 d1 d2 d3 d4 d5
        subst e1 e2
        have Hbc := Lib.hid (show bcells ks (brkAt bs j) = sortP (placeP kk.cells tn ⟨x, y, z⟩) by rw [brkAt_eq hq, ← Hks.out]; exact bcells_is rfl rfl hqi)
        obtain ⟨qb, qoff, k', p', hQ, hqi', hka, hqb, q0, q1, q2⟩ := HKi.out i (by have := (List.getElem?_eq_some_iff.1 hqi).1; have := HQ.out; omega)
        obtain ⟨rfl, rfl⟩ : k' = kk ∧ p' = p := by rw [hqi] at hqi'; cases hqi'; exact ⟨rfl, rfl⟩
        subst hQ
        obtain ⟨Lc, hLc⟩ : ∃ L, sortP (placeP k'.cells tn ⟨x, y, z⟩) = L := ⟨_, rfl⟩
        obtain ⟨n, hn⟩ : ∃ n, k'.cells.length = n := ⟨_, rfl⟩
        have Hln := Lib.hid (show Lc.length = n by rw [← hLc, sortP_len, placeP_len, hn])
        have Hn40 := Lib.hid (show n ≤ 24 by have := hkf.len; omega)
        have CL := Lib.hid (fun W (E' : Ext W4 W) => PLc.out W E' i k' p' hqi hkf x y z cl tn hby (by rw [Hks.out]; exact has) htn (hpt.ok (by omega)))
        rw [hLc, hn] at CL
        rw [hn] at q0
        rw [hLc] at Hbc
        obtain ⟨WB, hWB, EB, BB, hzB⟩ := mk_ wr #[.int .i64 i, .int .i64 x, .int .i64 y, .int .i64 z, .int .u8 tn, .int .u8 cl] 63
        have EX := Er.trans EB
        have MB := MA.ext EB
        obtain ⟨G, hG⟩ : ∃ G, wr.heap.size = G := ⟨_, rfl⟩
        rw [hG] at BB
        have HG := Lib.hid hG
        have bb := BB.cell
        have j0 : (0 : Int) ≤ j := by omega
        have j1 : (j : Int) < nb := by omega
        have i0 : (0 : Int) ≤ i := by omega
        have i1 : (i : Int) < nq := by have := (List.getElem?_eq_some_iff.1 hqi).1; have := HQ.out; omega
        have Hq := Lib.hid q0
        clear hqi' hq hqi hkf htn hpt hka hn hLc hzB hG EB MA has q0 q1 q2
        go_upto_region 12 with (fail)
        rw [HG.out]
        clear b1 d0 d1 d2 d3 d4 d5 hWB
        go_wp2_with fail
        clear bb
        refine (CL.out _ EX).mono ?_
        rintro e WC ⟨gc, cap, hgc, rfl, hcn, hcm, RC, EC⟩
        have ErC := EX.trans EC
        have MC := MB.ext EC
        have bb := (BB.ext EC).cell
        have q0 := ErC.cell Hq.out
        have hne : ((n : Int) != (n : Int)) = false := by simp
        have Hcn := Lib.hid hcn
        have Hcm := Lib.hid hcm
        clear EX EC MB Er BB
        go_wp2_with fail
        clear bb q0
        go_loopw [8, 67] (fun tw ii wr' => ∃ (q : Nat) (m : List (Pt × Int)), q ≤ n ∧ ii = .int .i64 q ∧ tw = .bool (twiceB (flatC ks bs j ++ Lc.take q)) ∧ Ext W4 wr' ∧ RowX wr' gc 50 (Lc.map Pt.cs) ∧ MapOf encPt evI wr' M m ∧ Tally m (flatC ks bs j ++ Lc.take q)) (fun _ ii _ => n - (intOf ii).toNat)
        case atStart => exact ⟨0, m, by omega, rfl, by rw [List.take_zero, List.append_nil], ErC, RC, MC, by rw [List.take_zero, List.append_nil]; exact TA⟩
        case round =>
          clear ErC RC MC TA
          obtain ⟨q, m, hqn, rfl, rfl, Er, RC, MA, TA⟩ := hrel
          by_cases hqt : q < n
          · obtain ⟨⟨x1, y1, z1⟩, hc⟩ : ∃ c, Lc[q]? = some c := ⟨_, List.getElem?_eq_getElem (by have := Hln.out; omega)⟩
            have hr : (Lc.map Pt.cs)[q]? = some (Pt.cs ⟨x1, y1, z1⟩) := by rw [List.getElem?_map, hc]; rfl
            have hw3 : ∀ r ∈ Lc.map Pt.cs, r.length = 3 := fun r hr => by obtain ⟨p, -, rfl⟩ := List.mem_map.1 hr; rfl
            have c0 := RC.cell hw3 (j := 0) hr rfl
            have c1 := RC.cell hw3 (j := 1) hr rfl
            have c2 := RC.cell hw3 (j := 2) hr rfl
            simp only [Nat.add_zero] at c0
            have Hst := Lib.hid (take_snoc hc (flatC ks bs j))
            have Htw := Lib.hid (twiceB_snoc TA ⟨x1, y1, z1⟩)
            have Hle := TA.le ⟨x1, y1, z1⟩
            have hll : (flatC ks bs j ++ Lc.take q).length ≤ 1000000 := by
              have h1 := HFl.out j (by omega)
              have h2 := Hln.out
              have h3 := Hn40.out
              rw [List.length_append, List.length_take]
              omega
            have Tn := TA.put ⟨x1, y1, z1⟩
            obtain ⟨v, hv⟩ : ∃ v, (getK m ⟨x1, y1, z1⟩).getD 0 = v := ⟨_, rfl⟩
            rw [hv] at Hle Tn Htw
            have Hv := Lib.hid hv
            obtain ⟨hv0, hv1⟩ := Hle
            have hv2 : v ≤ 1000000 := by omega
            obtain ⟨tv, htv⟩ : ∃ b, twiceB (flatC ks bs j ++ Lc.take q) = b := ⟨_, rfl⟩
            rw [htv] at Htw ⊢
            obtain ⟨WD, hWD, ED, BD, hzD⟩ := mk_ wr #[.int .i64 x1, .int .i64 y1, .int .i64 z1] 50
            obtain ⟨X, hX⟩ : ∃ X, wr.heap.size = X := ⟨_, rfl⟩
            rw [hX] at BD
            have HX := Lib.hid hX
            have ErD := Er.trans ED
            have MD := MA.ext ED
            have RD := RC.ext ED
            have q0 : (0 : Int) ≤ q := by omega
            have q1 : (q : Int) < n := by omega
            have hMW : W4.heap.size ≤ M := by have := HM.out; omega
            have HMW := Lib.hid hMW
            have Hw1 := Lib.hid (show IntKind.i64.wrap (v + 1) = v + 1 from IntWalk.i64_in _ (by omega))
            have HTn := Lib.hid Tn
            clear hc hr hw3 hv hv1 hll hzD hX Er MA RC TA ED htv hMW Tn
            go_upto_region 18 with (fail)
            rw [HX.out]
            clear c0 c1 c2 hWD
            refine wp_region_by (Ap18 W4 M X gc x1 y1 z1 v m Lc) (by kernel_rfl) (by kernel_rfl) (by kernel_rfl) (fun us => ⟨ErD.drew, BD.drew, (fun _ => MD.ext (Ext.refl _).drew), (nofun), (nofun), (nofun), RD.drew, (nofun), (nofun), (nofun), (nofun), (nofun)⟩) ⟨?_, ?_, ?_, ?_, ?_, ?_, ?_, trivial⟩ ?_
            all_goals clear ErD BD MD RD
            · intro L us wx K a ha hp hd hun hI hK
              have HX := hI.x
              clear hp HX
              replace hd := Lib.hid hd
              simp only [putAll, Act.put, List.setIfInBounds_toArray, List.set_cons_succ, List.set_cons_zero, Nat.reduceAdd] at ha
              subst ha
              simp only [Act.put, List.setIfInBounds_toArray, List.set_cons_succ, List.set_cons_zero] at hK
              go_simp
              refine hK _ _ ?_
              first
              | (refine ⟨hI.x, hI.g0, hI.g1, hI.g2, hI.g3, hI.g4, hI.g5, ?_, hI.f1, hI.f2, hI.f3, hI.f5⟩ <;> (first | exact fun _ => rfl | skip))
              | (refine ⟨?_, ?_, ?_, ?_, ?_, ?_, ?_, ?_, ?_, ?_, ?_, ?_⟩ <;> (first | exact hI.x | exact hI.g0 | exact hI.g1 | exact hI.g2 | exact hI.g3 | exact hI.g4 | exact hI.g5 | exact hI.f0 | exact hI.f1 | exact hI.f2 | exact hI.f3 | exact hI.f5 | exact fun _ => rfl | skip))
            · intro L us wx K a ha hp hd hun hI hK
              have HX := hI.x
              have bb := hI.g0.cell
              clear hp HX
              replace hd := Lib.hid hd
              simp only [putAll, Act.put, List.setIfInBounds_toArray, List.set_cons_succ, List.set_cons_zero, Nat.reduceAdd] at ha
              subst ha
              simp only [Act.put, List.setIfInBounds_toArray, List.set_cons_succ, List.set_cons_zero] at hK
              go_simp
              refine hK _ _ ?_
              first
              | (refine ⟨hI.x, hI.g0, hI.g1, hI.g2, hI.g3, hI.g4, hI.g5, hI.f0, ?_, hI.f2, hI.f3, hI.f5⟩ <;> (first | exact fun _ => rfl | skip))
              | (refine ⟨?_, ?_, ?_, ?_, ?_, ?_, ?_, ?_, ?_, ?_, ?_, ?_⟩ <;> (first | exact hI.x | exact hI.g0 | exact hI.g1 | exact hI.g2 | exact hI.g3 | exact hI.g4 | exact hI.g5 | exact hI.f0 | exact hI.f1 | exact hI.f2 | exact hI.f3 | exact hI.f5 | exact fun _ => rfl | skip))
            · intro L us wx K a ha hp hd hun hI hK
              have HX := hI.x
              have u0 := hI.f0 (hp 0 (by kernel_rfl))
              have u1 := hI.f1 (hp 1 (by kernel_rfl))
              have h6 : L 6 = false := Bool.eq_false_iff.2 fun hl => absurd (hd 3 2 (hd 6 3 hl (by kernel_rfl)) (by kernel_rfl)) (by rw [hun]; decide)
              have lk : (Instr.lookup 71 (.map (some M)) (.agg #[.int .i64 x1, .int .i64 y1, .int .i64 z1]) false).run Tryz.prog wx = .ok (.int .i64 v) wx := by
                cases h4 : L 4
                · have := look_at (hI.g1 h4) x1 y1 z1
                  rwa [Hv.out] at this
                · have := look_at (hI.g3 h4 h6).asMap x1 y1 z1
                  rwa [got_put] at this
              clear hp HX
              replace hd := Lib.hid hd
              simp only [putAll, Act.put, List.setIfInBounds_toArray, List.set_cons_succ, List.set_cons_zero, Nat.reduceAdd, u0, u1] at ha
              subst ha
              simp only [Act.put, List.setIfInBounds_toArray, List.set_cons_succ, List.set_cons_zero] at hK
              go_simp
              refine hK _ _ ?_
              first
              | (refine ⟨hI.x, hI.g0, hI.g1, hI.g2, hI.g3, hI.g4, hI.g5, hI.f0, hI.f1, ?_, hI.f3, hI.f5⟩ <;> (first | exact fun _ => rfl | skip))
              | (refine ⟨?_, ?_, ?_, ?_, ?_, ?_, ?_, ?_, ?_, ?_, ?_, ?_⟩ <;> (first | exact hI.x | exact hI.g0 | exact hI.g1 | exact hI.g2 | exact hI.g3 | exact hI.g4 | exact hI.g5 | exact hI.f0 | exact hI.f1 | exact hI.f2 | exact hI.f3 | exact hI.f5 | exact fun _ => rfl | skip))
            · intro L us wx K a ha hp hd hun hI hK
              have HX := hI.x
              have u2 := hI.f2 (hp 2 (by kernel_rfl))
              clear hp HX
              replace hd := Lib.hid hd
              simp only [putAll, Act.put, List.setIfInBounds_toArray, List.set_cons_succ, List.set_cons_zero, Nat.reduceAdd, u2] at ha
              subst ha
              simp only [Act.put, List.setIfInBounds_toArray, List.set_cons_succ, List.set_cons_zero] at hK
              go_simp
              refine hK _ _ ?_
              first
              | (refine ⟨hI.x, hI.g0, hI.g1, hI.g2, hI.g3, hI.g4, hI.g5, hI.f0, hI.f1, hI.f2, ?_, hI.f5⟩ <;> (first | exact fun _ => rfl | skip))
              | (refine ⟨?_, ?_, ?_, ?_, ?_, ?_, ?_, ?_, ?_, ?_, ?_, ?_⟩ <;> (first | exact hI.x | exact hI.g0 | exact hI.g1 | exact hI.g2 | exact hI.g3 | exact hI.g4 | exact hI.g5 | exact hI.f0 | exact hI.f1 | exact hI.f2 | exact hI.f3 | exact hI.f5 | exact fun _ => rfl | skip))
              exact fun _ => congrArg (Value.int .i64) Hw1.out
            · intro L us wx K a ha hp hd hun hI hK
              have u0 := hI.f0 (hp 0 (by kernel_rfl))
              have u1 := hI.f1 (hp 1 (by kernel_rfl))
              have h6 : L 6 = false := Bool.eq_false_iff.2 fun hl => absurd (hd 6 4 hl (by kernel_rfl)) (by rw [hun]; decide)
              have h5 : L 5 = false := Bool.eq_false_iff.2 fun hl => absurd (hd 5 4 hl (by kernel_rfl)) (by rw [hun]; decide)
              have hM := hI.g1 hun
              obtain ⟨w', born, hrun, r1, r2, r3⟩ := entry_run ptKey Tryz.underlying71 (z := (0 : Int)) (w := wx) (by kernel_rfl) hM ⟨x1, y1, z1⟩
              rw [Hv.out] at hrun r1
              have hrun' : (Instr.mapEntry 71 (.map (some M)) (.agg #[.int .i64 x1, .int .i64 y1, .int .i64 z1])).run Tryz.prog wx = .ok (.tuple #[.int .i64 v, .int .i64 (born : Nat)]) w' := hrun
              clear hrun
              replace hd := Lib.hid hd
              simp only [putAll, Act.put, List.setIfInBounds_toArray, List.set_cons_succ, List.set_cons_zero, Nat.reduceAdd, u0, u1] at ha
              subst ha
              simp only [Act.put, List.setIfInBounds_toArray, List.set_cons_succ, List.set_cons_zero] at hK
              go_simp
              exact hK _ _ ⟨hI.x.grown r2 (fun r hr => by cases hr; exact HMW.out), hI.g0.grown r2 (fun e => hM.blk_ne hI.g0 (by cases e; rfl)), (fun h => nomatch (show true = false from h)), (fun _ => rfl), (fun _ _ => r1), (fun h => absurd (show L 6 = true from h) (by rw [h6]; decide)), hI.g5.grown r2 (hI.g5.map_ne hM), hI.f0, hI.f1, hI.f2, hI.f3, (fun h => absurd (show L 5 = true from h) (by rw [h5]; decide))⟩
            · intro L us wx K a ha hp hd hun hI hK
              have u4 := hI.g2 (hp 4 (by kernel_rfl))
              obtain ⟨born, hb4⟩ : ∃ b, bornOf (us 4) = b := ⟨_, rfl⟩
              rw [hb4] at u4
              replace hd := Lib.hid hd
              simp only [putAll, Act.put, List.setIfInBounds_toArray, List.set_cons_succ, List.set_cons_zero, Nat.reduceAdd] at ha
              rw [u4] at ha
              subst ha
              clear u4
              simp only [Act.put, List.setIfInBounds_toArray, List.set_cons_succ, List.set_cons_zero] at hK
              go_simp
              exact hK _ _ ⟨hI.x, hI.g0, hI.g1, hI.g2, hI.g3, hI.g4, hI.g5, hI.f0, hI.f1, hI.f2, hI.f3, (fun _ => congrArg (fun n : Nat => Value.int .i64 n) hb4.symm)⟩
            · intro L us wx K a ha hp hd hun hI hK
              have u0 := hI.f0 (hp 0 (by kernel_rfl))
              have u3 := hI.f3 (hp 3 (by kernel_rfl))
              have u5 := hI.f5 (hp 5 (by kernel_rfl))
              have h4 := hp 4 (by kernel_rfl)
              have hM := hI.g3 h4 hun
              obtain ⟨w', hrun, r1, r2, r3⟩ := store_run (P := Tryz.prog) hM 71 (v + 1)
              rw [putK_put] at r1
              have hrun' : (Instr.entryStore 71 (.map (some M)) (.int .i64 (bornOf (us 4) : Nat)) (.int .i64 (v + 1))).run Tryz.prog wx = .ok () w' := hrun
              clear hrun
              replace hd := Lib.hid hd
              simp only [putAll, Act.put, List.setIfInBounds_toArray, List.set_cons_succ, List.set_cons_zero, Nat.reduceAdd, u0, u3, u5] at ha
              subst ha
              simp only [Act.put] at hK
              go_simp
              exact hK undef _ ⟨hI.x.grown r2 (fun r hr => by cases hr; exact HMW.out), hI.g0.grown r2 (fun e => hM.asMap.blk_ne hI.g0 (by cases e; rfl)), (fun h => absurd (show L 4 = false from h) (by rw [h4]; decide)), hI.g2, (fun _ h => nomatch (show true = false from h)), (fun _ => r1), hI.g5.grown r2 (hI.g5.map_ne hM.asMap), hI.f0, hI.f1, hI.f2, hI.f3, hI.f5⟩
            intro L us wx hall hI
            have M' := hI.g4 (hall 6 (by simp))
            have EX := hI.x
            have RX := hI.g5
            have bx := hI.g0.cell
            simp only [putAll, Act.put, List.setIfInBounds_toArray, List.set_cons_succ, List.set_cons_zero, Nat.reduceAdd]
            clear hall hI
            have lk := look_at M' x1 y1 z1
            rw [got_put] at lk
            have hn4 := Hn40.out
            have gm : decide (v + 1 > 1) = decide (1 < v + 1) := rfl
            obtain ⟨dv, hdv⟩ : ∃ d, decide (1 < v + 1) = d := ⟨_, rfl⟩
            rw [hdv] at gm Htw
            cases tv
            · go_wp2_with fail
              go_roundw
              case rel => exact ⟨q + 1, _, by omega, by go_num, by rw [Hst.out, Htw.out]; simp [← hdv], EX, RX, M', by rw [Hst.out]; exact HTn.out⟩
              case measure => simp only [intOf]; omega
            · go_wp2_with fail
              go_roundw
              case rel => exact ⟨q + 1, _, by omega, by go_num, by rw [Hst.out, Htw.out]; rfl, EX, RX, M', by rw [Hst.out]; exact HTn.out⟩
              case measure => simp only [intOf]; omega
          · obtain rfl : q = n := by omega
            have hfull : flatC ks bs j ++ Lc.take q = flatC ks bs (j + 1) := by rw [flatC_succ, Hbc.out, ← Hln.out, List.take_length]
            rw [hfull] at TA ⊢
            go_wp2_with fail
            go_roundw
            case rel => exact ⟨j + 1, m, by omega, by go_num, rfl, Er, MA, TA⟩
            case measure => simp only [intOf]; omega
      · obtain rfl : j = nb := by omega
        rw [Hov.out]
        rw [hov]
        clear MA TA
        go_wp2_with fail
        refine (LA.out _ (HE.out.trans Er)).mono ?_
        rintro e W6 ⟨A6, lc, rfl, hL, E6⟩
        have HL := Lib.hid hL
        have E46 := Lib.hid (HE.out.trans (Er.trans E6))
        clear b1 Er E6 hL
        obtain ⟨W7, hW7, E7, M7, hz7⟩ := mapbox_ encE evI W6
        obtain ⟨N, hN⟩ : ∃ N, W6.heap.size = N := ⟨_, rfl⟩
        rw [hN] at M7 hz7
        have hNW : W6.heap.size ≤ N := by omega
        have HNW := Lib.hid hNW
        clear hNW
        go_wp2_with fail
        rw [Hnl.out]
        clear hW7 hN hz7
        go_loopw [107] (fun ii wr' => ∃ (q : Nat) (m : List ((Nat × Nat) × Int)), q ≤ nl ∧ ii = .int .i64 q ∧ Ext W6 wr' ∧ MapOf encE evI wr' N m ∧ Tally m (endsL (Ls.take q))) (fun ii _ => nl - (intOf ii).toNat)
        case atStart => exact ⟨0, [], by omega, rfl, E7, M7, Tally.nil⟩
        case round =>
          clear E7 M7
          obtain ⟨q, m, hq, rfl, Er, MA, TA⟩ := hrel
          have hll : (endsL (Ls.take q)).length ≤ 10000 := by
            rw [endsL_len, List.length_take]
            have := Hnl.out
            omega
          by_cases hqt : q < nl
          · obtain ⟨lg, loff, hLA⟩ : ∃ g off, A6 = some ⟨g, off, none⟩ := by
              obtain ⟨g, off, hA, -, -⟩ := SliceIs.cells HL.out (by rw [Hnl.out]; omega)
              exact ⟨g, off, hA⟩
            subst hLA
            have hlc : nl ≤ lc := by have := HL.out.le; rw [Hnl.out] at this; exact this
            obtain ⟨c0, c1, c2, c3, c4⟩ := links_cell (HL.out.ext Er) (k := q) (by rw [Hnl.out]; exact hqt) rfl
            have hget := lnkAt_get (l := Ls) (k := q) (by rw [Hnl.out]; exact hqt)
            have Het := Lib.hid (endsL_take hget)
            obtain ⟨⟨xa, xb, xk, xo, xs⟩, hx⟩ : ∃ x, lnkAt Ls q = x := ⟨_, rfl⟩
            rw [hx] at c0 c1 c2 c3 c4 Het
            simp only at c0 c1 c2 c3 c4 Het
            obtain ⟨W8, hW8, E8, B8, -⟩ := mk_ wr #[.int .i64 xa, .int .i64 xb, .int .i64 xk, .int .i64 xo, .int .u8 xs] 76
            obtain ⟨X, hX⟩ : ∃ X, wr.heap.size = X := ⟨_, rfl⟩
            rw [hX] at B8
            have q0 : (0 : Int) ≤ q := by omega
            have q1 : (q : Int) < nl := by omega
            have q2 : (q : Int) < lc := by omega
            have E68 := Er.trans E8
            have M8 := MA.ext E8
            have hl2 : (endsL (Ls.take q) ++ [(xa, xk)]).length ≤ 10001 := by
              rw [List.length_append]
              simp only [List.length_singleton]
              omega
            clear hx hget Er MA E8
            obtain ⟨v, hv⟩ : ∃ v, (getK m (xa, xk)).getD 0 = v := ⟨_, rfl⟩
            have Hv := Lib.hid hv
            have hle := TA.le (xa, xk)
            have TB := TA.put (xa, xk)
            rw [hv] at hle TB
            have hw1 : IntKind.i64.wrap (v + 1) = v + 1 := IntWalk.i64_in _ (by omega)
            have Hw1 := Lib.hid hw1
            clear hv hle hw1
            go_upto_region 31 with (fail)
            refine wp_region_by (Ap31 W6 N X 0 2 xa xb xk xo xs xa xk v m) (by kernel_rfl) (by kernel_rfl) (by kernel_rfl) (fun us => ⟨E68.drew, B8.drew, (fun _ => M8.ext (Ext.refl _).drew), (nofun), (nofun), (nofun), (nofun), (nofun), (nofun), (nofun), (nofun), (nofun), (nofun), (nofun), (nofun)⟩) ⟨?_, ?_, ?_, ?_, ?_, ?_, ?_, ?_, ?_, ?_, ?_, trivial⟩ ?_
            all_goals clear E68 B8 M8
            · intro L us wx K a ha hp hd hun hI hK
              have HX := hI.x
              clear hp HX
              replace hd := Lib.hid hd
              simp only [putAll, Act.put, List.setIfInBounds_toArray, List.set_cons_succ, List.set_cons_zero, Nat.reduceAdd] at ha
              subst ha
              simp only [Act.put, List.setIfInBounds_toArray, List.set_cons_succ, List.set_cons_zero] at hK
              go_simp
              refine hK _ _ ?_
              first
              | (refine ⟨hI.x, hI.g0, hI.g1, hI.g2, hI.g3, hI.g4, ?_, hI.f1, hI.f2, hI.f3, hI.f4, hI.f5, hI.f6, hI.f7, hI.f9⟩ <;> (first | exact fun _ => rfl | skip))
              | (refine ⟨?_, ?_, ?_, ?_, ?_, ?_, ?_, ?_, ?_, ?_, ?_, ?_, ?_, ?_, ?_⟩ <;> (first | exact hI.x | exact hI.g0 | exact hI.g1 | exact hI.g2 | exact hI.g3 | exact hI.g4 | exact hI.f0 | exact hI.f1 | exact hI.f2 | exact hI.f3 | exact hI.f4 | exact hI.f5 | exact hI.f6 | exact hI.f7 | exact hI.f9 | exact fun _ => rfl | skip))
            · intro L us wx K a ha hp hd hun hI hK
              have HX := hI.x
              clear hp HX
              replace hd := Lib.hid hd
              simp only [putAll, Act.put, List.setIfInBounds_toArray, List.set_cons_succ, List.set_cons_zero, Nat.reduceAdd] at ha
              subst ha
              simp only [Act.put, List.setIfInBounds_toArray, List.set_cons_succ, List.set_cons_zero] at hK
              go_simp
              refine hK _ _ ?_
              first
              | (refine ⟨hI.x, hI.g0, hI.g1, hI.g2, hI.g3, hI.g4, hI.f0, ?_, hI.f2, hI.f3, hI.f4, hI.f5, hI.f6, hI.f7, hI.f9⟩ <;> (first | exact fun _ => rfl | skip))
              | (refine ⟨?_, ?_, ?_, ?_, ?_, ?_, ?_, ?_, ?_, ?_, ?_, ?_, ?_, ?_, ?_⟩ <;> (first | exact hI.x | exact hI.g0 | exact hI.g1 | exact hI.g2 | exact hI.g3 | exact hI.g4 | exact hI.f0 | exact hI.f1 | exact hI.f2 | exact hI.f3 | exact hI.f4 | exact hI.f5 | exact hI.f6 | exact hI.f7 | exact hI.f9 | exact fun _ => rfl | skip))
            · intro L us wx K a ha hp hd hun hI hK
              have HX := hI.x
              have u1 := hI.f1 (hp 1 (by kernel_rfl))
              have bb := hI.g0.cell
              clear hp HX
              replace hd := Lib.hid hd
              simp only [putAll, Act.put, List.setIfInBounds_toArray, List.set_cons_succ, List.set_cons_zero, Nat.reduceAdd, u1] at ha
              subst ha
              simp only [Act.put, List.setIfInBounds_toArray, List.set_cons_succ, List.set_cons_zero] at hK
              go_simp
              refine hK _ _ ?_
              first
              | (refine ⟨hI.x, hI.g0, hI.g1, hI.g2, hI.g3, hI.g4, hI.f0, hI.f1, ?_, hI.f3, hI.f4, hI.f5, hI.f6, hI.f7, hI.f9⟩ <;> (first | exact fun _ => rfl | skip))
              | (refine ⟨?_, ?_, ?_, ?_, ?_, ?_, ?_, ?_, ?_, ?_, ?_, ?_, ?_, ?_, ?_⟩ <;> (first | exact hI.x | exact hI.g0 | exact hI.g1 | exact hI.g2 | exact hI.g3 | exact hI.g4 | exact hI.f0 | exact hI.f1 | exact hI.f2 | exact hI.f3 | exact hI.f4 | exact hI.f5 | exact hI.f6 | exact hI.f7 | exact hI.f9 | exact fun _ => rfl | skip))
            · intro L us wx K a ha hp hd hun hI hK
              have HX := hI.x
              clear hp HX
              replace hd := Lib.hid hd
              simp only [putAll, Act.put, List.setIfInBounds_toArray, List.set_cons_succ, List.set_cons_zero, Nat.reduceAdd] at ha
              subst ha
              simp only [Act.put, List.setIfInBounds_toArray, List.set_cons_succ, List.set_cons_zero] at hK
              go_simp
              refine hK _ _ ?_
              first
              | (refine ⟨hI.x, hI.g0, hI.g1, hI.g2, hI.g3, hI.g4, hI.f0, hI.f1, hI.f2, ?_, hI.f4, hI.f5, hI.f6, hI.f7, hI.f9⟩ <;> (first | exact fun _ => rfl | skip))
              | (refine ⟨?_, ?_, ?_, ?_, ?_, ?_, ?_, ?_, ?_, ?_, ?_, ?_, ?_, ?_, ?_⟩ <;> (first | exact hI.x | exact hI.g0 | exact hI.g1 | exact hI.g2 | exact hI.g3 | exact hI.g4 | exact hI.f0 | exact hI.f1 | exact hI.f2 | exact hI.f3 | exact hI.f4 | exact hI.f5 | exact hI.f6 | exact hI.f7 | exact hI.f9 | exact fun _ => rfl | skip))
            · intro L us wx K a ha hp hd hun hI hK
              have HX := hI.x
              have u3 := hI.f3 (hp 3 (by kernel_rfl))
              have bb := hI.g0.cell
              clear hp HX
              replace hd := Lib.hid hd
              simp only [putAll, Act.put, List.setIfInBounds_toArray, List.set_cons_succ, List.set_cons_zero, Nat.reduceAdd, u3] at ha
              subst ha
              simp only [Act.put, List.setIfInBounds_toArray, List.set_cons_succ, List.set_cons_zero] at hK
              go_simp
              refine hK _ _ ?_
              first
              | (refine ⟨hI.x, hI.g0, hI.g1, hI.g2, hI.g3, hI.g4, hI.f0, hI.f1, hI.f2, hI.f3, ?_, hI.f5, hI.f6, hI.f7, hI.f9⟩ <;> (first | exact fun _ => rfl | skip))
              | (refine ⟨?_, ?_, ?_, ?_, ?_, ?_, ?_, ?_, ?_, ?_, ?_, ?_, ?_, ?_, ?_⟩ <;> (first | exact hI.x | exact hI.g0 | exact hI.g1 | exact hI.g2 | exact hI.g3 | exact hI.g4 | exact hI.f0 | exact hI.f1 | exact hI.f2 | exact hI.f3 | exact hI.f4 | exact hI.f5 | exact hI.f6 | exact hI.f7 | exact hI.f9 | exact fun _ => rfl | skip))
            · intro L us wx K a ha hp hd hun hI hK
              have HX := hI.x
              have u2 := hI.f2 (hp 2 (by kernel_rfl))
              have u4 := hI.f4 (hp 4 (by kernel_rfl))
              clear hp HX
              replace hd := Lib.hid hd
              simp only [putAll, Act.put, List.setIfInBounds_toArray, List.set_cons_succ, List.set_cons_zero, Nat.reduceAdd, u2, u4] at ha
              subst ha
              simp only [Act.put, List.setIfInBounds_toArray, List.set_cons_succ, List.set_cons_zero] at hK
              go_simp
              refine hK _ _ ?_
              first
              | (refine ⟨hI.x, hI.g0, hI.g1, hI.g2, hI.g3, hI.g4, hI.f0, hI.f1, hI.f2, hI.f3, hI.f4, ?_, hI.f6, hI.f7, hI.f9⟩ <;> (first | exact fun _ => rfl | skip))
              | (refine ⟨?_, ?_, ?_, ?_, ?_, ?_, ?_, ?_, ?_, ?_, ?_, ?_, ?_, ?_, ?_⟩ <;> (first | exact hI.x | exact hI.g0 | exact hI.g1 | exact hI.g2 | exact hI.g3 | exact hI.g4 | exact hI.f0 | exact hI.f1 | exact hI.f2 | exact hI.f3 | exact hI.f4 | exact hI.f5 | exact hI.f6 | exact hI.f7 | exact hI.f9 | exact fun _ => rfl | skip))
            · intro L us wx K a ha hp hd hun hI hK
              have HX := hI.x
              have u0 := hI.f0 (hp 0 (by kernel_rfl))
              have u5 := hI.f5 (hp 5 (by kernel_rfl))
              have h10 : L 10 = false := Bool.eq_false_iff.2 fun hl => absurd (hd 7 6 (hd 10 7 hl (by kernel_rfl)) (by kernel_rfl)) (by rw [hun]; decide)
              have lk : (Instr.lookup 74 (.map (some N)) (.agg #[.int .i64 xa, .int .i64 xk]) false).run Tryz.prog wx = .ok (.int .i64 v) wx := by
                cases h8 : L 8
                · have := look_met (hI.g1 h8) xa xk
                  rwa [Hv.out] at this
                · have := look_met (hI.g3 h8 h10).asMap xa xk
                  rwa [got_put] at this
              clear hp HX
              replace hd := Lib.hid hd
              simp only [putAll, Act.put, List.setIfInBounds_toArray, List.set_cons_succ, List.set_cons_zero, Nat.reduceAdd, u0, u5] at ha
              subst ha
              simp only [Act.put, List.setIfInBounds_toArray, List.set_cons_succ, List.set_cons_zero] at hK
              go_simp
              refine hK _ _ ?_
              first
              | (refine ⟨hI.x, hI.g0, hI.g1, hI.g2, hI.g3, hI.g4, hI.f0, hI.f1, hI.f2, hI.f3, hI.f4, hI.f5, ?_, hI.f7, hI.f9⟩ <;> (first | exact fun _ => rfl | skip))
              | (refine ⟨?_, ?_, ?_, ?_, ?_, ?_, ?_, ?_, ?_, ?_, ?_, ?_, ?_, ?_, ?_⟩ <;> (first | exact hI.x | exact hI.g0 | exact hI.g1 | exact hI.g2 | exact hI.g3 | exact hI.g4 | exact hI.f0 | exact hI.f1 | exact hI.f2 | exact hI.f3 | exact hI.f4 | exact hI.f5 | exact hI.f6 | exact hI.f7 | exact hI.f9 | exact fun _ => rfl | skip))
            · intro L us wx K a ha hp hd hun hI hK
              have HX := hI.x
              have u6 := hI.f6 (hp 6 (by kernel_rfl))
              clear hp HX
              replace hd := Lib.hid hd
              simp only [putAll, Act.put, List.setIfInBounds_toArray, List.set_cons_succ, List.set_cons_zero, Nat.reduceAdd, u6] at ha
              subst ha
              simp only [Act.put, List.setIfInBounds_toArray, List.set_cons_succ, List.set_cons_zero] at hK
              go_simp
              refine hK _ _ ?_
              first
              | (refine ⟨hI.x, hI.g0, hI.g1, hI.g2, hI.g3, hI.g4, hI.f0, hI.f1, hI.f2, hI.f3, hI.f4, hI.f5, hI.f6, ?_, hI.f9⟩ <;> (first | exact fun _ => rfl | skip))
              | (refine ⟨?_, ?_, ?_, ?_, ?_, ?_, ?_, ?_, ?_, ?_, ?_, ?_, ?_, ?_, ?_⟩ <;> (first | exact hI.x | exact hI.g0 | exact hI.g1 | exact hI.g2 | exact hI.g3 | exact hI.g4 | exact hI.f0 | exact hI.f1 | exact hI.f2 | exact hI.f3 | exact hI.f4 | exact hI.f5 | exact hI.f6 | exact hI.f7 | exact hI.f9 | exact fun _ => rfl | skip))
              exact fun _ => congrArg (Value.int .i64) Hw1.out
            · intro L us wx K a ha hp hd hun hI hK
              have u0 := hI.f0 (hp 0 (by kernel_rfl))
              have u5 := hI.f5 (hp 5 (by kernel_rfl))
              have h10 : L 10 = false := Bool.eq_false_iff.2 fun hl => absurd (hd 10 8 hl (by kernel_rfl)) (by rw [hun]; decide)
              have h9 : L 9 = false := Bool.eq_false_iff.2 fun hl => absurd (hd 9 8 hl (by kernel_rfl)) (by rw [hun]; decide)
              have hM := hI.g1 hun
              obtain ⟨w', born, hrun, r1, r2, r3⟩ := entry_run endKey Tryz.underlying74 (z := (0 : Int)) (w := wx) (by kernel_rfl) hM (xa, xk)
              rw [Hv.out] at hrun r1
              have hrun' : (Instr.mapEntry 74 (.map (some N)) (.agg #[.int .i64 xa, .int .i64 xk])).run Tryz.prog wx = .ok (.tuple #[.int .i64 v, .int .i64 (born : Nat)]) w' := hrun
              clear hrun
              replace hd := Lib.hid hd
              simp only [putAll, Act.put, List.setIfInBounds_toArray, List.set_cons_succ, List.set_cons_zero, Nat.reduceAdd, u0, u5] at ha
              subst ha
              simp only [Act.put, List.setIfInBounds_toArray, List.set_cons_succ, List.set_cons_zero] at hK
              go_simp
              exact hK _ _ ⟨hI.x.grown r2 (fun r hr => by cases hr; exact HNW.out), hI.g0.grown r2 (fun e => hM.blk_ne hI.g0 (by cases e; rfl)), (fun h => nomatch (show true = false from h)), (fun _ => rfl), (fun _ _ => r1), (fun h => absurd (show L 10 = true from h) (by rw [h10]; decide)), hI.f0, hI.f1, hI.f2, hI.f3, hI.f4, hI.f5, hI.f6, hI.f7, (fun h => absurd (show L 9 = true from h) (by rw [h9]; decide))⟩
            · intro L us wx K a ha hp hd hun hI hK
              have u8 := hI.g2 (hp 8 (by kernel_rfl))
              obtain ⟨born, hb8⟩ : ∃ b, bornOf (us 8) = b := ⟨_, rfl⟩
              rw [hb8] at u8
              replace hd := Lib.hid hd
              simp only [putAll, Act.put, List.setIfInBounds_toArray, List.set_cons_succ, List.set_cons_zero, Nat.reduceAdd] at ha
              rw [u8] at ha
              subst ha
              clear u8
              simp only [Act.put, List.setIfInBounds_toArray, List.set_cons_succ, List.set_cons_zero] at hK
              go_simp
              exact hK _ _ ⟨hI.x, hI.g0, hI.g1, hI.g2, hI.g3, hI.g4, hI.f0, hI.f1, hI.f2, hI.f3, hI.f4, hI.f5, hI.f6, hI.f7, (fun _ => congrArg (fun n : Nat => Value.int .i64 n) hb8.symm)⟩
            · intro L us wx K a ha hp hd hun hI hK
              have u0 := hI.f0 (hp 0 (by kernel_rfl))
              have u7 := hI.f7 (hp 7 (by kernel_rfl))
              have u9 := hI.f9 (hp 9 (by kernel_rfl))
              have h8 := hp 8 (by kernel_rfl)
              have hM := hI.g3 h8 hun
              obtain ⟨w', hrun, r1, r2, r3⟩ := store_run (P := Tryz.prog) hM 74 (v + 1)
              rw [putK_put] at r1
              have hrun' : (Instr.entryStore 74 (.map (some N)) (.int .i64 (bornOf (us 8) : Nat)) (.int .i64 (v + 1))).run Tryz.prog wx = .ok () w' := hrun
              clear hrun
              replace hd := Lib.hid hd
              simp only [putAll, Act.put, List.setIfInBounds_toArray, List.set_cons_succ, List.set_cons_zero, Nat.reduceAdd, u0, u7, u9] at ha
              subst ha
              simp only [Act.put] at hK
              go_simp
              exact hK undef _ ⟨hI.x.grown r2 (fun r hr => by cases hr; exact HNW.out), hI.g0.grown r2 (fun e => hM.asMap.blk_ne hI.g0 (by cases e; rfl)), (fun h => absurd (show L 8 = false from h) (by rw [h8]; decide)), hI.g2, (fun _ h => nomatch (show true = false from h)), (fun _ => r1), hI.f0, hI.f1, hI.f2, hI.f3, hI.f4, hI.f5, hI.f6, hI.f7, hI.f9⟩
            intro L us wy hall hI
            have M9 := hI.g4 (hall 10 (by simp))
            have E9 := hI.x
            have B9 := hI.g0
            simp only [putAll, Act.put, List.setIfInBounds_toArray, List.set_cons_succ, List.set_cons_zero, Nat.reduceAdd]
            clear hall hI
            obtain ⟨m2, hm2⟩ : ∃ m2, putK m (xa, xk) (v + 1) = m2 := ⟨_, rfl⟩
            rw [hm2] at M9 TB
            clear TA hm2
            obtain ⟨v2, hv⟩ : ∃ v, (getK m2 (xb, xo)).getD 0 = v := ⟨_, rfl⟩
            have Hv2 := Lib.hid hv
            have hle := TB.le (xb, xo)
            have TC := TB.put (xb, xo)
            rw [hv] at hle TC
            have hw1 : IntKind.i64.wrap (v2 + 1) = v2 + 1 := IntWalk.i64_in _ (by omega)
            have Hw2 := Lib.hid hw1
            clear hv hle hw1
            go_upto_region 32 with (fail)
            refine wp_region_by (Ap31 W6 N X 1 3 xa xb xk xo xs xb xo v2 m2) (by kernel_rfl) (by kernel_rfl) (by kernel_rfl) (fun us => ⟨E9.drew, B9.drew, (fun _ => M9.ext (Ext.refl _).drew), (nofun), (nofun), (nofun), (nofun), (nofun), (nofun), (nofun), (nofun), (nofun), (nofun), (nofun), (nofun)⟩) ⟨?_, ?_, ?_, ?_, ?_, ?_, ?_, ?_, ?_, ?_, ?_, trivial⟩ ?_
            all_goals clear E9 B9 M9
            · intro L us wx K a ha hp hd hun hI hK
              have HX := hI.x
              clear hp HX
              replace hd := Lib.hid hd
              simp only [putAll, Act.put, List.setIfInBounds_toArray, List.set_cons_succ, List.set_cons_zero, Nat.reduceAdd] at ha
              subst ha
              simp only [Act.put, List.setIfInBounds_toArray, List.set_cons_succ, List.set_cons_zero] at hK
              go_simp
              refine hK _ _ ?_
              first
              | (refine ⟨hI.x, hI.g0, hI.g1, hI.g2, hI.g3, hI.g4, ?_, hI.f1, hI.f2, hI.f3, hI.f4, hI.f5, hI.f6, hI.f7, hI.f9⟩ <;> (first | exact fun _ => rfl | skip))
              | (refine ⟨?_, ?_, ?_, ?_, ?_, ?_, ?_, ?_, ?_, ?_, ?_, ?_, ?_, ?_, ?_⟩ <;> (first | exact hI.x | exact hI.g0 | exact hI.g1 | exact hI.g2 | exact hI.g3 | exact hI.g4 | exact hI.f0 | exact hI.f1 | exact hI.f2 | exact hI.f3 | exact hI.f4 | exact hI.f5 | exact hI.f6 | exact hI.f7 | exact hI.f9 | exact fun _ => rfl | skip))
            · intro L us wx K a ha hp hd hun hI hK
              have HX := hI.x
              clear hp HX
              replace hd := Lib.hid hd
              simp only [putAll, Act.put, List.setIfInBounds_toArray, List.set_cons_succ, List.set_cons_zero, Nat.reduceAdd] at ha
              subst ha
              simp only [Act.put, List.setIfInBounds_toArray, List.set_cons_succ, List.set_cons_zero] at hK
              go_simp
              refine hK _ _ ?_
              first
              | (refine ⟨hI.x, hI.g0, hI.g1, hI.g2, hI.g3, hI.g4, hI.f0, ?_, hI.f2, hI.f3, hI.f4, hI.f5, hI.f6, hI.f7, hI.f9⟩ <;> (first | exact fun _ => rfl | skip))
              | (refine ⟨?_, ?_, ?_, ?_, ?_, ?_, ?_, ?_, ?_, ?_, ?_, ?_, ?_, ?_, ?_⟩ <;> (first | exact hI.x | exact hI.g0 | exact hI.g1 | exact hI.g2 | exact hI.g3 | exact hI.g4 | exact hI.f0 | exact hI.f1 | exact hI.f2 | exact hI.f3 | exact hI.f4 | exact hI.f5 | exact hI.f6 | exact hI.f7 | exact hI.f9 | exact fun _ => rfl | skip))
            · intro L us wx K a ha hp hd hun hI hK
              have HX := hI.x
              have u1 := hI.f1 (hp 1 (by kernel_rfl))
              have bb := hI.g0.cell
              clear hp HX
              replace hd := Lib.hid hd
              simp only [putAll, Act.put, List.setIfInBounds_toArray, List.set_cons_succ, List.set_cons_zero, Nat.reduceAdd, u1] at ha
              subst ha
              simp only [Act.put, List.setIfInBounds_toArray, List.set_cons_succ, List.set_cons_zero] at hK
              go_simp
              refine hK _ _ ?_
              first
              | (refine ⟨hI.x, hI.g0, hI.g1, hI.g2, hI.g3, hI.g4, hI.f0, hI.f1, ?_, hI.f3, hI.f4, hI.f5, hI.f6, hI.f7, hI.f9⟩ <;> (first | exact fun _ => rfl | skip))
              | (refine ⟨?_, ?_, ?_, ?_, ?_, ?_, ?_, ?_, ?_, ?_, ?_, ?_, ?_, ?_, ?_⟩ <;> (first | exact hI.x | exact hI.g0 | exact hI.g1 | exact hI.g2 | exact hI.g3 | exact hI.g4 | exact hI.f0 | exact hI.f1 | exact hI.f2 | exact hI.f3 | exact hI.f4 | exact hI.f5 | exact hI.f6 | exact hI.f7 | exact hI.f9 | exact fun _ => rfl | skip))
            · intro L us wx K a ha hp hd hun hI hK
              have HX := hI.x
              clear hp HX
              replace hd := Lib.hid hd
              simp only [putAll, Act.put, List.setIfInBounds_toArray, List.set_cons_succ, List.set_cons_zero, Nat.reduceAdd] at ha
              subst ha
              simp only [Act.put, List.setIfInBounds_toArray, List.set_cons_succ, List.set_cons_zero] at hK
              go_simp
              refine hK _ _ ?_
              first
              | (refine ⟨hI.x, hI.g0, hI.g1, hI.g2, hI.g3, hI.g4, hI.f0, hI.f1, hI.f2, ?_, hI.f4, hI.f5, hI.f6, hI.f7, hI.f9⟩ <;> (first | exact fun _ => rfl | skip))
              | (refine ⟨?_, ?_, ?_, ?_, ?_, ?_, ?_, ?_, ?_, ?_, ?_, ?_, ?_, ?_, ?_⟩ <;> (first | exact hI.x | exact hI.g0 | exact hI.g1 | exact hI.g2 | exact hI.g3 | exact hI.g4 | exact hI.f0 | exact hI.f1 | exact hI.f2 | exact hI.f3 | exact hI.f4 | exact hI.f5 | exact hI.f6 | exact hI.f7 | exact hI.f9 | exact fun _ => rfl | skip))
            · intro L us wx K a ha hp hd hun hI hK
              have HX := hI.x
              have u3 := hI.f3 (hp 3 (by kernel_rfl))
              have bb := hI.g0.cell
              clear hp HX
              replace hd := Lib.hid hd
              simp only [putAll, Act.put, List.setIfInBounds_toArray, List.set_cons_succ, List.set_cons_zero, Nat.reduceAdd, u3] at ha
              subst ha
              simp only [Act.put, List.setIfInBounds_toArray, List.set_cons_succ, List.set_cons_zero] at hK
              go_simp
              refine hK _ _ ?_
              first
              | (refine ⟨hI.x, hI.g0, hI.g1, hI.g2, hI.g3, hI.g4, hI.f0, hI.f1, hI.f2, hI.f3, ?_, hI.f5, hI.f6, hI.f7, hI.f9⟩ <;> (first | exact fun _ => rfl | skip))
              | (refine ⟨?_, ?_, ?_, ?_, ?_, ?_, ?_, ?_, ?_, ?_, ?_, ?_, ?_, ?_, ?_⟩ <;> (first | exact hI.x | exact hI.g0 | exact hI.g1 | exact hI.g2 | exact hI.g3 | exact hI.g4 | exact hI.f0 | exact hI.f1 | exact hI.f2 | exact hI.f3 | exact hI.f4 | exact hI.f5 | exact hI.f6 | exact hI.f7 | exact hI.f9 | exact fun _ => rfl | skip))
            · intro L us wx K a ha hp hd hun hI hK
              have HX := hI.x
              have u2 := hI.f2 (hp 2 (by kernel_rfl))
              have u4 := hI.f4 (hp 4 (by kernel_rfl))
              clear hp HX
              replace hd := Lib.hid hd
              simp only [putAll, Act.put, List.setIfInBounds_toArray, List.set_cons_succ, List.set_cons_zero, Nat.reduceAdd, u2, u4] at ha
              subst ha
              simp only [Act.put, List.setIfInBounds_toArray, List.set_cons_succ, List.set_cons_zero] at hK
              go_simp
              refine hK _ _ ?_
              first
              | (refine ⟨hI.x, hI.g0, hI.g1, hI.g2, hI.g3, hI.g4, hI.f0, hI.f1, hI.f2, hI.f3, hI.f4, ?_, hI.f6, hI.f7, hI.f9⟩ <;> (first | exact fun _ => rfl | skip))
              | (refine ⟨?_, ?_, ?_, ?_, ?_, ?_, ?_, ?_, ?_, ?_, ?_, ?_, ?_, ?_, ?_⟩ <;> (first | exact hI.x | exact hI.g0 | exact hI.g1 | exact hI.g2 | exact hI.g3 | exact hI.g4 | exact hI.f0 | exact hI.f1 | exact hI.f2 | exact hI.f3 | exact hI.f4 | exact hI.f5 | exact hI.f6 | exact hI.f7 | exact hI.f9 | exact fun _ => rfl | skip))
            · intro L us wx K a ha hp hd hun hI hK
              have HX := hI.x
              have u0 := hI.f0 (hp 0 (by kernel_rfl))
              have u5 := hI.f5 (hp 5 (by kernel_rfl))
              have h10 : L 10 = false := Bool.eq_false_iff.2 fun hl => absurd (hd 7 6 (hd 10 7 hl (by kernel_rfl)) (by kernel_rfl)) (by rw [hun]; decide)
              have lk : (Instr.lookup 74 (.map (some N)) (.agg #[.int .i64 xb, .int .i64 xo]) false).run Tryz.prog wx = .ok (.int .i64 v2) wx := by
                cases h8 : L 8
                · have := look_met (hI.g1 h8) xb xo
                  rwa [Hv2.out] at this
                · have := look_met (hI.g3 h8 h10).asMap xb xo
                  rwa [got_put] at this
              clear hp HX
              replace hd := Lib.hid hd
              simp only [putAll, Act.put, List.setIfInBounds_toArray, List.set_cons_succ, List.set_cons_zero, Nat.reduceAdd, u0, u5] at ha
              subst ha
              simp only [Act.put, List.setIfInBounds_toArray, List.set_cons_succ, List.set_cons_zero] at hK
              go_simp
              refine hK _ _ ?_
              first
              | (refine ⟨hI.x, hI.g0, hI.g1, hI.g2, hI.g3, hI.g4, hI.f0, hI.f1, hI.f2, hI.f3, hI.f4, hI.f5, ?_, hI.f7, hI.f9⟩ <;> (first | exact fun _ => rfl | skip))
              | (refine ⟨?_, ?_, ?_, ?_, ?_, ?_, ?_, ?_, ?_, ?_, ?_, ?_, ?_, ?_, ?_⟩ <;> (first | exact hI.x | exact hI.g0 | exact hI.g1 | exact hI.g2 | exact hI.g3 | exact hI.g4 | exact hI.f0 | exact hI.f1 | exact hI.f2 | exact hI.f3 | exact hI.f4 | exact hI.f5 | exact hI.f6 | exact hI.f7 | exact hI.f9 | exact fun _ => rfl | skip))
            · intro L us wx K a ha hp hd hun hI hK
              have HX := hI.x
              have u6 := hI.f6 (hp 6 (by kernel_rfl))
              clear hp HX
              replace hd := Lib.hid hd
              simp only [putAll, Act.put, List.setIfInBounds_toArray, List.set_cons_succ, List.set_cons_zero, Nat.reduceAdd, u6] at ha
              subst ha
              simp only [Act.put, List.setIfInBounds_toArray, List.set_cons_succ, List.set_cons_zero] at hK
              go_simp
              refine hK _ _ ?_
              first
              | (refine ⟨hI.x, hI.g0, hI.g1, hI.g2, hI.g3, hI.g4, hI.f0, hI.f1, hI.f2, hI.f3, hI.f4, hI.f5, hI.f6, ?_, hI.f9⟩ <;> (first | exact fun _ => rfl | skip))
              | (refine ⟨?_, ?_, ?_, ?_, ?_, ?_, ?_, ?_, ?_, ?_, ?_, ?_, ?_, ?_, ?_⟩ <;> (first | exact hI.x | exact hI.g0 | exact hI.g1 | exact hI.g2 | exact hI.g3 | exact hI.g4 | exact hI.f0 | exact hI.f1 | exact hI.f2 | exact hI.f3 | exact hI.f4 | exact hI.f5 | exact hI.f6 | exact hI.f7 | exact hI.f9 | exact fun _ => rfl | skip))
              exact fun _ => congrArg (Value.int .i64) Hw2.out
            · intro L us wx K a ha hp hd hun hI hK
              have u0 := hI.f0 (hp 0 (by kernel_rfl))
              have u5 := hI.f5 (hp 5 (by kernel_rfl))
              have h10 : L 10 = false := Bool.eq_false_iff.2 fun hl => absurd (hd 10 8 hl (by kernel_rfl)) (by rw [hun]; decide)
              have h9 : L 9 = false := Bool.eq_false_iff.2 fun hl => absurd (hd 9 8 hl (by kernel_rfl)) (by rw [hun]; decide)
              have hM := hI.g1 hun
              obtain ⟨w', born, hrun, r1, r2, r3⟩ := entry_run endKey Tryz.underlying74 (z := (0 : Int)) (w := wx) (by kernel_rfl) hM (xb, xo)
              rw [Hv2.out] at hrun r1
              have hrun' : (Instr.mapEntry 74 (.map (some N)) (.agg #[.int .i64 xb, .int .i64 xo])).run Tryz.prog wx = .ok (.tuple #[.int .i64 v2, .int .i64 (born : Nat)]) w' := hrun
              clear hrun
              replace hd := Lib.hid hd
              simp only [putAll, Act.put, List.setIfInBounds_toArray, List.set_cons_succ, List.set_cons_zero, Nat.reduceAdd, u0, u5] at ha
              subst ha
              simp only [Act.put, List.setIfInBounds_toArray, List.set_cons_succ, List.set_cons_zero] at hK
              go_simp
              exact hK _ _ ⟨hI.x.grown r2 (fun r hr => by cases hr; exact HNW.out), hI.g0.grown r2 (fun e => hM.blk_ne hI.g0 (by cases e; rfl)), (fun h => nomatch (show true = false from h)), (fun _ => rfl), (fun _ _ => r1), (fun h => absurd (show L 10 = true from h) (by rw [h10]; decide)), hI.f0, hI.f1, hI.f2, hI.f3, hI.f4, hI.f5, hI.f6, hI.f7, (fun h => absurd (show L 9 = true from h) (by rw [h9]; decide))⟩
            · intro L us wx K a ha hp hd hun hI hK
              have u8 := hI.g2 (hp 8 (by kernel_rfl))
              obtain ⟨born, hb8⟩ : ∃ b, bornOf (us 8) = b := ⟨_, rfl⟩
              rw [hb8] at u8
              replace hd := Lib.hid hd
              simp only [putAll, Act.put, List.setIfInBounds_toArray, List.set_cons_succ, List.set_cons_zero, Nat.reduceAdd] at ha
              rw [u8] at ha
              subst ha
              clear u8
              simp only [Act.put, List.setIfInBounds_toArray, List.set_cons_succ, List.set_cons_zero] at hK
              go_simp
              exact hK _ _ ⟨hI.x, hI.g0, hI.g1, hI.g2, hI.g3, hI.g4, hI.f0, hI.f1, hI.f2, hI.f3, hI.f4, hI.f5, hI.f6, hI.f7, (fun _ => congrArg (fun n : Nat => Value.int .i64 n) hb8.symm)⟩
            · intro L us wx K a ha hp hd hun hI hK
              have u0 := hI.f0 (hp 0 (by kernel_rfl))
              have u7 := hI.f7 (hp 7 (by kernel_rfl))
              have u9 := hI.f9 (hp 9 (by kernel_rfl))
              have h8 := hp 8 (by kernel_rfl)
              have hM := hI.g3 h8 hun
              obtain ⟨w', hrun, r1, r2, r3⟩ := store_run (P := Tryz.prog) hM 74 (v2 + 1)
              rw [putK_put] at r1
              have hrun' : (Instr.entryStore 74 (.map (some N)) (.int .i64 (bornOf (us 8) : Nat)) (.int .i64 (v2 + 1))).run Tryz.prog wx = .ok () w' := hrun
              clear hrun
              replace hd := Lib.hid hd
              simp only [putAll, Act.put, List.setIfInBounds_toArray, List.set_cons_succ, List.set_cons_zero, Nat.reduceAdd, u0, u7, u9] at ha
              subst ha
              simp only [Act.put] at hK
              go_simp
              exact hK undef _ ⟨hI.x.grown r2 (fun r hr => by cases hr; exact HNW.out), hI.g0.grown r2 (fun e => hM.asMap.blk_ne hI.g0 (by cases e; rfl)), (fun h => absurd (show L 8 = false from h) (by rw [h8]; decide)), hI.g2, (fun _ h => nomatch (show true = false from h)), (fun _ => r1), hI.f0, hI.f1, hI.f2, hI.f3, hI.f4, hI.f5, hI.f6, hI.f7, hI.f9⟩
            intro L us wz hall hI
            have M10 := hI.g4 (hall 10 (by simp))
            have E10 := hI.x
            have B10 := hI.g0
            simp only [putAll, Act.put, List.setIfInBounds_toArray, List.set_cons_succ, List.set_cons_zero, Nat.reduceAdd]
            clear hall hI
            go_wp2_with fail
            go_roundw
            case rel => exact ⟨q + 1, _, by omega, by go_num, E10, M10, by rw [Het.out]; exact TC⟩
            case measure => simp only [intOf]; omega
          · obtain rfl : q = nl := by omega
            have hone := TA.one (by rw [← Hnl.out, List.take_length]; exact HEn.out)
            have Hone := Lib.hid hone
            obtain ⟨R, hR⟩ : ∃ R, wr.heap.size = R := ⟨_, rfl⟩
            have HR := Lib.hid hR
            clear hR hone TA hll
            go_wp2_with (at_range; refine wpList_rng (enc := encE) (ev := evI) rfl _ 74 rfl 3 Tryz.underlying74 N m rfl MA ?_; intro w6 R6 g6 z6; rw [HR.out] at R6 z6)
            rw [HR.out]
            have E6 := Er.grown g6 (fun k hk => nomatch hk)
            have hRW : W6.heap.size ≤ R := by have := Er.size; have := HR.out; omega
            have HRW := Lib.hid hRW
            clear MA Er g6 z6 hRW
            go_loopw [21] (fun _ wr' => ∃ (done left : List (Nat × Nat)), RngOf encE evI wr' N R m done left ∧ Ext W6 wr') (fun _ wr' => wr'.rangeLeft N R)
            case atStart => exact ⟨[], _, R6, E6⟩
            case round =>
              clear R6 E6
              obtain ⟨done, left, RR, Er⟩ := hrel
              have Hle := Lib.hid RR.left_eq
              by_cases hle : left = []
              · subst hle
                go_wp2_with (at_next; refine wpList_nxtV (enc := encE) (ev := evI) rfl _ rfl N R m done [] rfl RR (fun _ => ?_) (fun x u left' w' _ h1 h2 => absurd h2 (by simp)))
                go_wp2_with fail
                go_ret
                exact ⟨rfl, E46.out.trans Er⟩
              · go_wp2_with (at_next; refine wpList_nxtV (enc := encE) (ev := evI) rfl _ rfl N R m done left rfl RR (fun h => absurd h hle) ?_; intro x u left' w6 hu R6 hlt6 g6 z6 ent; obtain ⟨pu, hpu, rfl⟩ := hu; have h1 := Hone.out _ hpu; unfold evI at ent ⊢)
                go_roundw
                case rel => exact ⟨_, left', R6, Er.grown g6 (fun k hk => by have := Option.some.inj hk; have := HRW.out; omega)⟩
                case measure =>
                  rw [R6.left_eq, Hle.out]
                  exact hlt6
  · have hov : decide (overL ks bs nb = []) = false := by
      rw [decide_eq_false_iff_not]
      intro h
      have := checkErr_nil H0.out (by rw [Hnb.out]; exact h)
      rw [Hce.out] at this
      cases this
    have hll : linkR ks bs = [] := if_neg (by rw [Hce.out]; decide)
    rw [hll] at LA
    clear hll
    obtain ⟨W5, hW5, E5, M5, hz5⟩ := mapbox_ encPt evI W4
    obtain ⟨M, hM⟩ : ∃ M, W4.heap.size = M := ⟨_, rfl⟩
    rw [hM] at M5 hz5
    have HM := Lib.hid hM
    have b5 := (BM.ext E5).cell
    clear b1
    go_wp2_with fail
    clear hW5 hM b5
    go_loopw [8, 41] (fun tw ii wr => ∃ (j : Nat) (m : List (Pt × Int)), j ≤ nb ∧ ii = .int .i64 j ∧ tw = .bool (twiceB (flatC ks bs j)) ∧ Ext W4 wr ∧ MapOf encPt evI wr M m ∧ Tally m (flatC ks bs j)) (fun _ ii _ => nb - (intOf ii).toNat)
    case atStart => exact ⟨0, [], by omega, rfl, by rw [flatC_zero, twiceB_nil], E5, M5, Tally.nil⟩
    case round =>
      clear E5 M5 hz5
      obtain ⟨j, m, hj, rfl, rfl, Er, MA, TA⟩ := hrel
      have b1 := (BM.ext Er).cell
      by_cases hlt : j < nb
      · obtain ⟨g, off, ⟨kd, ⟨x, y, z⟩, t, cl⟩, rfl, hq, hby, hg, d0, d1, d2, d3, d4, d5⟩ := (HB.out.ext Er).at_ (k := j) (by rw [Hnb.out]; exact hlt)
        obtain ⟨i, tn, kk, p, e1, e2, htn, hqi, hkf, hpt, -⟩ := PL.out _ (List.mem_of_getElem? hq)
        have has := HAs.out _ (List.mem_of_getElem? hq)
        simp only at e1 e2 hpt d0 d1 d2 d3 d4 d5
        subst e1 e2
        have Hbc := Lib.hid (show bcells ks (brkAt bs j) = sortP (placeP kk.cells tn ⟨x, y, z⟩) by rw [brkAt_eq hq, ← Hks.out]; exact bcells_is rfl rfl hqi)
        obtain ⟨qb, qoff, k', p', hQ, hqi', hka, hqb, q0, q1, q2⟩ := HKi.out i (by have := (List.getElem?_eq_some_iff.1 hqi).1; have := HQ.out; omega)
        obtain ⟨rfl, rfl⟩ : k' = kk ∧ p' = p := by rw [hqi] at hqi'; cases hqi'; exact ⟨rfl, rfl⟩
        subst hQ
        obtain ⟨Lc, hLc⟩ : ∃ L, sortP (placeP k'.cells tn ⟨x, y, z⟩) = L := ⟨_, rfl⟩
        obtain ⟨n, hn⟩ : ∃ n, k'.cells.length = n := ⟨_, rfl⟩
        have Hln := Lib.hid (show Lc.length = n by rw [← hLc, sortP_len, placeP_len, hn])
        have Hn40 := Lib.hid (show n ≤ 24 by have := hkf.len; omega)
        have CL := Lib.hid (fun W (E' : Ext W4 W) => PLc.out W E' i k' p' hqi hkf x y z cl tn hby (by rw [Hks.out]; exact has) htn (hpt.ok (by omega)))
        rw [hLc, hn] at CL
        rw [hn] at q0
        rw [hLc] at Hbc
        obtain ⟨WB, hWB, EB, BB, hzB⟩ := mk_ wr #[.int .i64 i, .int .i64 x, .int .i64 y, .int .i64 z, .int .u8 tn, .int .u8 cl] 63
        have EX := Er.trans EB
        have MB := MA.ext EB
        obtain ⟨G, hG⟩ : ∃ G, wr.heap.size = G := ⟨_, rfl⟩
        rw [hG] at BB
        have HG := Lib.hid hG
        have bb := BB.cell
        have j0 : (0 : Int) ≤ j := by omega
        have j1 : (j : Int) < nb := by omega
        have i0 : (0 : Int) ≤ i := by omega
        have i1 : (i : Int) < nq := by have := (List.getElem?_eq_some_iff.1 hqi).1; have := HQ.out; omega
        have Hq := Lib.hid q0
        clear hqi' hq hqi hkf htn hpt hka hn hLc hzB hG EB MA has q0 q1 q2
        go_upto_region 12 with (fail)
        rw [HG.out]
        clear b1 d0 d1 d2 d3 d4 d5 hWB
        go_wp2_with fail
        clear bb
        refine (CL.out _ EX).mono ?_
        rintro e WC ⟨gc, cap, hgc, rfl, hcn, hcm, RC, EC⟩
        have ErC := EX.trans EC
        have MC := MB.ext EC
        have bb := (BB.ext EC).cell
        have q0 := ErC.cell Hq.out
        have hne : ((n : Int) != (n : Int)) = false := by simp
        have Hcn := Lib.hid hcn
        have Hcm := Lib.hid hcm
        clear EX EC MB Er BB
        go_wp2_with fail
        clear bb q0
        go_loopw [8, 67] (fun tw ii wr' => ∃ (q : Nat) (m : List (Pt × Int)), q ≤ n ∧ ii = .int .i64 q ∧ tw = .bool (twiceB (flatC ks bs j ++ Lc.take q)) ∧ Ext W4 wr' ∧ RowX wr' gc 50 (Lc.map Pt.cs) ∧ MapOf encPt evI wr' M m ∧ Tally m (flatC ks bs j ++ Lc.take q)) (fun _ ii _ => n - (intOf ii).toNat)
        case atStart => exact ⟨0, m, by omega, rfl, by rw [List.take_zero, List.append_nil], ErC, RC, MC, by rw [List.take_zero, List.append_nil]; exact TA⟩
        case round =>
          clear ErC RC MC TA
          obtain ⟨q, m, hqn, rfl, rfl, Er, RC, MA, TA⟩ := hrel
          by_cases hqt : q < n
          · obtain ⟨⟨x1, y1, z1⟩, hc⟩ : ∃ c, Lc[q]? = some c := ⟨_, List.getElem?_eq_getElem (by have := Hln.out; omega)⟩
            have hr : (Lc.map Pt.cs)[q]? = some (Pt.cs ⟨x1, y1, z1⟩) := by rw [List.getElem?_map, hc]; rfl
            have hw3 : ∀ r ∈ Lc.map Pt.cs, r.length = 3 := fun r hr => by obtain ⟨p, -, rfl⟩ := List.mem_map.1 hr; rfl
            have c0 := RC.cell hw3 (j := 0) hr rfl
            have c1 := RC.cell hw3 (j := 1) hr rfl
            have c2 := RC.cell hw3 (j := 2) hr rfl
            simp only [Nat.add_zero] at c0
            have Hst := Lib.hid (take_snoc hc (flatC ks bs j))
            have Htw := Lib.hid (twiceB_snoc TA ⟨x1, y1, z1⟩)
            have Hle := TA.le ⟨x1, y1, z1⟩
            have hll : (flatC ks bs j ++ Lc.take q).length ≤ 1000000 := by
              have h1 := HFl.out j (by omega)
              have h2 := Hln.out
              have h3 := Hn40.out
              rw [List.length_append, List.length_take]
              omega
            have Tn := TA.put ⟨x1, y1, z1⟩
            obtain ⟨v, hv⟩ : ∃ v, (getK m ⟨x1, y1, z1⟩).getD 0 = v := ⟨_, rfl⟩
            rw [hv] at Hle Tn Htw
            have Hv := Lib.hid hv
            obtain ⟨hv0, hv1⟩ := Hle
            have hv2 : v ≤ 1000000 := by omega
            obtain ⟨tv, htv⟩ : ∃ b, twiceB (flatC ks bs j ++ Lc.take q) = b := ⟨_, rfl⟩
            rw [htv] at Htw ⊢
            obtain ⟨WD, hWD, ED, BD, hzD⟩ := mk_ wr #[.int .i64 x1, .int .i64 y1, .int .i64 z1] 50
            obtain ⟨X, hX⟩ : ∃ X, wr.heap.size = X := ⟨_, rfl⟩
            rw [hX] at BD
            have HX := Lib.hid hX
            have ErD := Er.trans ED
            have MD := MA.ext ED
            have RD := RC.ext ED
            have q0 : (0 : Int) ≤ q := by omega
            have q1 : (q : Int) < n := by omega
            have hMW : W4.heap.size ≤ M := by have := HM.out; omega
            have HMW := Lib.hid hMW
            have Hw1 := Lib.hid (show IntKind.i64.wrap (v + 1) = v + 1 from IntWalk.i64_in _ (by omega))
            have HTn := Lib.hid Tn
            clear hc hr hw3 hv hv1 hll hzD hX Er MA RC TA ED htv hMW Tn
            go_upto_region 18 with (fail)
            rw [HX.out]
            clear c0 c1 c2 hWD
            refine wp_region_by (Ap18 W4 M X gc x1 y1 z1 v m Lc) (by kernel_rfl) (by kernel_rfl) (by kernel_rfl) (fun us => ⟨ErD.drew, BD.drew, (fun _ => MD.ext (Ext.refl _).drew), (nofun), (nofun), (nofun), RD.drew, (nofun), (nofun), (nofun), (nofun), (nofun)⟩) ⟨?_, ?_, ?_, ?_, ?_, ?_, ?_, trivial⟩ ?_
            all_goals clear ErD BD MD RD
            · intro L us wx K a ha hp hd hun hI hK
              have HX := hI.x
              clear hp HX
              replace hd := Lib.hid hd
              simp only [putAll, Act.put, List.setIfInBounds_toArray, List.set_cons_succ, List.set_cons_zero, Nat.reduceAdd] at ha
              subst ha
              simp only [Act.put, List.setIfInBounds_toArray, List.set_cons_succ, List.set_cons_zero] at hK
              go_simp
              refine hK _ _ ?_
              first
              | (refine ⟨hI.x, hI.g0, hI.g1, hI.g2, hI.g3, hI.g4, hI.g5, ?_, hI.f1, hI.f2, hI.f3, hI.f5⟩ <;> (first | exact fun _ => rfl | skip))
              | (refine ⟨?_, ?_, ?_, ?_, ?_, ?_, ?_, ?_, ?_, ?_, ?_, ?_⟩ <;> (first | exact hI.x | exact hI.g0 | exact hI.g1 | exact hI.g2 | exact hI.g3 | exact hI.g4 | exact hI.g5 | exact hI.f0 | exact hI.f1 | exact hI.f2 | exact hI.f3 | exact hI.f5 | exact fun _ => rfl | skip))
            · intro L us wx K a ha hp hd hun hI hK
              have HX := hI.x
              have bb := hI.g0.cell
              clear hp HX
              replace hd := Lib.hid hd
              simp only [putAll, Act.put, List.setIfInBounds_toArray, List.set_cons_succ, List.set_cons_zero, Nat.reduceAdd] at ha
              subst ha
              simp only [Act.put, List.setIfInBounds_toArray, List.set_cons_succ, List.set_cons_zero] at hK
              go_simp
              refine hK _ _ ?_
              first
              | (refine ⟨hI.x, hI.g0, hI.g1, hI.g2, hI.g3, hI.g4, hI.g5, hI.f0, ?_, hI.f2, hI.f3, hI.f5⟩ <;> (first | exact fun _ => rfl | skip))
              | (refine ⟨?_, ?_, ?_, ?_, ?_, ?_, ?_, ?_, ?_, ?_, ?_, ?_⟩ <;> (first | exact hI.x | exact hI.g0 | exact hI.g1 | exact hI.g2 | exact hI.g3 | exact hI.g4 | exact hI.g5 | exact hI.f0 | exact hI.f1 | exact hI.f2 | exact hI.f3 | exact hI.f5 | exact fun _ => rfl | skip))
            · intro L us wx K a ha hp hd hun hI hK
              have HX := hI.x
              have u0 := hI.f0 (hp 0 (by kernel_rfl))
              have u1 := hI.f1 (hp 1 (by kernel_rfl))
              have h6 : L 6 = false := Bool.eq_false_iff.2 fun hl => absurd (hd 3 2 (hd 6 3 hl (by kernel_rfl)) (by kernel_rfl)) (by rw [hun]; decide)
              have lk : (Instr.lookup 71 (.map (some M)) (.agg #[.int .i64 x1, .int .i64 y1, .int .i64 z1]) false).run Tryz.prog wx = .ok (.int .i64 v) wx := by
                cases h4 : L 4
                · have := look_at (hI.g1 h4) x1 y1 z1
                  rwa [Hv.out] at this
                · have := look_at (hI.g3 h4 h6).asMap x1 y1 z1
                  rwa [got_put] at this
              clear hp HX
              replace hd := Lib.hid hd
              simp only [putAll, Act.put, List.setIfInBounds_toArray, List.set_cons_succ, List.set_cons_zero, Nat.reduceAdd, u0, u1] at ha
              subst ha
              simp only [Act.put, List.setIfInBounds_toArray, List.set_cons_succ, List.set_cons_zero] at hK
              go_simp
              refine hK _ _ ?_
              first
              | (refine ⟨hI.x, hI.g0, hI.g1, hI.g2, hI.g3, hI.g4, hI.g5, hI.f0, hI.f1, ?_, hI.f3, hI.f5⟩ <;> (first | exact fun _ => rfl | skip))
              | (refine ⟨?_, ?_, ?_, ?_, ?_, ?_, ?_, ?_, ?_, ?_, ?_, ?_⟩ <;> (first | exact hI.x | exact hI.g0 | exact hI.g1 | exact hI.g2 | exact hI.g3 | exact hI.g4 | exact hI.g5 | exact hI.f0 | exact hI.f1 | exact hI.f2 | exact hI.f3 | exact hI.f5 | exact fun _ => rfl | skip))
            · intro L us wx K a ha hp hd hun hI hK
              have HX := hI.x
              have u2 := hI.f2 (hp 2 (by kernel_rfl))
              clear hp HX
              replace hd := Lib.hid hd
              simp only [putAll, Act.put, List.setIfInBounds_toArray, List.set_cons_succ, List.set_cons_zero, Nat.reduceAdd, u2] at ha
              subst ha
              simp only [Act.put, List.setIfInBounds_toArray, List.set_cons_succ, List.set_cons_zero] at hK
              go_simp
              refine hK _ _ ?_
              first
              | (refine ⟨hI.x, hI.g0, hI.g1, hI.g2, hI.g3, hI.g4, hI.g5, hI.f0, hI.f1, hI.f2, ?_, hI.f5⟩ <;> (first | exact fun _ => rfl | skip))
              | (refine ⟨?_, ?_, ?_, ?_, ?_, ?_, ?_, ?_, ?_, ?_, ?_, ?_⟩ <;> (first | exact hI.x | exact hI.g0 | exact hI.g1 | exact hI.g2 | exact hI.g3 | exact hI.g4 | exact hI.g5 | exact hI.f0 | exact hI.f1 | exact hI.f2 | exact hI.f3 | exact hI.f5 | exact fun _ => rfl | skip))
              exact fun _ => congrArg (Value.int .i64) Hw1.out
            · intro L us wx K a ha hp hd hun hI hK
              have u0 := hI.f0 (hp 0 (by kernel_rfl))
              have u1 := hI.f1 (hp 1 (by kernel_rfl))
              have h6 : L 6 = false := Bool.eq_false_iff.2 fun hl => absurd (hd 6 4 hl (by kernel_rfl)) (by rw [hun]; decide)
              have h5 : L 5 = false := Bool.eq_false_iff.2 fun hl => absurd (hd 5 4 hl (by kernel_rfl)) (by rw [hun]; decide)
              have hM := hI.g1 hun
              obtain ⟨w', born, hrun, r1, r2, r3⟩ := entry_run ptKey Tryz.underlying71 (z := (0 : Int)) (w := wx) (by kernel_rfl) hM ⟨x1, y1, z1⟩
              rw [Hv.out] at hrun r1
              have hrun' : (Instr.mapEntry 71 (.map (some M)) (.agg #[.int .i64 x1, .int .i64 y1, .int .i64 z1])).run Tryz.prog wx = .ok (.tuple #[.int .i64 v, .int .i64 (born : Nat)]) w' := hrun
              clear hrun
              replace hd := Lib.hid hd
              simp only [putAll, Act.put, List.setIfInBounds_toArray, List.set_cons_succ, List.set_cons_zero, Nat.reduceAdd, u0, u1] at ha
              subst ha
              simp only [Act.put, List.setIfInBounds_toArray, List.set_cons_succ, List.set_cons_zero] at hK
              go_simp
              exact hK _ _ ⟨hI.x.grown r2 (fun r hr => by cases hr; exact HMW.out), hI.g0.grown r2 (fun e => hM.blk_ne hI.g0 (by cases e; rfl)), (fun h => nomatch (show true = false from h)), (fun _ => rfl), (fun _ _ => r1), (fun h => absurd (show L 6 = true from h) (by rw [h6]; decide)), hI.g5.grown r2 (hI.g5.map_ne hM), hI.f0, hI.f1, hI.f2, hI.f3, (fun h => absurd (show L 5 = true from h) (by rw [h5]; decide))⟩
            · intro L us wx K a ha hp hd hun hI hK
              have u4 := hI.g2 (hp 4 (by kernel_rfl))
              obtain ⟨born, hb4⟩ : ∃ b, bornOf (us 4) = b := ⟨_, rfl⟩
              rw [hb4] at u4
              replace hd := Lib.hid hd
              simp only [putAll, Act.put, List.setIfInBounds_toArray, List.set_cons_succ, List.set_cons_zero, Nat.reduceAdd] at ha
              rw [u4] at ha
              subst ha
              clear u4
              simp only [Act.put, List.setIfInBounds_toArray, List.set_cons_succ, List.set_cons_zero] at hK
              go_simp
              exact hK _ _ ⟨hI.x, hI.g0, hI.g1, hI.g2, hI.g3, hI.g4, hI.g5, hI.f0, hI.f1, hI.f2, hI.f3, (fun _ => congrArg (fun n : Nat => Value.int .i64 n) hb4.symm)⟩
            · intro L us wx K a ha hp hd hun hI hK
              have u0 := hI.f0 (hp 0 (by kernel_rfl))
              have u3 := hI.f3 (hp 3 (by kernel_rfl))
              have u5 := hI.f5 (hp 5 (by kernel_rfl))
              have h4 := hp 4 (by kernel_rfl)
              have hM := hI.g3 h4 hun
              obtain ⟨w', hrun, r1, r2, r3⟩ := store_run (P := Tryz.prog) hM 71 (v + 1)
              rw [putK_put] at r1
              have hrun' : (Instr.entryStore 71 (.map (some M)) (.int .i64 (bornOf (us 4) : Nat)) (.int .i64 (v + 1))).run Tryz.prog wx = .ok () w' := hrun
              clear hrun
              replace hd := Lib.hid hd
              simp only [putAll, Act.put, List.setIfInBounds_toArray, List.set_cons_succ, List.set_cons_zero, Nat.reduceAdd, u0, u3, u5] at ha
              subst ha
              simp only [Act.put] at hK
              go_simp
              exact hK undef _ ⟨hI.x.grown r2 (fun r hr => by cases hr; exact HMW.out), hI.g0.grown r2 (fun e => hM.asMap.blk_ne hI.g0 (by cases e; rfl)), (fun h => absurd (show L 4 = false from h) (by rw [h4]; decide)), hI.g2, (fun _ h => nomatch (show true = false from h)), (fun _ => r1), hI.g5.grown r2 (hI.g5.map_ne hM.asMap), hI.f0, hI.f1, hI.f2, hI.f3, hI.f5⟩
            intro L us wx hall hI
            have M' := hI.g4 (hall 6 (by simp))
            have EX := hI.x
            have RX := hI.g5
            have bx := hI.g0.cell
            simp only [putAll, Act.put, List.setIfInBounds_toArray, List.set_cons_succ, List.set_cons_zero, Nat.reduceAdd]
            clear hall hI
            have lk := look_at M' x1 y1 z1
            rw [got_put] at lk
            have hn4 := Hn40.out
            have gm : decide (v + 1 > 1) = decide (1 < v + 1) := rfl
            obtain ⟨dv, hdv⟩ : ∃ d, decide (1 < v + 1) = d := ⟨_, rfl⟩
            rw [hdv] at gm Htw
            cases tv
            · go_wp2_with fail
              go_roundw
              case rel => exact ⟨q + 1, _, by omega, by go_num, by rw [Hst.out, Htw.out]; simp [← hdv], EX, RX, M', by rw [Hst.out]; exact HTn.out⟩
              case measure => simp only [intOf]; omega
            · go_wp2_with fail
              go_roundw
              case rel => exact ⟨q + 1, _, by omega, by go_num, by rw [Hst.out, Htw.out]; rfl, EX, RX, M', by rw [Hst.out]; exact HTn.out⟩
              case measure => simp only [intOf]; omega
          · obtain rfl : q = n := by omega
            have hfull : flatC ks bs j ++ Lc.take q = flatC ks bs (j + 1) := by rw [flatC_succ, Hbc.out, ← Hln.out, List.take_length]
            rw [hfull] at TA ⊢
            go_wp2_with fail
            go_roundw
            case rel => exact ⟨j + 1, m, by omega, by go_num, rfl, Er, MA, TA⟩
            case measure => simp only [intOf]; omega
      · obtain rfl : j = nb := by omega
        rw [Hov.out]
        rw [hov]
        clear MA TA
        go_wp2_with fail
        refine (LA.out _ (HE.out.trans Er)).mono ?_
        rintro e W6 ⟨A6, lc, rfl, hL, E6⟩
        clear hL
        go_wp2_with fail
        go_ret
        exact ⟨rfl, HE.out.trans (Er.trans E6)⟩
end Go.Proofs.YtenigkngmdofiaaGreat
namespace Go.Proofs.YtenigkngmdofiaaGreat
open Go.RowKit Go.ChangeShapes Go.WideShapes Go.ChangeAt Go.Deep Go.Joins

set_option maxRecDepth 100000 in
theorem latticeApart_lifted (os : Os) (started : os.Started) (H : Type) (enc : TypeId × Value → H) :
    ReturnsInHanded {} Tryz.checked os 7 .any (Rows.latticeApartSpec.pre6 enc Tryz.prog Tryz.f7 Rows.latticeApartRow.domain false) (Rows.latticeApartSpec.post enc Tryz.prog Tryz.f7 false true false false) := by
  refine returnsInHanded_of_change (C := Tryz.checked) Tryz.own started (by kernel_rfl) Tryz.func7
    (ChangeSpec.witness6 (enc := enc) (C := Tryz.checked) false ⟨#[], #[.slice none 0 0, .agg #[.slice none 0 0]], []⟩ 8 (by kernel_rfl) (by kernel_rfl) (by kernel_rfl) (by kernel_rfl)) ?_
  intro W base args ds gs before hval0 hW hcnd _
  have hval : ∀ (j : Nat) t v, Tryz.f7.params[j]? = some t → args[j]? = some v → Value.okWide Tryz.prog W .any base t v := hval0
  have hW' := hW
  obtain ⟨p, q, hA0, hV, rfl, hfz, hnd⟩ := hW
  have hA : DataW.TrodAll enc Tryz.prog W 0 (fun _ => true) true Tryz.f7.params.toList args.toList ds p := hA0
  rw [Tryz.params7] at hA hval
  have hAll := hA
  obtain ⟨v0, v1, d0, d1, p0, p1, rfl, rfl, rfl, h0, h1⟩ := trodAll_two hA
  obtain ⟨rfl, rfl⟩ := trodVars_none hV
  obtain ⟨C, n1, cc, rfl⟩ := okWide_slice Tryz.underlying22 (hval 0 22 v0 rfl rfl)
  obtain ⟨fu0, hf0⟩ := h0
  obtain ⟨qs, rfl, hk, -⟩ := kinds_of_trod (by simpa [Value.cells] using hf0)
  obtain ⟨D, cd, bs, rfl, hb, hnil⟩ := model_open (hval 1 25 v1 rfl rfl) h1
  clear hA0 hval0
  simp only [List.append_nil] at hW' hAll
  have hlt : ∀ q ∈ p0 ++ p1, q.block < W.heap.size := fun q hq => hW'.lt q hq
  refine (apart_walk qs C cc bs D cd W hk hb hnil).mono fun e W' ⟨he, hE⟩ => ?_
  subst he
  refine ⟨_, rfl, ?_⟩
  refine ⟨_, _, _, [], p0 ++ p1, [], hW', ?_, ?_, rfl, hE.frame _, fun h => by cases h⟩
  · exact trodAll_mk1 (shut_bool Tryz.underlying4 true)
  · exact trodAll_ext (ts := [22, 25]) Tryz.laidOut hE (by
      intro t ht
      simp only [List.mem_cons, List.not_mem_nil, or_false] at ht
      rcases ht with rfl | rfl <;> exact ⟨by kernel_rfl, of_decide_eq_true (by kernel_rfl)⟩) hAll hlt

theorem latticeApart_holds : Rows.LatticeApartSaid :=
  OpenClaim.holds_of_wide 7 Tryz.f7 rfl rfl rfl rfl rfl rfl rfl ⟨rfl, rfl, rfl, rfl, rfl⟩ rfl rfl rfl rfl rfl (by kernel_rfl) Tryz.func7 (by kernel_rfl)
    (of_decide_eq_true (by kernel_rfl)) (by unfold Func.isWrapper; rw [if_neg (of_decide_eq_false (by kernel_rfl))]; exact ⟨rfl, rfl⟩)
    (fun os started H enc _ => latticeApart_lifted os started H enc)
#print axioms latticeApart_holds
end Go.Proofs.YtenigkngmdofiaaGreat
