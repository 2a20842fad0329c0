/- Great of the reference; SameInts. No conditions. Worlds in which some blocks have turned; append of one element, and whether it grew. Rows of the call's own beside each other; append of a whole slice, whatever its source. twin: kinds in new memory. Conditions: a nil list of a kind has no room; the lists are not great. same: lists of equal kinds are equal. Condition: the kinds are equal. -/
import Derived.Test.YtenigkngmdofiaaLk10
import Derived.Laws.AppendOwnNone

namespace Go.Proofs.Ytenigkngmdofiaa
open Go.RowKit

def Knd.great (k : Knd) : Bool := decide (30 < k.cells.length) || decide (60 < k.knobs.length)
def greatB (l : List Knd) (n : Nat) : Bool := decide (20 < l.length) || (decide (45 < n) || !allR l.length fun i => !(kindAt l i).great)
theorem greatB_kinds {l : List Knd} {n : Nat} (h : greatB l n = false) : l.length ≤ 20 ∧ n ≤ 45 ∧ ∀ k ∈ l, k.cells.length ≤ 30 ∧ k.knobs.length ≤ 60 := by
  unfold greatB at h
  simp only [Bool.or_eq_false_iff, decide_eq_false_iff_not, Bool.not_eq_false'] at h
  obtain ⟨h1, h2, h3⟩ := h
  refine ⟨by omega, by omega, fun k hk => ?_⟩
  obtain ⟨i, hi⟩ := List.getElem?_of_mem hk
  have := allR_at h3 (List.getElem?_eq_some_iff.1 hi).1
  unfold Knd.great at this
  have e : kindAt l i = k := by simp [kindAt, hi]
  rw [e] at this
  simp only [Bool.not_eq_true', Bool.or_eq_false_iff, decide_eq_false_iff_not] at this
  omega
set_option maxHeartbeats 3200000 in
theorem great_c (qs : List (Knd × KAt)) (A : Option Addr) (cap : Nat) (B : Option Addr) (n cb : Nat) (w : World) (hk : Kinds w A cap qs) (hn : n ≤ maxLen) :
    Calls Try.prog 14 #[.slice A qs.length cap, .agg #[.slice B n cb]] w fun e w' => e = .returned (.bool (greatB (qs.map (·.1)) n)) ∧ Ext w w' := by
  have hl1 : qs.length ≤ 9223372036854775807 := by have := hk.len; unfold maxLen at this; omega
  have hml : (qs.map (·.1)).length = qs.length := List.length_map _
  unfold maxLen at hn
  obtain ⟨W1, hW1, E1, B1, hz1⟩ := mk_ w #[.slice B n cb] 46
  have b1 := B1.cell
  by_cases a1 : (20 : Int) < qs.length
  · have Hb := Lib.hid (show greatB (qs.map (·.1)) n = true by rw [greatB, decide_eq_true (by rw [hml]; omega)]; rfl)
    clear hml
    go_enter Try.func14, Try.ntmps14
    go_wp2_with fail
    go_ret
    exact ⟨by rw [Hb.out]; rfl, E1⟩
  by_cases a2 : (45 : Int) < n
  · have Hb := Lib.hid (show greatB (qs.map (·.1)) n = true by rw [greatB, decide_eq_true (show 45 < n by omega), Bool.true_or, Bool.or_true])
    clear hml
    go_enter Try.func14, Try.ntmps14
    go_wp2_with fail
    go_ret
    exact ⟨by rw [Hb.out]; rfl, E1⟩
  have Hg := Lib.hid (show greatB (qs.map (·.1)) n = !allR qs.length fun i => !(kindAt (qs.map (·.1)) i).great by
    unfold greatB
    rw [decide_eq_false (show ¬ 20 < (qs.map (·.1)).length by rw [hml]; omega), decide_eq_false (show ¬ 45 < n by omega), hml]
    rfl)
  clear hml
  go_enter Try.func14, Try.ntmps14
  go_wp2_with fail
  clear hW1 hz1 b1 a1 a2
  go_loopw [5] (fun i wr => ∃ j : Nat, j ≤ qs.length ∧ i = .int .i64 j ∧ wr = W1 ∧ Hid (∀ i, i < j → (!(kindAt (qs.map (·.1)) i).great) = true)) (fun i _ => qs.length - (intOf i).toNat)
  case atStart => exact ⟨0, by omega, rfl, rfl, Lib.hid (fun i hi => by omega)⟩
  case round =>
    obtain ⟨j, hj, rfl, rfl, Hj⟩ := hrel
    by_cases hlt : j < qs.length
    · obtain ⟨g, off, ⟨kc, kn, kw⟩, ⟨KA, kca, KB, kcb⟩, rfl, hq, ⟨hkc, hkn⟩, hg, c0, c1, c2⟩ := (hk.ext E1).at_ hlt
      have hlc := hkc.len
      have hln := hkn.len
      unfold maxLen at hlc hln
      simp only at c0 c1 c2 hlc hln
      have Hq := Lib.hid (kindAt_eq hq)
      clear hq hkc hkn
      by_cases d1 : (30 : Int) < kc.length
      · have Hb := Lib.hid (show greatB (qs.map (·.1)) n = true by
          rw [Hg.out, allR_bad hlt (by rw [Hq.out, Knd.great, decide_eq_true (show 30 < kc.length by omega)]; rfl)]
          rfl)
        go_wp2_with fail
        go_ret
        exact ⟨by rw [Hb.out]; rfl, E1⟩
      by_cases d2 : (60 : Int) < kn.length
      · have Hb := Lib.hid (show greatB (qs.map (·.1)) n = true by
          rw [Hg.out, allR_bad hlt (by rw [Hq.out, Knd.great, decide_eq_true (show 60 < kn.length by omega), Bool.or_true]; rfl)]
          rfl)
        go_wp2_with fail
        go_ret
        exact ⟨by rw [Hb.out]; rfl, E1⟩
      have hok : ∀ i, i < j + 1 → (!(kindAt (qs.map (·.1)) i).great) = true := fun i hi => by
        rcases Nat.lt_or_ge i j with h' | h'
        · exact Hj.out i h'
        · obtain rfl : i = j := by omega
          rw [Hq.out, Knd.great, decide_eq_false (show ¬ 30 < kc.length by omega), decide_eq_false (show ¬ 60 < kn.length by omega)]
          rfl
      have Hok := Lib.hid hok
      clear hok
      go_wp2_with fail
      go_roundw
      case rel => exact ⟨j + 1, by omega, by go_num, trivial, Hok⟩
      case measure => simp only [intOf]; omega
    · obtain rfl : qs.length = j := by omega
      have Hb := Lib.hid (show greatB (qs.map (·.1)) n = false by rw [Hg.out, allR_good Hj.out]; rfl)
      go_wp2_with fail
      go_ret
      exact ⟨by rw [Hb.out]; rfl, E1⟩
end Go.Proofs.Ytenigkngmdofiaa

namespace Go.Proofs.Ytenigkngmdofiaa
open Go.RowKit

/-- Of what was there in w, at most the blocks of K have turned in w'. -/
structure Only (K : Nat → Prop) (w w' : World) : Prop where
  os : w'.os = w.os
  tape : w'.tape = w.tape
  output : w'.output = w.output
  size : w.heap.size ≤ w'.heap.size
  block : ∀ k, k < w.heap.size → ¬ K k → w'.heap[k]? = w.heap[k]?
theorem Only.refl (K : Nat → Prop) (w : World) : Only K w w := ⟨rfl, rfl, rfl, Nat.le_refl _, fun _ _ _ => rfl⟩
theorem Only.trans {K K' : Nat → Prop} {a b c : World} (h : Only K a b) (k : Only K' b c) (hk : ∀ i, i < a.heap.size → K' i → K i) : Only K a c :=
  ⟨k.os.trans h.os, k.tape.trans h.tape, k.output.trans h.output, Nat.le_trans h.size k.size, fun i hi hK =>
    (k.block i (Nat.lt_of_lt_of_le hi h.size) (fun e => hK (hk i hi e))).trans (h.block i hi hK)⟩
theorem Only.mono {K K' : Nat → Prop} {a b : World} (h : Only K a b) (hk : ∀ i, i < a.heap.size → K i → K' i) : Only K' a b :=
  ⟨h.os, h.tape, h.output, h.size, fun i hi hK => h.block i hi (fun e => hK (hk i hi e))⟩
theorem Only.of_ext (K : Nat → Prop) {a b : World} (h : Ext a b) : Only K a b := ⟨h.1, h.2, h.3, h.size, fun k hk _ => h.block k hk⟩
theorem Only.ext {K : Nat → Prop} {a b c : World} (h : Only K a b) (k : Ext b c) : Only K a c := h.trans (Only.of_ext (fun _ => False) k) (fun _ _ e => e.elim)
theorem Only.alloc {K : Nat → Prop} {a b : World} (h : Only K a b) (o : Obj) : Only K a (b.alloc o) := h.ext ((Ext.refl b).alloc o)
theorem Only.of_grown {K : Nat → Prop} {a b : World} {row : Option Nat} (h : a.grownBy b row) (hk : ∀ r, row = some r → K r) : Only K a b :=
  ⟨h.os, h.tape, h.output, h.size, fun k hk' hK => h.block k hk' (fun e => hK (hk k e.symm))⟩
theorem Only.grown {K : Nat → Prop} {a b c : World} {row : Option Nat} (h : Only K a b) (g : b.grownBy c row) (hk : ∀ r, row = some r → r < a.heap.size → K r) : Only K a c :=
  h.trans (Only.of_grown (K := fun r => row = some r) g (fun _ e => e)) (fun i hi e => hk i e hi)
theorem Only.setCell {K : Nat → Prop} {a b : World} (h : Only K a b) {p : Addr} (hp : p.block < a.heap.size → K p.block) (u : Value) : Only K a (b.setCell p u) :=
  ⟨h.os, h.tape, h.output, by rw [show (b.setCell p u).heap.size = b.heap.size by simp [World.setCell]]; exact h.size, fun k hk hK => by
    have hne : k ≠ p.block := fun e => hK (by rw [e]; exact hp (by rw [← e]; exact hk))
    rw [Below.heap_setCell _ _ _ _ hne]
    exact h.block k hk hK⟩
theorem Only.below {K : Nat → Prop} {t a b : World} (h0 : Ext t a) (h : Only K a b) (hk : ∀ k, K k → t.heap.size ≤ k) : Ext t b :=
  ⟨h.os.trans h0.1, h.tape.trans h0.2, h.output.trans h0.3, Nat.le_trans h0.size h.size, fun k hk' =>
    (h.block k (Nat.lt_of_lt_of_le hk' h0.size) (fun e => by have := hk k e; omega)).trans (h0.block k hk')⟩
theorem Only.ext_of {K : Nat → Prop} {a b : World} (h : Only K a b) (hk : ∀ k, k < a.heap.size → ¬ K k) : Ext a b :=
  ⟨h.os, h.tape, h.output, h.size, fun k hk' => h.block k hk' (hk k hk')⟩
theorem Blk.only {K : Nat → Prop} {a b : World} {g : Nat} {t : TypeId} {cs : Array Value} (h : Blk a g t cs) (k : Only K a b) (hg : ¬ K g) : Blk b g t cs := (k.block g h.lt hg).trans h
theorem own_only {K : Nat → Prop} {a b : World} {base : Nat} {e : TypeId} {size : Nat} {v : Value} {n : Nat} {xs : List Value} (h : a.ownsRow base e size v n xs) (k : Only K a b) (hv : ∀ r, v.ownBlock = some r → ¬ K r) : b.ownsRow base e size v n xs := by
  obtain ⟨h1, h2⟩ := h
  refine ⟨h1, ?_⟩
  rcases h2 with h2 | ⟨g, cap, cur, hv', hg, hh, r⟩
  · exact Or.inl h2
  · refine Or.inr ⟨g, cap, cur, hv', hg, ?_, r⟩
    rw [k.block g (Array.getElem?_eq_some_iff.1 hh).1 (hv g (by rw [hv']; rfl))]
    exact hh
theorem SliceIs.only {K : Nat → Prop} {a b : World} {A : Option Addr} {n cap sz : Nat} {rows : List (List Value)} (h : SliceIs a A n cap sz rows) (k : Only K a b) (hA : ∀ q, A = some q → ¬ K q.block) : SliceIs b A n cap sz rows := by
  obtain ⟨h1, h2, h3, h4, h5⟩ := h
  refine ⟨h1, h2, h3, h4, fun hn => ?_⟩
  obtain ⟨g, off, rfl, hb, hc⟩ := h5 hn
  refine ⟨g, off, rfl, Nat.lt_of_lt_of_le hb k.size, fun i r hr j u hu => ?_⟩
  have := hc i r hr j u hu
  rw [← this]
  exact World.cell?_of_block (k.block g hb (hA _ rfl))

/-- The row's block is of the row's type. -/
theorem own_typed {w : World} {base : Nat} {e : TypeId} {size : Nat} {v : Value} {n : Nat} {xs : List Value} (h : w.ownsRow base e size v n xs) {r : Nat} (hr : v.ownBlock = some r) : ∃ cs, Blk w r e cs := by
  rcases h.2 with ⟨rfl, _⟩ | ⟨g, cap, cur, rfl, hg, hh, _⟩
  · cases hr
  · cases hr
    exact ⟨cur, hh⟩
theorem Blk.types {w : World} {g : Nat} {t t' : TypeId} {cs cs' : Array Value} (h : Blk w g t cs) (h' : Blk w g t' cs') : t = t' := by
  have := h.symm.trans h'
  cases this
  rfl
/-- A beginning of an owned row is owned. -/
theorem own_prefix {w : World} {base : Nat} {e : TypeId} {size g n m cap : Nat} {xs ys : List Value} (h : w.ownsRow base e size (.slice (some ⟨g, 0, none⟩) (n + m) cap) (n + m) (xs ++ ys)) (hl : xs.length = n * size) :
    w.ownsRow base e size (.slice (some ⟨g, 0, none⟩) n cap) n xs := by
  refine ⟨hl, Or.inr ?_⟩
  rcases h.2 with ⟨h0, _⟩ | ⟨g', cap', cur, hv, hg, hh, h1, h2, h3, h4⟩
  · cases h0
  · cases hv
    refine ⟨g, cap, cur, rfl, hg, hh, by omega, h2, h3, ?_⟩
    have := congrArg (List.take (n * size)) h4
    rw [List.take_take, List.take_left' hl] at this
    rw [← this]
    congr 1
    have : n * size ≤ (n + m) * size := Nat.mul_le_mul_right _ (by omega)
    omega

/-- What became of a row by an append: it is longer in its own block, or it lies in a new one. -/
def Fate (W w' : World) (base : Nat) (e : TypeId) (size : Nat) (v v' : Value) (n : Nat) (xs news : List Value) : Prop :=
  w'.ownsRow base e size v' (n + 1) (xs ++ news) ∧ ∃ g cap, v' = .slice (some ⟨g, 0, none⟩) (n + 1) cap ∧ ((v = .slice (some ⟨g, 0, none⟩) n cap ∧ W.grownBy w' (some g)) ∨ (W.heap.size ≤ g ∧ W.grownBy w' none))
section
variable {P : Program}
theorem run_append_fate (w : World) (base : Nat) (t ty e : TypeId) (i : TypeInfo) (z : Value) (size bytes : Nat) (ht : P.underlying t = some (.slice e)) (hi : P.info? e = some i) (hz : i.zero = some z)
    (hsize : i.size = size) (hby : i.bytes = bytes) (hzs : z.cells.size = size) (hsz : 0 < size)
    (v : Value) (n : Nat) (xs : List Value) (hown : w.ownsRow base e size v n xs)
    (g c : Nat) (news : List Value) (hl : news.length = size) (hnews : ∀ j, w.cell? ⟨g, j, none⟩ = news[j]?) (h1 : ∀ u ∈ news, u.oneCell' = true)
    (h63 : n + 1 ≤ maxLen) (hbytes : (n + 1) * bytes ≤ 140737488355328) (hbase : base ≤ w.heap.size) :
    ∃ v' w', (Builtin.append_ #[t, t] ty #[v, .slice (some ⟨g, 0, none⟩) 1 c]).run P w = .ok v' w' ∧ Fate w w' base e size v v' n xs news := by
  have hl' : news.length = 1 * size := by omega
  have hn' : ∀ j u, news[j]? = some u → w.cell? ((⟨g, 0, none⟩ : Addr).add j) = some u := fun j u hu => by rw [add_zero_addr, hnews j]; exact hu
  obtain ⟨v', w', hr, h2, h3, h4⟩ := run_append_own (P := P) w base t ty e i z size bytes ht hi hz hsize hby hzs hsz v n xs hown ⟨g, 0, none⟩ 1 c news hl' hn' h1 h63 hbytes hbase
  refine ⟨v', w', hr, h2, ?_⟩
  rcases hown.2 with ⟨rfl, rfl⟩ | ⟨b, cap, cur, rfl, hbg, hg, hnc, hcm, hcs, htake⟩
  · have hx : xs = [] := List.eq_nil_of_length_eq_zero (by simpa using hown.1)
    subst hx
    obtain ⟨v2, w2, hr2, h5, h6, _⟩ := run_append_own (P := P) w w.heap.size t ty e i z size bytes ht hi hz hsize hby hzs hsz (.slice none 0 0) 0 [] (World.ownsRow_nil w _ e size) ⟨g, 0, none⟩ 1 c news hl' hn' h1 h63 hbytes (Nat.le_refl _)
    rw [hr] at hr2
    cases hr2
    obtain ⟨b, cap, rfl⟩ := own_form h5 (by omega)
    exact ⟨b, cap, rfl, Or.inr ⟨(h5.lt b rfl).1, h6⟩⟩
  · by_cases hroom : n + 1 ≤ cap
    · have hr2 := run_append_room (P := P) w t ty e i ht hi b n cap cur hg ⟨g, 0, none⟩ 1 c news (by rw [hsize]; exact hl') hn' h1 hroom (by rw [hsize, hl', hcs, ← Nat.add_mul]; exact Nat.mul_le_mul_right _ hroom)
      rw [hr] at hr2
      injection hr2 with e1 e2
      exact ⟨b, cap, e1, Or.inl ⟨rfl, h3⟩⟩
    · have hx : ∀ j u, xs[j]? = some u → w.cell? ((⟨b, 0, none⟩ : Addr).add j) = some u := hown.cells (g := b) rfl
      obtain ⟨v2, w2, hr2, h5, h6⟩ := run_append_arg_grows (P := P) w t ty e i z size bytes ht hi hz hsize hby hzs hsz ⟨b, 0, none⟩ n cap xs hown.1 hx ⟨g, 0, none⟩ 1 c news hl' hn' (by omega) h63 hbytes
      rw [hr] at hr2
      cases hr2
      obtain ⟨b2, cap2, rfl⟩ := own_form h5 (by omega)
      exact ⟨b2, cap2, rfl, Or.inr ⟨(h5.lt b2 rfl).1, h6⟩⟩
/-- The same as a step of a region. -/
theorem step_append_fate {w : World} {ops : Array Oper} {o : Oper} {a : Act} {K : Act → World → Prop} {Q : Exit → Act → World → Prop} {F : Prop} (hgd : o.guard = none) (s x : Operand) (t : TypeId) (ho : o.op = .call { callee := .builtin .append, args := #[s, x], argTypes := #[t, t] })
    (base : Nat) (e : TypeId) (i : TypeInfo) (z : Value) (size bytes : Nat) (ht : P.underlying t = some (.slice e)) (hi : P.info? e = some i) (hz : i.zero = some z)
    (hsize : i.size = size) (hby : i.bytes = bytes) (hzs : z.cells.size = size) (hsz : 0 < size)
    (v : Value) (n : Nat) (xs : List Value) (hs : a.eval s = v) (hown : w.ownsRow base e size v n xs)
    (g c : Nat) (news : List Value) (hx : a.eval x = .slice (some ⟨g, 0, none⟩) 1 c) (hl : news.length = size) (hnews : ∀ j, w.cell? ⟨g, j, none⟩ = news[j]?) (h1 : ∀ u ∈ news, u.oneCell' = true)
    (h63 : n + 1 ≤ maxLen) (hbytes : (n + 1) * bytes ≤ 140737488355328) (hbase : base ≤ w.heap.size)
    (h : ∀ v' w', Fate w w' base e size v v' n xs news → K (a.put o.dst v') w') : if Region.wanted o (yielded ops a.tmps) = true then o.wp P a w K Q else F := by
  rw [if_pos (by simp [Region.wanted, hgd])]
  obtain ⟨v', w', hr, hf⟩ := run_append_fate (P := P) w base t o.type e i z size bytes ht hi hz hsize hby hzs hsz v n xs hown g c news hl hnews h1 h63 hbytes hbase
  unfold Oper.wp execOp
  simp only [ho, resolve, invoke, builtin, Sem.run_bind, Sem.run_pure, Result.andThen_ok, List.map_toArray, List.map_cons, List.map_nil, hs, hx, hr]
  exact h v' w' hf
end
end Go.Proofs.Ytenigkngmdofiaa

namespace Go.Proofs.Ytenigkngmdofiaa
open Go.RowKit

theorem ownApart {w : World} {b b' : Nat} {e e' : TypeId} {sz sz' : Nat} {v v' : Value} {n n' : Nat} {xs xs' : List Value} (h : w.ownsRow b e sz v n xs) (h' : w.ownsRow b' e' sz' v' n' xs') (he : e ≠ e') : v.ownBlock = none ∨ v.ownBlock ≠ v'.ownBlock := by
  rcases h.2 with ⟨rfl, _⟩ | ⟨g, cap, cur, rfl, _, hg, _⟩
  · exact Or.inl rfl
  · right
    rcases h'.2 with ⟨rfl, _⟩ | ⟨g', cap', cur', rfl, _, hg', _⟩
    · intro e1
      cases e1
    · intro e1
      simp only [Value.ownBlock, Option.some.injEq] at e1
      subst e1
      rw [hg] at hg'
      simp only [Option.some.injEq, Obj.cells.injEq] at hg'
      exact he hg'.2.1
theorem ownGrown {w w' : World} {base : Nat} {e : TypeId} {size : Nat} {v : Value} {n : Nat} {xs : List Value} {row : Option Nat} (h : w.ownsRow base e size v n xs) (hg : w.grownBy w' row) (hr : v.ownBlock = none ∨ v.ownBlock ≠ row) :
    w'.ownsRow base e size v n xs :=
  own_only (K := fun k => row = some k) h (Only.of_grown hg fun _ e => e) fun r hr' e => by
    rcases hr with hr | hr
    · rw [hr] at hr'; cases hr'
    · exact hr (hr'.trans e.symm)
theorem ownForm {w : World} {base : Nat} {e : TypeId} {size : Nat} {v : Value} {n : Nat} {xs : List Value} (h : w.ownsRow base e size v n xs) : ∃ A cap, v = .slice A n cap := by
  rcases h.2 with ⟨rfl, rfl⟩ | ⟨g, cap, cur, hv, _⟩
  · exact ⟨none, 0, rfl⟩
  · exact ⟨_, cap, hv⟩
theorem blkGrown {w w' : World} {g : Nat} {t : TypeId} {cs : Array Value} {b : Nat} {e : TypeId} {sz : Nat} {v : Value} {n : Nat} {xs : List Value} (h : Blk w g t cs) (own : w.ownsRow b e sz v n xs) (hg : w.grownBy w' v.ownBlock) (hne : t ≠ e) : Blk w' g t cs := by
  refine h.grown hg fun e1 => ?_
  obtain ⟨cs', h'⟩ := own_typed own e1.symm
  unfold Blk at h h'
  rw [h] at h'
  cases h'
  exact hne rfl
section
variable {P : Program} {w : World} {ops : Array Oper} {o : Oper} {a : Act} {K : Act → World → Prop} {Q : Exit → Act → World → Prop} {F : Prop}
/-- append(s, x...) onto a row of the call's own, as one step of a region. -/
theorem step_append_any (hgd : o.guard = none) (s x : Operand) (t : TypeId) (ho : o.op = .call { callee := .builtin .append, args := #[s, x], argTypes := #[t, t] })
    (base : Nat) (e : TypeId) (i : TypeInfo) (z : Value) (size bytes : Nat) (ht : P.underlying t = some (.slice e)) (hi : P.info? e = some i) (hz : i.zero = some z)
    (hsize : i.size = size) (hby : i.bytes = bytes) (hzs : z.cells.size = size) (hsz : 0 < size)
    (v : Value) (n : Nat) (xs : List Value) (hs : a.eval s = v) (hown : w.ownsRow base e size v n xs)
    (A : Option Addr) (m c : Nat) (rows : List (List Value)) (hx : a.eval x = .slice A m c) (hsrc : SliceIs w A m c size rows) (hnil : A = none → c = 0) (h1 : ∀ u ∈ rows.flatten, u.oneCell' = true)
    (h63 : n + m ≤ maxLen) (hbytes : (n + m) * bytes ≤ 140737488355328) (hbase : base ≤ w.heap.size)
    (h : ∀ v' w', w'.ownsRow base e size v' (n + m) (xs ++ rows.flatten) → w.grownBy w' v.ownBlock → K (a.put o.dst v') w') : if Region.wanted o (yielded ops a.tmps) = true then o.wp P a w K Q else F := by
  rw [if_pos (by simp [Region.wanted, hgd])]
  have hfl : rows.flatten.length = m * size := by rw [rowsF_len hsrc.wide, hsrc.len]
  cases A with
  | none =>
    obtain rfl := hnil rfl
    obtain rfl : m = 0 := by
      have := hsrc.le
      omega
    have e0 : rows.flatten = [] := List.eq_nil_of_length_eq_zero (by rw [hfl, Nat.zero_mul])
    rw [e0, List.append_nil] at h
    have hrun := run_append_owned_none (P := P) (w := w) base t o.type e i size ht hi v n xs hown
    unfold Oper.wp
    simp [execOp, ho, resolve, invoke, builtin, hs, hx, hrun, Result.andThen]
    exact h _ _ hown (World.grownBy.refl _ _)
  | some ad =>
    refine wp_append_own w s x t ho base e i z size bytes ht hi hz hsize hby hzs hsz v n xs hs hown ad m c rows.flatten hx hfl (fun j u hu => ?_) h1 h63 hbytes hbase fun v' w' h2 h3 _ => h v' w' h2 h3
    by_cases hm : 0 < m
    · obtain ⟨b, off, hA, hc⟩ := hsrc.adds hm hsz
      cases hA
      exact hc j u hu
    · obtain rfl : m = 0 := by omega
      have e0 : rows.flatten = [] := List.eq_nil_of_length_eq_zero (by rw [hfl, Nat.zero_mul])
      rw [e0] at hu
      simp at hu
end
end Go.Proofs.Ytenigkngmdofiaa

namespace Go.Proofs.Ytenigkngmdofiaa
open Go.RowKit

theorem infoKind : (Try.prog.info? 39).map (fun i => (i.zero, i.size, i.bytes)) = some (some (.agg #[.slice none 0 0, .slice none 0 0, .int .i64 0]), 3, 56) := by kernel_rfl
theorem knb_one {c : List Knb} : ∀ u ∈ (c.map Knb.cs).flatten, u.oneCell' = true := by
  intro u hu
  rw [List.mem_flatten] at hu
  obtain ⟨r, hr, hu⟩ := hu
  obtain ⟨x, _, rfl⟩ := List.mem_map.1 hr
  unfold Knb.cs at hu
  simp only [List.mem_cons, List.not_mem_nil, or_false] at hu
  rcases hu with rfl | rfl | rfl | rfl | rfl <;> rfl
/-- A slice of the call's own. -/
def OwnV (w : World) (S : Nat) (t : TypeId) (sz : Nat) (v : Value) (n : Nat) (xs : List Value) : Prop := ∃ A c, v = .slice A n c ∧ w.ownsRow S t sz v n xs
/-- What is known in the region that copies a kind's two lists. -/
structure Tw5 (w0 W3 : World) (S g5 n1 n2 : Nat) (A : Option Addr) (ca : Nat) (B : Option Addr) (cb : Nat) (wt : Int) (xs ys : List Value) (L : Nat → Bool) (us : Nat → Value) (w : World) : Prop where
  e : Ext w0 w
  on : Only (fun k => k = g5) W3 w
  f0 : L 0 = true → L 3 = false → w.ownsRow S 23 3 (us 0) 0 []
  f1 : L 1 = true → us 1 = .pointer (some ⟨g5, 0, none⟩)
  f2 : L 2 = true → us 2 = .slice A n1 ca
  f3 : L 3 = true → OwnV w S 23 3 (us 3) n1 xs
  f4 : L 4 = true → L 7 = false → w.ownsRow S 68 5 (us 4) 0 []
  f5 : L 5 = true → us 5 = .pointer (some ⟨g5, 1, none⟩)
  f6 : L 6 = true → us 6 = .slice B n2 cb
  f7 : L 7 = true → OwnV w S 68 5 (us 7) n2 ys
  f8 : L 8 = true → us 8 = .pointer (some ⟨g5, 0, none⟩)
  f10 : L 10 = true → us 10 = .pointer (some ⟨g5, 1, none⟩)
  b0 : L 9 = false → Blk w g5 39 #[.slice A n1 ca, .slice B n2 cb, .int .i64 wt]
  b1 : L 9 = true → L 11 = false → Blk w g5 39 #[us 3, .slice B n2 cb, .int .i64 wt]
  b2 : L 11 = true → Blk w g5 39 #[us 3, us 7, .int .i64 wt]
theorem OwnV.ext {w w' : World} {S : Nat} {t : TypeId} {sz : Nat} {v : Value} {n : Nat} {xs : List Value} (h : OwnV w S t sz v n xs) (E : Ext w w') : OwnV w' S t sz v n xs := by
  obtain ⟨A, c, h1, h2⟩ := h
  exact ⟨A, c, h1, own_ext h2 E⟩
theorem OwnV.grown {w w' : World} {S : Nat} {t : TypeId} {sz : Nat} {v : Value} {n : Nat} {xs : List Value} (h : OwnV w S t sz v n xs) {b : Nat} {e : TypeId} {s : Nat} {v' : Value} {n' : Nat} {xs' : List Value} (own : w.ownsRow b e s v' n' xs') (hg : w.grownBy w' v'.ownBlock) (hne : t ≠ e) : OwnV w' S t sz v n xs := by
  obtain ⟨A, c, h1, h2⟩ := h
  exact ⟨A, c, h1, ownGrown h2 hg (ownApart h2 own hne)⟩
theorem OwnV.far {w : World} {S : Nat} {t : TypeId} {sz : Nat} {v : Value} {n : Nat} {xs : List Value} (h : OwnV w S t sz v n xs) {p : Addr} (hp : p.block < S) (u : Value) : OwnV (w.setCell p u) S t sz v n xs := by
  obtain ⟨A, c, h1, h2⟩ := h
  exact ⟨A, c, h1, own_setCell h2 hp u⟩
/-- A kind whose lists are the call's own. -/
def KOwn (w : World) (T : Nat) (q : Knd × KAt) : Prop := w.ownsRow T 23 3 (.slice q.2.A q.1.cells.length q.2.ca) q.1.cells.length (q.1.cells.map Pt.cs).flatten ∧ w.ownsRow T 68 5 (.slice q.2.B q.1.knobs.length q.2.cb) q.1.knobs.length (q.1.knobs.map Knb.cs).flatten
def TwinPost (qs : List (Knd × KAt)) (n : Nat) (w : World) (e : Ending) (w' : World) : Prop := ∃ (TA : Option Addr) (tc : Nat) (qs' : List (Knd × KAt)), e = .returned (.slice TA n tc) ∧ qs'.map (·.1) = qs.map (·.1) ∧ Kinds w' TA tc qs' ∧ Ext w w'
set_option maxRecDepth 100000 in
set_option maxHeartbeats 8000000 in
theorem twin_c (qs : List (Knd × KAt)) (QA : Option Addr) (qc : Nat) (w : World) (hk : Kinds w QA qc qs) (hql : qs.length ≤ 1000) (hlc : ∀ q ∈ qs, q.1.cells.length ≤ 1000 ∧ q.1.knobs.length ≤ 1000) (hnil : ∀ q ∈ qs, (q.2.A = none → q.2.ca = 0) ∧ (q.2.B = none → q.2.cb = 0)) :
    Calls Try.prog 15 #[.slice QA qs.length qc] w (TwinPost qs qs.length w) := by
  obtain ⟨T, hT⟩ : ∃ T, w.heap.size = T := ⟨_, rfl⟩
  have HT := Lib.hid hT
  clear hT
  obtain ⟨nq, hnq⟩ : ∃ m, qs.length = m := ⟨_, rfl⟩
  rw [hnq] at hql ⊢
  have Hnq := Lib.hid hnq
  clear hnq
  go_enter Try.func15, Try.ntmps15
  go_wp2_with fail
  go_loopw [3, 8] (fun v ii wr => ∃ (j : Nat) (u : Value) (qs' : List (Knd × KAt)), j ≤ nq ∧ ii = .int .i64 j ∧ u = v ∧ Ext w wr ∧ qs'.map (·.1) = (qs.map (·.1)).take j ∧ wr.ownsRow T 39 3 u j (qs'.map fun q => q.1.cs q.2).flatten ∧ (∀ q ∈ qs', KOwn wr T q)) (fun _ ii _ => nq - (intOf ii).toNat)
  case atStart => exact ⟨0, _, [], by omega, rfl, rfl, Ext.refl w, by simp, World.ownsRow_nil _ _ _ _, fun q hq => by cases hq⟩
  case round =>
    obtain ⟨j, v, qs', hj, rfl, rfl, Er, hqs, own, hko⟩ := hrel
    have Hqs := Lib.hid hqs
    have Hko := Lib.hid hko
    clear hqs hko
    by_cases hlt : j < nq
    · obtain ⟨kg, koff, ⟨cells, knobs, wt⟩, ⟨A, ca, B, cb⟩, rfl, hq, -, hkg, d0, d1, d2⟩ := (hk.ext Er).at_ (i := j) (by rw [Hnq.out]; exact hlt)
      have hm := List.mem_of_getElem? hq
      obtain ⟨hcw, hnw⟩ := hk.k _ hm
      obtain ⟨l1, l2⟩ := hlc _ hm
      obtain ⟨z1, z2⟩ := hnil _ hm
      simp only at d0 d1 d2 l1 l2 z1 z2 hcw hnw
      have Hq := Lib.hid hq
      have Z1 := Lib.hid z1
      have Z2 := Lib.hid z2
      obtain ⟨n1, hn1⟩ : ∃ m, cells.length = m := ⟨_, rfl⟩
      obtain ⟨n2, hn2⟩ : ∃ m, knobs.length = m := ⟨_, rfl⟩
      have Hc : SliceIs w A n1 ca 3 (cells.map Pt.cs) := by rw [← hn1]; exact hcw
      have Hn : SliceIs w B n2 cb 5 (knobs.map Knb.cs) := by rw [← hn2]; exact hnw.1
      rw [hn1] at d0 l1
      rw [hn2] at d1 l2
      have Hn1 := Lib.hid hn1
      have Hn2 := Lib.hid hn2
      clear hq hm hcw hnw z1 z2 hn1 hn2
      have j1 : (0 : Int) ≤ j := by omega
      have j2 : (j : Int) < nq := by omega
      obtain ⟨W3, hW3, E3, B3, hz3⟩ := mk_ wr #[.slice A n1 ca, .slice B n2 cb, .int .i64 wt] 39
      clear hz3
      go_upto_region 5 with (fail)
      obtain ⟨g5, hg5⟩ : ∃ g, wr.heap.size = g := ⟨_, rfl⟩
      rw [hg5] at B3 ⊢
      have hgS : g5 < W3.heap.size := B3.lt
      obtain ⟨S, hS⟩ : ∃ S, W3.heap.size = S := ⟨_, rfl⟩
      have HS := Lib.hid hS
      rw [hS] at hgS
      have hTg : T ≤ g5 := by
        have := Er.size
        have := HT.out
        omega
      have E03 := Er.trans E3
      have HE3 := Lib.hid E3
      clear hS hW3 d0 d1 d2 E3
      obtain ⟨iC, hiC, zC0, zC1, zC2⟩ := info_parts infoPt3
      obtain ⟨iK, hiK, zK0, zK1, zK2⟩ := info_parts infoKnb
      refine wp_region_by (Tw5 w W3 S g5 n1 n2 A ca B cb wt (cells.map Pt.cs).flatten (knobs.map Knb.cs).flatten) (by kernel_rfl) (by kernel_rfl) (by kernel_rfl) (fun us => ?_) ⟨?_, ?_, ?_, ?_, ?_, ?_, ?_, ?_, ?_, ?_, ?_, ?_, trivial⟩ ?_
      · exact ⟨E03.drew, (Only.refl _ W3).ext (Ext.refl W3).drew, (nofun), (nofun), (nofun), (nofun), (nofun), (nofun), (nofun), (nofun), (nofun), (nofun), fun _ => B3.drew, (nofun), (nofun)⟩
      · intro L us wx K a ha hp hd hun hI hK
        clear hp
        have hz : S ≤ wx.heap.size := by have := hI.on.size; have := HS.out; omega
        have En := (Ext.refl wx).alloc (.cells #[] 23)
        have own0 := World.ownsRow_made (base := S) (size := 3) (e := 23) wx #[] 0 hz (by unfold maxLen; omega) (by simp)
        replace hd := Lib.hid hd
        simp only [putAll, Act.put, List.setIfInBounds_toArray, List.set_cons_succ, List.set_cons_zero, Nat.reduceAdd] at ha
        subst ha
        simp only [Act.put, List.setIfInBounds_toArray, List.set_cons_succ, List.set_cons_zero] at hK
        go_simp
        refine hK _ _ ?_
        refine ⟨hI.e.trans En, hI.on.ext En, ?_, ?_, ?_, ?_, ?_, ?_, ?_, ?_, ?_, ?_, ?_, ?_, ?_⟩
        all_goals (first | exact fun h h' => own_ext (hI.f0 h h') En | exact hI.f1 | exact hI.f2 | exact fun h => (hI.f3 h).ext En | exact fun h h' => own_ext (hI.f4 h h') En | exact hI.f5 | exact hI.f6 | exact fun h => (hI.f7 h).ext En | exact hI.f8 | exact hI.f10 | exact fun h => (hI.b0 h).ext En | exact fun h h' => (hI.b1 h h').ext En | exact fun h => (hI.b2 h).ext En | exact fun _ _ => own0 | exact fun h => absurd (hd.out 3 0 h (by kernel_rfl)) (by rw [hun]; decide) | exact fun h => absurd (hd.out 7 4 h (by kernel_rfl)) (by rw [hun]; decide) | exact fun h => absurd (hd.out 9 0 h (by kernel_rfl)) (by rw [hun]; decide) | skip)
      · intro L us wx K a ha hp hd hun hI hK
        clear hp
        replace hd := Lib.hid hd
        simp only [putAll, Act.put, List.setIfInBounds_toArray, List.set_cons_succ, List.set_cons_zero, Nat.reduceAdd] at ha
        subst ha
        simp only [Act.put, List.setIfInBounds_toArray, List.set_cons_succ, List.set_cons_zero] at hK
        go_simp
        refine hK _ _ ?_
        refine ⟨?_, ?_, ?_, ?_, ?_, ?_, ?_, ?_, ?_, ?_, ?_, ?_, ?_, ?_, ?_⟩
        all_goals (first | exact hI.e | exact hI.on | exact hI.f0 | exact hI.f1 | exact hI.f2 | exact hI.f3 | exact hI.f4 | exact hI.f5 | exact hI.f6 | exact hI.f7 | exact hI.f8 | exact hI.f10 | exact hI.b0 | exact hI.b1 | exact hI.b2 | exact fun _ => rfl | skip)
      · intro L us wx K a ha hp hd hun hI hK
        have hnot : L 9 = false := by
          cases h : L 9
          · rfl
          · have := hd 9 2 h (by kernel_rfl)
            rw [hun] at this
            cases this
        have bb := (hI.b0 hnot).cell
        have ua := hI.f1 (hp 1 (by kernel_rfl))
        clear hp
        replace hd := Lib.hid hd
        simp only [putAll, Act.put, List.setIfInBounds_toArray, List.set_cons_succ, List.set_cons_zero, Nat.reduceAdd, ua] at ha
        subst ha
        simp only [Act.put, List.setIfInBounds_toArray, List.set_cons_succ, List.set_cons_zero] at hK
        go_simp
        refine hK _ _ ?_
        refine ⟨?_, ?_, ?_, ?_, ?_, ?_, ?_, ?_, ?_, ?_, ?_, ?_, ?_, ?_, ?_⟩
        all_goals (first | exact hI.e | exact hI.on | exact hI.f0 | exact hI.f1 | exact hI.f2 | exact hI.f3 | exact hI.f4 | exact hI.f5 | exact hI.f6 | exact hI.f7 | exact hI.f8 | exact hI.f10 | exact hI.b0 | exact hI.b1 | exact hI.b2 | exact fun _ => rfl | skip)
      · intro L us wx K a ha hp hd hun hI hK
        have hnot : L 9 = false := by
          cases h : L 9
          · rfl
          · have := hd 9 3 h (by kernel_rfl)
            rw [hun] at this
            cases this
        have ub := hI.f2 (hp 2 (by kernel_rfl))
        have own0 := hI.f0 (hp 0 (by kernel_rfl)) hun
        have hsrc := Hc.ext hI.e
        have hz : S ≤ wx.heap.size := by have := hI.on.size; have := HS.out; omega
        have hn9 := Lib.hid hnot
        clear hp hnot
        replace hd := Lib.hid hd
        simp only [putAll, Act.put, List.setIfInBounds_toArray, List.set_cons_succ, List.set_cons_zero, Nat.reduceAdd, ub] at ha
        subst ha
        simp only [Act.put, List.setIfInBounds_toArray, List.set_cons_succ, List.set_cons_zero] at hK
        refine step_append_any rfl (.tmp 12) (.tmp 14) 36 rfl S 23 iC _ 3 24 Try.underlying36 hiC zC0 zC1 zC2 rfl (by decide) (us 0) 0 [] rfl own0 A n1 ca _ rfl hsrc Z1.out pt_one (by unfold maxLen; omega) (by omega) hz ?_
        intro v' w' own' hg
        rw [Nat.zero_add, List.nil_append] at own'
        obtain ⟨A', c', hv'⟩ := ownForm own'
        refine hK _ _ ?_
        refine ⟨hI.e.grown hg (fun r e => ?_), hI.on.grown hg (fun r e hr => ?_), ?_, ?_, ?_, ?_, ?_, ?_, ?_, ?_, ?_, ?_, ?_, ?_, ?_⟩
        · have := (own0.lt r e).1
          have := HT.out
          omega
        · have := (own0.lt r e).1
          have := HS.out
          omega
        all_goals (first | exact hI.f1 | exact hI.f2 | exact hI.f5 | exact hI.f6 | exact hI.f8 | exact hI.f10 | exact fun h h' => ownGrown (hI.f0 h h') hg (ownApart (hI.f0 h h') own0 (by decide)) | exact fun h h' => ownGrown (hI.f4 h h') hg (ownApart (hI.f4 h h') own0 (by decide)) | exact fun h => (hI.f3 h).grown own0 hg (by decide) | exact fun h => (hI.f7 h).grown own0 hg (by decide) | exact fun _ => ⟨A', c', hv', own'⟩ | exact fun h => blkGrown (hI.b0 h) own0 hg (by decide) | exact fun h h' => blkGrown (hI.b1 h h') own0 hg (by decide) | exact fun h => blkGrown (hI.b2 h) own0 hg (by decide) | exact fun _ h => by cases h | exact fun h => absurd (hd.out 9 3 h (by kernel_rfl)) (by rw [hun]; decide) | exact fun h => absurd (hd.out 9 3 (hd.out 11 9 h (by kernel_rfl)) (by kernel_rfl)) (by rw [hun]; decide) | skip)
      · intro L us wx K a ha hp hd hun hI hK
        clear hp
        have hz : S ≤ wx.heap.size := by have := hI.on.size; have := HS.out; omega
        have En := (Ext.refl wx).alloc (.cells #[] 68)
        have own0 := World.ownsRow_made (base := S) (size := 5) (e := 68) wx #[] 0 hz (by unfold maxLen; omega) (by simp)
        replace hd := Lib.hid hd
        simp only [putAll, Act.put, List.setIfInBounds_toArray, List.set_cons_succ, List.set_cons_zero, Nat.reduceAdd] at ha
        subst ha
        simp only [Act.put, List.setIfInBounds_toArray, List.set_cons_succ, List.set_cons_zero] at hK
        go_simp
        refine hK _ _ ?_
        refine ⟨hI.e.trans En, hI.on.ext En, ?_, ?_, ?_, ?_, ?_, ?_, ?_, ?_, ?_, ?_, ?_, ?_, ?_⟩
        all_goals (first | exact fun h h' => own_ext (hI.f0 h h') En | exact hI.f1 | exact hI.f2 | exact fun h => (hI.f3 h).ext En | exact fun h h' => own_ext (hI.f4 h h') En | exact hI.f5 | exact hI.f6 | exact fun h => (hI.f7 h).ext En | exact hI.f8 | exact hI.f10 | exact fun h => (hI.b0 h).ext En | exact fun h h' => (hI.b1 h h').ext En | exact fun h => (hI.b2 h).ext En | exact fun _ _ => own0 | exact fun h => absurd (hd.out 3 0 h (by kernel_rfl)) (by rw [hun]; decide) | exact fun h => absurd (hd.out 7 4 h (by kernel_rfl)) (by rw [hun]; decide) | exact fun h => absurd (hd.out 9 7 h (by kernel_rfl)) (by rw [hun]; decide) | skip)
      · intro L us wx K a ha hp hd hun hI hK
        clear hp
        replace hd := Lib.hid hd
        simp only [putAll, Act.put, List.setIfInBounds_toArray, List.set_cons_succ, List.set_cons_zero, Nat.reduceAdd] at ha
        subst ha
        simp only [Act.put, List.setIfInBounds_toArray, List.set_cons_succ, List.set_cons_zero] at hK
        go_simp
        refine hK _ _ ?_
        refine ⟨?_, ?_, ?_, ?_, ?_, ?_, ?_, ?_, ?_, ?_, ?_, ?_, ?_, ?_, ?_⟩
        all_goals (first | exact hI.e | exact hI.on | exact hI.f0 | exact hI.f1 | exact hI.f2 | exact hI.f3 | exact hI.f4 | exact hI.f5 | exact hI.f6 | exact hI.f7 | exact hI.f8 | exact hI.f10 | exact hI.b0 | exact hI.b1 | exact hI.b2 | exact fun _ => rfl | skip)
      · intro L us wx K a ha hp hd hun hI hK
        have hnot : L 9 = false := by
          cases h : L 9
          · rfl
          · have := hd 9 6 h (by kernel_rfl)
            rw [hun] at this
            cases this
        have bb := (hI.b0 hnot).cell
        have ua := hI.f5 (hp 5 (by kernel_rfl))
        clear hp
        replace hd := Lib.hid hd
        simp only [putAll, Act.put, List.setIfInBounds_toArray, List.set_cons_succ, List.set_cons_zero, Nat.reduceAdd, ua] at ha
        subst ha
        simp only [Act.put, List.setIfInBounds_toArray, List.set_cons_succ, List.set_cons_zero] at hK
        go_simp
        refine hK _ _ ?_
        refine ⟨?_, ?_, ?_, ?_, ?_, ?_, ?_, ?_, ?_, ?_, ?_, ?_, ?_, ?_, ?_⟩
        all_goals (first | exact hI.e | exact hI.on | exact hI.f0 | exact hI.f1 | exact hI.f2 | exact hI.f3 | exact hI.f4 | exact hI.f5 | exact hI.f6 | exact hI.f7 | exact hI.f8 | exact hI.f10 | exact hI.b0 | exact hI.b1 | exact hI.b2 | exact fun _ => rfl | skip)
      · intro L us wx K a ha hp hd hun hI hK
        have hnot : L 9 = false := by
          cases h : L 9
          · rfl
          · have := hd 9 7 h (by kernel_rfl)
            rw [hun] at this
            cases this
        have ub := hI.f6 (hp 6 (by kernel_rfl))
        have own0 := hI.f4 (hp 4 (by kernel_rfl)) hun
        have hsrc := Hn.ext hI.e
        have hz : S ≤ wx.heap.size := by have := hI.on.size; have := HS.out; omega
        have hn9 := Lib.hid hnot
        clear hp hnot
        replace hd := Lib.hid hd
        simp only [putAll, Act.put, List.setIfInBounds_toArray, List.set_cons_succ, List.set_cons_zero, Nat.reduceAdd, ub] at ha
        subst ha
        simp only [Act.put, List.setIfInBounds_toArray, List.set_cons_succ, List.set_cons_zero] at hK
        refine step_append_any rfl (.tmp 16) (.tmp 18) 37 rfl S 68 iK _ 5 32 Try.underlying37 hiK zK0 zK1 zK2 rfl (by decide) (us 4) 0 [] rfl own0 B n2 cb _ rfl hsrc Z2.out knb_one (by unfold maxLen; omega) (by omega) hz ?_
        intro v' w' own' hg
        rw [Nat.zero_add, List.nil_append] at own'
        obtain ⟨A', c', hv'⟩ := ownForm own'
        refine hK _ _ ?_
        refine ⟨hI.e.grown hg (fun r e => ?_), hI.on.grown hg (fun r e hr => ?_), ?_, ?_, ?_, ?_, ?_, ?_, ?_, ?_, ?_, ?_, ?_, ?_, ?_⟩
        · have := (own0.lt r e).1
          have := HT.out
          omega
        · have := (own0.lt r e).1
          have := HS.out
          omega
        all_goals (first | exact hI.f1 | exact hI.f2 | exact hI.f5 | exact hI.f6 | exact hI.f8 | exact hI.f10 | exact fun h h' => ownGrown (hI.f0 h h') hg (ownApart (hI.f0 h h') own0 (by decide)) | exact fun h h' => ownGrown (hI.f4 h h') hg (ownApart (hI.f4 h h') own0 (by decide)) | exact fun h => (hI.f3 h).grown own0 hg (by decide) | exact fun h => (hI.f7 h).grown own0 hg (by decide) | exact fun _ => ⟨A', c', hv', own'⟩ | exact fun h => blkGrown (hI.b0 h) own0 hg (by decide) | exact fun h h' => blkGrown (hI.b1 h h') own0 hg (by decide) | exact fun h => blkGrown (hI.b2 h) own0 hg (by decide) | exact fun _ h => by cases h | exact fun h => absurd (hd.out 9 7 h (by kernel_rfl)) (by rw [hun]; decide) | exact fun h => absurd (hd.out 9 7 (hd.out 11 9 h (by kernel_rfl)) (by kernel_rfl)) (by rw [hun]; decide) | skip)
      · intro L us wx K a ha hp hd hun hI hK
        clear hp
        replace hd := Lib.hid hd
        simp only [putAll, Act.put, List.setIfInBounds_toArray, List.set_cons_succ, List.set_cons_zero, Nat.reduceAdd] at ha
        subst ha
        simp only [Act.put, List.setIfInBounds_toArray, List.set_cons_succ, List.set_cons_zero] at hK
        go_simp
        refine hK _ _ ?_
        refine ⟨?_, ?_, ?_, ?_, ?_, ?_, ?_, ?_, ?_, ?_, ?_, ?_, ?_, ?_, ?_⟩
        all_goals (first | exact hI.e | exact hI.on | exact hI.f0 | exact hI.f1 | exact hI.f2 | exact hI.f3 | exact hI.f4 | exact hI.f5 | exact hI.f6 | exact hI.f7 | exact hI.f8 | exact hI.f10 | exact hI.b0 | exact hI.b1 | exact hI.b2 | exact fun _ => rfl | skip)
      · intro L us wx K a ha hp hd hun hI hK
        have ua := hI.f8 (hp 8 (by kernel_rfl))
        obtain ⟨A', c', ub, own'⟩ := hI.f3 (hp 3 (by kernel_rfl))
        have Bx := hI.b0 hun
        have bB := Bx.cell
        have fB := Bx.frozen
        clear hp
        replace hd := Lib.hid hd
        simp only [putAll, Act.put, List.setIfInBounds_toArray, List.set_cons_succ, List.set_cons_zero, Nat.reduceAdd, ua, ub] at ha
        subst ha
        simp only [Act.put] at hK
        go_simp
        refine hK undef _ ?_
        refine ⟨hI.e.setCell (p := ⟨g5, 0, none⟩) (by have := HT.out; simp only; omega) _, hI.on.setCell (fun _ => rfl) _, ?_, ?_, ?_, ?_, ?_, ?_, ?_, ?_, ?_, ?_, ?_, ?_, ?_⟩
        all_goals (first | exact hI.f1 | exact hI.f2 | exact hI.f5 | exact hI.f6 | exact hI.f8 | exact hI.f10 | exact fun h h' => own_setCell (hI.f0 h h') hgS _ | exact fun h h' => own_setCell (hI.f4 h h') hgS _ | exact fun h => (hI.f3 h).far hgS _ | exact fun h => (hI.f7 h).far hgS _ | exact fun _ _ => by rw [show updF us 9 undef 3 = .slice A' n1 c' from ub]; exact Bx.set_ 0 _ | exact fun h => by cases h | exact fun _ h => by cases h | exact fun h => absurd (hd.out 11 9 h (by kernel_rfl)) (by rw [hun]; decide) | skip)
      · intro L us wx K a ha hp hd hun hI hK
        clear hp
        replace hd := Lib.hid hd
        simp only [putAll, Act.put, List.setIfInBounds_toArray, List.set_cons_succ, List.set_cons_zero, Nat.reduceAdd] at ha
        subst ha
        simp only [Act.put, List.setIfInBounds_toArray, List.set_cons_succ, List.set_cons_zero] at hK
        go_simp
        refine hK _ _ ?_
        refine ⟨?_, ?_, ?_, ?_, ?_, ?_, ?_, ?_, ?_, ?_, ?_, ?_, ?_, ?_, ?_⟩
        all_goals (first | exact hI.e | exact hI.on | exact hI.f0 | exact hI.f1 | exact hI.f2 | exact hI.f3 | exact hI.f4 | exact hI.f5 | exact hI.f6 | exact hI.f7 | exact hI.f8 | exact hI.f10 | exact hI.b0 | exact hI.b1 | exact hI.b2 | exact fun _ => rfl | skip)
      · intro L us wx K a ha hp hd hun hI hK
        have ua := hI.f10 (hp 10 (by kernel_rfl))
        obtain ⟨A', c', ub, own'⟩ := hI.f7 (hp 7 (by kernel_rfl))
        have h9 := hp 9 (by kernel_rfl); have Bx := hI.b1 h9 hun; obtain ⟨A3, c3, u3, own3⟩ := hI.f3 (hd 7 3 (hp 7 (by kernel_rfl)) (by kernel_rfl)); rw [u3] at Bx
        have bB := Bx.cell
        have fB := Bx.frozen
        clear hp
        replace hd := Lib.hid hd
        simp only [putAll, Act.put, List.setIfInBounds_toArray, List.set_cons_succ, List.set_cons_zero, Nat.reduceAdd, ua, ub, u3] at ha
        subst ha
        simp only [Act.put] at hK
        go_simp
        refine hK undef _ ?_
        refine ⟨hI.e.setCell (p := ⟨g5, 1, none⟩) (by have := HT.out; simp only; omega) _, hI.on.setCell (fun _ => rfl) _, ?_, ?_, ?_, ?_, ?_, ?_, ?_, ?_, ?_, ?_, ?_, ?_, ?_⟩
        all_goals (first | exact hI.f1 | exact hI.f2 | exact hI.f5 | exact hI.f6 | exact hI.f8 | exact hI.f10 | exact fun h h' => own_setCell (hI.f0 h h') hgS _ | exact fun h h' => own_setCell (hI.f4 h h') hgS _ | exact fun h => (hI.f3 h).far hgS _ | exact fun h => (hI.f7 h).far hgS _ | exact fun _ => by rw [show updF us 11 undef 3 = .slice A3 n1 c3 from u3, show updF us 11 undef 7 = .slice A' n2 c' from ub]; exact Bx.set_ 1 _ | exact fun h => absurd (show L 9 = false from h) (by rw [h9]; decide) | exact fun h => by cases h | exact fun _ h => by cases h | exact fun h => absurd (hd.out 11 9 h (by kernel_rfl)) (by rw [hun]; decide) | skip)
      intro L us wx hall hI
      obtain ⟨A1, c1, e3, o3⟩ := hI.f3 (hall 3 (by simp))
      obtain ⟨A2, c2, e7, o7⟩ := hI.f7 (hall 7 (by simp))
      have BX := hI.b2 (hall 11 (by simp))
      have EX := hI.e
      have OX := hI.on
      rw [e3, e7] at BX
      rw [e3] at o3
      rw [e7] at o7
      have bx := BX.cell
      simp only [putAll, Act.put, List.setIfInBounds_toArray, List.set_cons_succ, List.set_cons_zero, Nat.reduceAdd]
      clear hall hI e3 e7
      have hSw : W3.heap.size ≤ wx.heap.size := OX.size
      have hjn : j + 1 ≤ maxLen := by unfold maxLen; omega
      have ownx : wx.ownsRow T 39 3 v j (qs'.map fun q => q.1.cs q.2).flatten := own_only (own_ext own HE3.out) OX (fun r hr e => by
        have := (own.lt r hr).2
        omega)
      have hkx : ∀ q ∈ qs', KOwn wx T q := fun q hq => by
        obtain ⟨h1, h2⟩ := Hko.out q hq
        refine ⟨own_only (own_ext h1 HE3.out) OX (fun r hr e => ?_), own_only (own_ext h2 HE3.out) OX (fun r hr e => ?_)⟩
        · have := (h1.lt r hr).2
          omega
        · have := (h2.lt r hr).2
          omega
      have hkn : KOwn wx T (⟨cells, knobs, wt⟩, ⟨A1, c1, A2, c2⟩) := ⟨by rw [Hn1.out]; exact own_base o3 (by omega), by rw [Hn2.out]; exact own_base o7 (by omega)⟩
      have hTx : T ≤ wx.heap.size := by have := HS.out; omega
      have Hkx := Lib.hid hkx
      have Hkn := Lib.hid hkn
      obtain ⟨iD, hi, hz0, hz1, hz2⟩ := info_parts infoKind
      clear hkx hkn OX o3 o7 BX hTg hgS hSw
      go_wp2_with (at_builtin; refine wpList_append_one #[.slice A1 n1 c1, .slice A2 n2 c2, .int .i64 wt] rfl (.tmp 22) (.tmp 24) 40 rfl T 39 39 iD _ 3 56 Try.underlying40 hi hz0 hz1 hz2 rfl (by decide) v j _ _ rfl ownx rfl rfl (by simp [Value.oneCell']) hjn (by omega) hTx ?_; intro g7 cap7 w7 own7 hg7)
      go_roundw
      case rel =>
        have own1 := own_ext ownx ((Ext.refl wx).alloc (.cells #[.slice A1 n1 c1, .slice A2 n2 c2, .int .i64 wt] 39))
        have hkeep : ∀ q, KOwn wx T q → KOwn w7 T q := fun q ⟨h1, h2⟩ => by
          have k1 := own_ext h1 ((Ext.refl wx).alloc (.cells #[.slice A1 n1 c1, .slice A2 n2 c2, .int .i64 wt] 39))
          have k2 := own_ext h2 ((Ext.refl wx).alloc (.cells #[.slice A1 n1 c1, .slice A2 n2 c2, .int .i64 wt] 39))
          exact ⟨ownGrown k1 hg7 (ownApart k1 own1 (by decide)), ownGrown k2 hg7 (ownApart k2 own1 (by decide))⟩
        refine ⟨j + 1, _, qs' ++ [(⟨cells, knobs, wt⟩, ⟨A1, c1, A2, c2⟩)], by omega, by go_num, rfl, (EX.alloc _).grown hg7 (fun r hr => by have := (own1.lt r hr).1; have := HT.out; omega), ?_, ?_, fun q hq => ?_⟩
        · rw [List.map_append, Hqs.out, List.take_add_one, List.getElem?_map, Hq.out]
          rfl
        · rw [List.map_append, List.flatten_append]
          have : (⟨cells, knobs, wt⟩ : Knd).cs ⟨A1, c1, A2, c2⟩ = [.slice A1 n1 c1, .slice A2 n2 c2, .int .i64 wt] := by
            unfold Knd.cs
            rw [Hn1.out, Hn2.out]
          simp only [List.map_cons, List.map_nil, this]
          simpa using own7
        · rcases List.mem_append.1 hq with hq | hq
          · exact hkeep q (Hkx.out q hq)
          · rw [List.mem_singleton.1 hq]
            exact hkeep _ Hkn.out
      case measure => simp only [intOf]; omega
    · obtain rfl : j = nq := by omega
      go_wp2_with fail
      go_ret
      obtain ⟨TA, tc, rfl, h1, -⟩ := own_slice0 (n := j) (rows := qs'.map fun q => q.1.cs q.2) (fun r hr => by obtain ⟨y, -, rfl⟩ := List.mem_map.1 hr; rfl) (by rw [List.length_map]; have := congrArg List.length Hqs.out; rw [List.length_map, List.length_take, List.length_map, Hnq.out] at this; omega) own
      have hlen : qs'.length = j := by have := h1.len; rwa [List.length_map] at this
      refine ⟨TA, tc, qs', rfl, by rw [Hqs.out, List.take_of_length_le (by rw [List.length_map, Hnq.out]; omega)], ⟨by rw [hlen]; exact h1, fun q hq => ?_⟩, Er⟩
      obtain ⟨k1, k2⟩ := Hko.out q hq
      obtain ⟨_, _, e1, s1, -⟩ := own_slice0 (n := q.1.cells.length) (rows := q.1.cells.map Pt.cs) (fun r hr => by obtain ⟨y, -, rfl⟩ := List.mem_map.1 hr; rfl) (by rw [List.length_map]) k1
      obtain ⟨_, _, e2, s2, -⟩ := own_slice0 (n := q.1.knobs.length) (rows := q.1.knobs.map Knb.cs) (fun r hr => by obtain ⟨y, -, rfl⟩ := List.mem_map.1 hr; rfl) (by rw [List.length_map]) k2
      cases e1
      cases e2
      refine ⟨s1, s2, fun x hx => ?_⟩
      have hm : q.1 ∈ (qs.map (·.1)).take j := by rw [← Hqs.out]; exact List.mem_map.2 ⟨q, hq, rfl⟩
      obtain ⟨q0, hq0, e0⟩ := List.mem_map.1 (List.mem_of_mem_take hm)
      exact (hk.k q0 hq0).n.2 x (by rw [e0]; exact hx)
end Go.Proofs.Ytenigkngmdofiaa

namespace Go.Proofs.Ytenigkngmdofiaa
open Go.RowKit

theorem eqC_self (l : List Pt) : eqC l l = true := eqC_iff.2 rfl
theorem knb_same (x : Knb) (w : World) : (binOp .neq 68 (.agg #[.int .i64 x.at_.x, .int .i64 x.at_.y, .int .i64 x.at_.z, .int .u8 x.dir, .int .u8 x.sort]) (.agg #[.int .i64 x.at_.x, .int .i64 x.at_.y, .int .i64 x.at_.z, .int .u8 x.dir, .int .u8 x.sort])).run Try.prog w = .ok (.bool false) w := by
  rw [knb_neq]
  rw [show Knb.eqB _ _ = true from Knb.eqB_iff.2 rfl]
  rfl
set_option maxRecDepth 100000 in
set_option maxHeartbeats 8000000 in
theorem same_c (qs qs' : List (Knd × KAt)) (A B : Option Addr) (ca cb : Nat) (w : World) (ha : Kinds w A ca qs) (hb : Kinds w B cb qs') (he : qs.map (·.1) = qs'.map (·.1)) :
    Calls Try.prog 30 #[.slice A qs.length ca, .slice B qs.length cb] w fun e w' => e = .returned (.bool true) ∧ Ext w w' := by
  have hl1 : qs.length ≤ 9223372036854775807 := by have := ha.len; unfold maxLen at this; omega
  have hll : qs'.length = qs.length := by have := congrArg List.length he; simpa using this.symm
  obtain ⟨n, hn⟩ : ∃ n, qs.length = n := ⟨_, rfl⟩
  rw [hn] at hl1 hll ⊢
  have Hn := Lib.hid hn
  have Hll := Lib.hid hll
  have He := Lib.hid he
  clear hn hll he
  go_enter Try.func30, Try.ntmps30
  go_wp2_with fail
  go_loopw [14] (fun i wr => ∃ j : Nat, j ≤ n ∧ i = .int .i64 j ∧ Ext w wr) (fun i _ => n - (intOf i).toNat)
  case atStart => exact ⟨0, by omega, rfl, Ext.refl w⟩
  case round =>
    obtain ⟨j, hj, rfl, E⟩ := hrel
    by_cases hlt : j < n
    · obtain ⟨g, off, ⟨cells, knobs, wt⟩, ⟨A1, c1, B1, d1⟩, rfl, hq, ⟨hc1, hn1⟩, hg, x0, x1, x2⟩ := (ha.ext E).at_ (i := j) (by rw [Hn.out]; exact hlt)
      obtain ⟨g', off', k', ⟨A2, c2, B2, d2⟩, rfl, hq', ⟨hc2, hn2⟩, hg', y0, y1, y2⟩ := (hb.ext E).at_ (i := j) (by rw [Hll.out]; exact hlt)
      have hkk : k' = ⟨cells, knobs, wt⟩ := by
        have h := congrArg (fun l => l[j]?) He.out
        simp only [List.getElem?_map, hq, hq', Option.map_some, Option.some.injEq] at h
        exact h.symm
      subst hkk
      simp only at x0 x1 x2 y0 y1 y2 hc1 hc2 hn1 hn2
      have hkl := hn1.len
      unfold maxLen at hkl
      have SC := Lib.hid (fun x => rSameCells_c A1 A2 c1 c2 cells cells (grow wr x) (hc1.ext ((Ext.refl wr).grow x)) (hc2.ext ((Ext.refl wr).grow x)))
      obtain ⟨n1, hn1'⟩ : ∃ m, cells.length = m := ⟨_, rfl⟩
      obtain ⟨n2, hn2'⟩ : ∃ m, knobs.length = m := ⟨_, rfl⟩
      rw [hn1', eqC_self] at SC
      rw [hn1'] at x0 y0
      rw [hn2'] at x1 y1 hkl
      have Hn2 := Lib.hid hn2'
      have HK1 := Lib.hid hn1
      have HK2 := Lib.hid hn2
      clear hq hq' hc1 hc2 hn1 hn2 hn1' hn2'
      have i1 : (0 : Int) ≤ j := by omega
      have i2 : (j : Int) < n := by omega
      go_upto_region 6 with (fail)
      refine wp_region_grow (by kernel_rfl) (by kernel_rfl) ?_
      repeat (go_big_quiet_step ((go_at_call 25; exact quiet_ext (SC.out _))))
      refine wpQuiet_nil ?_
      intro W3 hW3
      have E3 : Ext wr W3 := by
        obtain ⟨x, rfl⟩ := hW3
        exact (Ext.refl _).grow x
      clear hW3
      obtain ⟨hcW3, hfW3, hzW3⟩ := ext_facts E3
      replace E := E.trans E3
      have x1' := E3.cell x1
      have y1' := E3.cell y1
      clear hcW3 hfW3 hzW3 x0 x1 x2 y0 y1 y2
      go_wp2_with fail
      go_loopw [63] (fun i wr => ∃ k : Nat, k ≤ n2 ∧ i = .int .i64 k ∧ Ext W3 wr) (fun i _ => n2 - (intOf i).toNat)
      case atStart => exact ⟨0, by omega, rfl, Ext.refl W3⟩
      case round =>
        obtain ⟨k, hk, rfl, EK⟩ := hrel
        have x1r := EK.cell x1'
        have y1r := EK.cell y1'
        by_cases hkt : k < n2
        · obtain ⟨b, boff, p, rfl, hp, -, hgb, p0, p1, p2, p3, p4⟩ := (HK1.out.ext (E3.trans EK)).at_ (k := k) (by rw [Hn2.out]; exact hkt)
          obtain ⟨b', boff', p', rfl, hp', -, hgb', q0, q1, q2, q3, q4⟩ := (HK2.out.ext (E3.trans EK)).at_ (k := k) (by rw [Hn2.out]; exact hkt)
          rw [hp] at hp'
          cases hp'
          have hneq := knb_same p
          have k1 : (0 : Int) ≤ k := by omega
          have k2 : (k : Int) < n2 := by omega
          clear hp x1' y1'
          go_upto_region 11 with (fail)
          refine wp_region_grow (by kernel_rfl) (by kernel_rfl) ?_
          repeat (go_big_quiet_step (fail))
          refine wpQuiet_nil ?_
          intro W4 hW4
          have E4 : Ext wr W4 := by
            obtain ⟨x, rfl⟩ := hW4
            exact (Ext.refl _).grow x
          clear hW4
          obtain ⟨hcW4, hfW4, hzW4⟩ := ext_facts E4
          replace EK := EK.trans E4
          clear hcW4 hfW4 hzW4 p0 p1 p2 p3 p4 q0 q1 q2 q3 q4 x1r y1r
          go_wp2_with fail
          go_roundw
          case rel => exact ⟨k + 1, by omega, by go_num, EK⟩
          case measure => simp only [intOf]; omega
        · obtain rfl : k = n2 := by omega
          go_wp2_with fail
          go_roundw
          case rel => exact ⟨j + 1, by omega, by go_num, E.trans EK⟩
          case measure => simp only [intOf]; omega
    · obtain rfl : j = n := by omega
      go_wp2_with fail
      go_ret
      exact ⟨rfl, E⟩
end Go.Proofs.Ytenigkngmdofiaa
