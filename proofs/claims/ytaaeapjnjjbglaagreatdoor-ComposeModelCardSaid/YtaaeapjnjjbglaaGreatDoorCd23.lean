/- Worlds in which some blocks have turned; append of one element, and whether it grew. Rows of the call's own beside each other; append of a whole slice, whatever its source. -/
import Derived.Test.YtaaeapjnjjbglaaGreatDoorCd1
import Derived.Test.YtaaeapjnjjbglaaGreatDoorCd4
import Derived.Test.YtaaeapjnjjbglaaGreatDoorCd15
import Derived.Laws.AppendOwnNone

namespace Go.Proofs.YtaaeapjnjjbglaaGreatDoor
open Go.RowKit

/-- Of what was there in w, at most the blocks of K have turned in w'. -/
structure Only (K : Nat → Prop) (w w' : World) : Prop where
  os : w'.os = w.os
  tape : w'.tape = w.tape
  output : w'.output = w.output
  size : w.heap.size ≤ w'.heap.size
  block : ∀ k, k < w.heap.size → ¬ K k → w'.heap[k]? = w.heap[k]?
theorem Only.refl (K : Nat → Prop) (w : World) : Only K w w := ⟨rfl, rfl, rfl, Nat.le_refl _, fun _ _ _ => rfl⟩
theorem Only.trans {K K' : Nat → Prop} {a b c : World} (h : Only K a b) (k : Only K' b c) (hk : ∀ i, i < a.heap.size → K' i → K i) : Only K a c :=
  ⟨k.os.trans h.os, k.tape.trans h.tape, k.output.trans h.output, Nat.le_trans h.size k.size, fun i hi hK =>
    (k.block i (Nat.lt_of_lt_of_le hi h.size) (fun e => hK (hk i hi e))).trans (h.block i hi hK)⟩
theorem Only.mono {K K' : Nat → Prop} {a b : World} (h : Only K a b) (hk : ∀ i, i < a.heap.size → K i → K' i) : Only K' a b :=
  ⟨h.os, h.tape, h.output, h.size, fun i hi hK => h.block i hi (fun e => hK (hk i hi e))⟩
theorem Only.of_ext (K : Nat → Prop) {a b : World} (h : Ext a b) : Only K a b := ⟨h.1, h.2, h.3, h.size, fun k hk _ => h.block k hk⟩
theorem Only.ext {K : Nat → Prop} {a b c : World} (h : Only K a b) (k : Ext b c) : Only K a c := h.trans (Only.of_ext (fun _ => False) k) (fun _ _ e => e.elim)
theorem Only.alloc {K : Nat → Prop} {a b : World} (h : Only K a b) (o : Obj) : Only K a (b.alloc o) := h.ext ((Ext.refl b).alloc o)
theorem Only.of_grown {K : Nat → Prop} {a b : World} {row : Option Nat} (h : a.grownBy b row) (hk : ∀ r, row = some r → K r) : Only K a b :=
  ⟨h.os, h.tape, h.output, h.size, fun k hk' hK => h.block k hk' (fun e => hK (hk k e.symm))⟩
theorem Only.grown {K : Nat → Prop} {a b c : World} {row : Option Nat} (h : Only K a b) (g : b.grownBy c row) (hk : ∀ r, row = some r → r < a.heap.size → K r) : Only K a c :=
  h.trans (Only.of_grown (K := fun r => row = some r) g (fun _ e => e)) (fun i hi e => hk i e hi)
theorem Only.setCell {K : Nat → Prop} {a b : World} (h : Only K a b) {p : Addr} (hp : p.block < a.heap.size → K p.block) (u : Value) : Only K a (b.setCell p u) :=
  ⟨h.os, h.tape, h.output, by rw [show (b.setCell p u).heap.size = b.heap.size by simp [World.setCell]]; exact h.size, fun k hk hK => by
    have hne : k ≠ p.block := fun e => hK (by rw [e]; exact hp (by rw [← e]; exact hk))
    rw [Below.heap_setCell _ _ _ _ hne]
    exact h.block k hk hK⟩
theorem Only.below {K : Nat → Prop} {t a b : World} (h0 : Ext t a) (h : Only K a b) (hk : ∀ k, K k → t.heap.size ≤ k) : Ext t b :=
  ⟨h.os.trans h0.1, h.tape.trans h0.2, h.output.trans h0.3, Nat.le_trans h0.size h.size, fun k hk' =>
    (h.block k (Nat.lt_of_lt_of_le hk' h0.size) (fun e => by have := hk k e; omega)).trans (h0.block k hk')⟩
theorem Only.ext_of {K : Nat → Prop} {a b : World} (h : Only K a b) (hk : ∀ k, k < a.heap.size → ¬ K k) : Ext a b :=
  ⟨h.os, h.tape, h.output, h.size, fun k hk' => h.block k hk' (hk k hk')⟩
theorem Blk.only {K : Nat → Prop} {a b : World} {g : Nat} {t : TypeId} {cs : Array Value} (h : Blk a g t cs) (k : Only K a b) (hg : ¬ K g) : Blk b g t cs := (k.block g h.lt hg).trans h
theorem own_only {K : Nat → Prop} {a b : World} {base : Nat} {e : TypeId} {size : Nat} {v : Value} {n : Nat} {xs : List Value} (h : a.ownsRow base e size v n xs) (k : Only K a b) (hv : ∀ r, v.ownBlock = some r → ¬ K r) : b.ownsRow base e size v n xs := by
  obtain ⟨h1, h2⟩ := h
  refine ⟨h1, ?_⟩
  rcases h2 with h2 | ⟨g, cap, cur, hv', hg, hh, r⟩
  · exact Or.inl h2
  · refine Or.inr ⟨g, cap, cur, hv', hg, ?_, r⟩
    rw [k.block g (Array.getElem?_eq_some_iff.1 hh).1 (hv g (by rw [hv']; rfl))]
    exact hh
theorem SliceIs.only {K : Nat → Prop} {a b : World} {A : Option Addr} {n cap sz : Nat} {rows : List (List Value)} (h : SliceIs a A n cap sz rows) (k : Only K a b) (hA : ∀ q, A = some q → ¬ K q.block) : SliceIs b A n cap sz rows := by
  obtain ⟨h1, h2, h3, h4, h5⟩ := h
  refine ⟨h1, h2, h3, h4, fun hn => ?_⟩
  obtain ⟨g, off, rfl, hb, hc⟩ := h5 hn
  refine ⟨g, off, rfl, Nat.lt_of_lt_of_le hb k.size, fun i r hr j u hu => ?_⟩
  have := hc i r hr j u hu
  rw [← this]
  exact World.cell?_of_block (k.block g hb (hA _ rfl))

/-- The row's block is of the row's type. -/
theorem own_typed {w : World} {base : Nat} {e : TypeId} {size : Nat} {v : Value} {n : Nat} {xs : List Value} (h : w.ownsRow base e size v n xs) {r : Nat} (hr : v.ownBlock = some r) : ∃ cs, Blk w r e cs := by
  rcases h.2 with ⟨rfl, _⟩ | ⟨g, cap, cur, rfl, hg, hh, _⟩
  · cases hr
  · cases hr
    exact ⟨cur, hh⟩
theorem Blk.types {w : World} {g : Nat} {t t' : TypeId} {cs cs' : Array Value} (h : Blk w g t cs) (h' : Blk w g t' cs') : t = t' := by
  have := h.symm.trans h'
  cases this
  rfl
/-- A beginning of an owned row is owned. -/
theorem own_prefix {w : World} {base : Nat} {e : TypeId} {size g n m cap : Nat} {xs ys : List Value} (h : w.ownsRow base e size (.slice (some ⟨g, 0, none⟩) (n + m) cap) (n + m) (xs ++ ys)) (hl : xs.length = n * size) :
    w.ownsRow base e size (.slice (some ⟨g, 0, none⟩) n cap) n xs := by
  refine ⟨hl, Or.inr ?_⟩
  rcases h.2 with ⟨h0, _⟩ | ⟨g', cap', cur, hv, hg, hh, h1, h2, h3, h4⟩
  · cases h0
  · cases hv
    refine ⟨g, cap, cur, rfl, hg, hh, by omega, h2, h3, ?_⟩
    have := congrArg (List.take (n * size)) h4
    rw [List.take_take, List.take_left' hl] at this
    rw [← this]
    congr 1
    have : n * size ≤ (n + m) * size := Nat.mul_le_mul_right _ (by omega)
    omega

/-- What became of a row by an append: it is longer in its own block, or it lies in a new one. -/
def Fate (W w' : World) (base : Nat) (e : TypeId) (size : Nat) (v v' : Value) (n : Nat) (xs news : List Value) : Prop :=
  w'.ownsRow base e size v' (n + 1) (xs ++ news) ∧ ∃ g cap, v' = .slice (some ⟨g, 0, none⟩) (n + 1) cap ∧ ((v = .slice (some ⟨g, 0, none⟩) n cap ∧ W.grownBy w' (some g)) ∨ (W.heap.size ≤ g ∧ W.grownBy w' none))
section
variable {P : Program}
theorem run_append_fate (w : World) (base : Nat) (t ty e : TypeId) (i : TypeInfo) (z : Value) (size bytes : Nat) (ht : P.underlying t = some (.slice e)) (hi : P.info? e = some i) (hz : i.zero = some z)
    (hsize : i.size = size) (hby : i.bytes = bytes) (hzs : z.cells.size = size) (hsz : 0 < size)
    (v : Value) (n : Nat) (xs : List Value) (hown : w.ownsRow base e size v n xs)
    (g c : Nat) (news : List Value) (hl : news.length = size) (hnews : ∀ j, w.cell? ⟨g, j, none⟩ = news[j]?) (h1 : ∀ u ∈ news, u.oneCell' = true)
    (h63 : n + 1 ≤ maxLen) (hbytes : (n + 1) * bytes ≤ 140737488355328) (hbase : base ≤ w.heap.size) :
    ∃ v' w', (Builtin.append_ #[t, t] ty #[v, .slice (some ⟨g, 0, none⟩) 1 c]).run P w = .ok v' w' ∧ Fate w w' base e size v v' n xs news := by
  have hl' : news.length = 1 * size := by omega
  have hn' : ∀ j u, news[j]? = some u → w.cell? ((⟨g, 0, none⟩ : Addr).add j) = some u := fun j u hu => by rw [add_zero_addr, hnews j]; exact hu
  obtain ⟨v', w', hr, h2, h3, h4⟩ := run_append_own (P := P) w base t ty e i z size bytes ht hi hz hsize hby hzs hsz v n xs hown ⟨g, 0, none⟩ 1 c news hl' hn' h1 h63 hbytes hbase
  refine ⟨v', w', hr, h2, ?_⟩
  rcases hown.2 with ⟨rfl, rfl⟩ | ⟨b, cap, cur, rfl, hbg, hg, hnc, hcm, hcs, htake⟩
  · have hx : xs = [] := List.eq_nil_of_length_eq_zero (by simpa using hown.1)
    subst hx
    obtain ⟨v2, w2, hr2, h5, h6, _⟩ := run_append_own (P := P) w w.heap.size t ty e i z size bytes ht hi hz hsize hby hzs hsz (.slice none 0 0) 0 [] (World.ownsRow_nil w _ e size) ⟨g, 0, none⟩ 1 c news hl' hn' h1 h63 hbytes (Nat.le_refl _)
    rw [hr] at hr2
    cases hr2
    obtain ⟨b, cap, rfl⟩ := own_form h5 (by omega)
    exact ⟨b, cap, rfl, Or.inr ⟨(h5.lt b rfl).1, h6⟩⟩
  · by_cases hroom : n + 1 ≤ cap
    · have hr2 := run_append_room (P := P) w t ty e i ht hi b n cap cur hg ⟨g, 0, none⟩ 1 c news (by rw [hsize]; exact hl') hn' h1 hroom (by rw [hsize, hl', hcs, ← Nat.add_mul]; exact Nat.mul_le_mul_right _ hroom)
      rw [hr] at hr2
      injection hr2 with e1 e2
      exact ⟨b, cap, e1, Or.inl ⟨rfl, h3⟩⟩
    · have hx : ∀ j u, xs[j]? = some u → w.cell? ((⟨b, 0, none⟩ : Addr).add j) = some u := hown.cells (g := b) rfl
      obtain ⟨v2, w2, hr2, h5, h6⟩ := run_append_arg_grows (P := P) w t ty e i z size bytes ht hi hz hsize hby hzs hsz ⟨b, 0, none⟩ n cap xs hown.1 hx ⟨g, 0, none⟩ 1 c news hl' hn' (by omega) h63 hbytes
      rw [hr] at hr2
      cases hr2
      obtain ⟨b2, cap2, rfl⟩ := own_form h5 (by omega)
      exact ⟨b2, cap2, rfl, Or.inr ⟨(h5.lt b2 rfl).1, h6⟩⟩
/-- The same as a step of a region. -/
theorem step_append_fate {w : World} {ops : Array Oper} {o : Oper} {a : Act} {K : Act → World → Prop} {Q : Exit → Act → World → Prop} {F : Prop} (hgd : o.guard = none) (s x : Operand) (t : TypeId) (ho : o.op = .call { callee := .builtin .append, args := #[s, x], argTypes := #[t, t] })
    (base : Nat) (e : TypeId) (i : TypeInfo) (z : Value) (size bytes : Nat) (ht : P.underlying t = some (.slice e)) (hi : P.info? e = some i) (hz : i.zero = some z)
    (hsize : i.size = size) (hby : i.bytes = bytes) (hzs : z.cells.size = size) (hsz : 0 < size)
    (v : Value) (n : Nat) (xs : List Value) (hs : a.eval s = v) (hown : w.ownsRow base e size v n xs)
    (g c : Nat) (news : List Value) (hx : a.eval x = .slice (some ⟨g, 0, none⟩) 1 c) (hl : news.length = size) (hnews : ∀ j, w.cell? ⟨g, j, none⟩ = news[j]?) (h1 : ∀ u ∈ news, u.oneCell' = true)
    (h63 : n + 1 ≤ maxLen) (hbytes : (n + 1) * bytes ≤ 140737488355328) (hbase : base ≤ w.heap.size)
    (h : ∀ v' w', Fate w w' base e size v v' n xs news → K (a.put o.dst v') w') : if Region.wanted o (yielded ops a.tmps) = true then o.wp P a w K Q else F := by
  rw [if_pos (by simp [Region.wanted, hgd])]
  obtain ⟨v', w', hr, hf⟩ := run_append_fate (P := P) w base t o.type e i z size bytes ht hi hz hsize hby hzs hsz v n xs hown g c news hl hnews h1 h63 hbytes hbase
  unfold Oper.wp execOp
  simp only [ho, resolve, invoke, builtin, Sem.run_bind, Sem.run_pure, Result.andThen_ok, List.map_toArray, List.map_cons, List.map_nil, hs, hx, hr]
  exact h v' w' hf
end
end Go.Proofs.YtaaeapjnjjbglaaGreatDoor

namespace Go.Proofs.YtaaeapjnjjbglaaGreatDoor
open Go.RowKit

theorem ownApart {w : World} {b b' : Nat} {e e' : TypeId} {sz sz' : Nat} {v v' : Value} {n n' : Nat} {xs xs' : List Value} (h : w.ownsRow b e sz v n xs) (h' : w.ownsRow b' e' sz' v' n' xs') (he : e ≠ e') : v.ownBlock = none ∨ v.ownBlock ≠ v'.ownBlock := by
  rcases h.2 with ⟨rfl, _⟩ | ⟨g, cap, cur, rfl, _, hg, _⟩
  · exact Or.inl rfl
  · right
    rcases h'.2 with ⟨rfl, _⟩ | ⟨g', cap', cur', rfl, _, hg', _⟩
    · intro e1
      cases e1
    · intro e1
      simp only [Value.ownBlock, Option.some.injEq] at e1
      subst e1
      rw [hg] at hg'
      simp only [Option.some.injEq, Obj.cells.injEq] at hg'
      exact he hg'.2.1
theorem ownGrown {w w' : World} {base : Nat} {e : TypeId} {size : Nat} {v : Value} {n : Nat} {xs : List Value} {row : Option Nat} (h : w.ownsRow base e size v n xs) (hg : w.grownBy w' row) (hr : v.ownBlock = none ∨ v.ownBlock ≠ row) :
    w'.ownsRow base e size v n xs :=
  own_only (K := fun k => row = some k) h (Only.of_grown hg fun _ e => e) fun r hr' e => by
    rcases hr with hr | hr
    · rw [hr] at hr'; cases hr'
    · exact hr (hr'.trans e.symm)
theorem ownForm {w : World} {base : Nat} {e : TypeId} {size : Nat} {v : Value} {n : Nat} {xs : List Value} (h : w.ownsRow base e size v n xs) : ∃ A cap, v = .slice A n cap := by
  rcases h.2 with ⟨rfl, rfl⟩ | ⟨g, cap, cur, hv, _⟩
  · exact ⟨none, 0, rfl⟩
  · exact ⟨_, cap, hv⟩
theorem blkGrown {w w' : World} {g : Nat} {t : TypeId} {cs : Array Value} {b : Nat} {e : TypeId} {sz : Nat} {v : Value} {n : Nat} {xs : List Value} (h : Blk w g t cs) (own : w.ownsRow b e sz v n xs) (hg : w.grownBy w' v.ownBlock) (hne : t ≠ e) : Blk w' g t cs := by
  refine h.grown hg fun e1 => ?_
  obtain ⟨cs', h'⟩ := own_typed own e1.symm
  unfold Blk at h h'
  rw [h] at h'
  cases h'
  exact hne rfl
section
variable {P : Program} {w : World} {ops : Array Oper} {o : Oper} {a : Act} {K : Act → World → Prop} {Q : Exit → Act → World → Prop} {F : Prop}
/-- append(s, x...) onto a row of the call's own, as one step of a region. -/
theorem step_append_any (hgd : o.guard = none) (s x : Operand) (t : TypeId) (ho : o.op = .call { callee := .builtin .append, args := #[s, x], argTypes := #[t, t] })
    (base : Nat) (e : TypeId) (i : TypeInfo) (z : Value) (size bytes : Nat) (ht : P.underlying t = some (.slice e)) (hi : P.info? e = some i) (hz : i.zero = some z)
    (hsize : i.size = size) (hby : i.bytes = bytes) (hzs : z.cells.size = size) (hsz : 0 < size)
    (v : Value) (n : Nat) (xs : List Value) (hs : a.eval s = v) (hown : w.ownsRow base e size v n xs)
    (A : Option Addr) (m c : Nat) (rows : List (List Value)) (hx : a.eval x = .slice A m c) (hsrc : SliceIs w A m c size rows) (hnil : A = none → c = 0) (h1 : ∀ u ∈ rows.flatten, u.oneCell' = true)
    (h63 : n + m ≤ maxLen) (hbytes : (n + m) * bytes ≤ 140737488355328) (hbase : base ≤ w.heap.size)
    (h : ∀ v' w', w'.ownsRow base e size v' (n + m) (xs ++ rows.flatten) → w.grownBy w' v.ownBlock → K (a.put o.dst v') w') : if Region.wanted o (yielded ops a.tmps) = true then o.wp P a w K Q else F := by
  rw [if_pos (by simp [Region.wanted, hgd])]
  have hfl : rows.flatten.length = m * size := by rw [rowsF_len hsrc.wide, hsrc.len]
  cases A with
  | none =>
    obtain rfl := hnil rfl
    obtain rfl : m = 0 := by
      have := hsrc.le
      omega
    have e0 : rows.flatten = [] := List.eq_nil_of_length_eq_zero (by rw [hfl, Nat.zero_mul])
    rw [e0, List.append_nil] at h
    have hrun := run_append_owned_none (P := P) (w := w) base t o.type e i size ht hi v n xs hown
    unfold Oper.wp
    simp [execOp, ho, resolve, invoke, builtin, hs, hx, hrun, Result.andThen]
    exact h _ _ hown (World.grownBy.refl _ _)
  | some ad =>
    refine wp_append_own w s x t ho base e i z size bytes ht hi hz hsize hby hzs hsz v n xs hs hown ad m c rows.flatten hx hfl (fun j u hu => ?_) h1 h63 hbytes hbase fun v' w' h2 h3 _ => h v' w' h2 h3
    by_cases hm : 0 < m
    · obtain ⟨b, off, hA, hc⟩ := hsrc.adds hm hsz
      cases hA
      exact hc j u hu
    · obtain rfl : m = 0 := by omega
      have e0 : rows.flatten = [] := List.eq_nil_of_length_eq_zero (by rw [hfl, Nat.zero_mul])
      rw [e0] at hu
      simp at hu
end
end Go.Proofs.YtaaeapjnjjbglaaGreatDoor
