/- What a search stands on: its boxes, what is left of the plates, what its two functions say. cells: the iterator over the bits of a set. -/
import Derived.Test.YtaaeapjnjjbglaaGreatDoorCd23
import Derived.Test.YtaaeapjnjjbglaaGreatDoorCd33
import Derived.Test.YtaaeapjnjjbglaaGreatDoorCd34

namespace Go.Proofs.YtaaeapjnjjbglaaGreatDoor
open Go.RowKit

/-- The boxes of a search: of the function 'long', the board, the function 'see', what is left, the slice of that, the search itself. -/
structure Spots where
  L : Nat
  Bd : Nat
  Se : Nat
  La : Nat
  Lf : Nat
  Gr : Nat
def Spots.has (k : Spots) (r : Nat) : Prop := r = k.L ∨ r = k.Bd ∨ r = k.Se ∨ r = k.La ∨ r = k.Lf ∨ r = k.Gr
def growV (k : Spots) : Value := .func (.func 64) #[] #[.pointer (some ⟨k.L, 0, none⟩), .pointer (some ⟨k.Bd, 0, none⟩), .pointer (some ⟨k.Se, 0, none⟩), .pointer (some ⟨k.Lf, 0, none⟩), .pointer (some ⟨k.Gr, 0, none⟩)]

/-! ### what is left of the plates -/
def leftN (l : List Plate) (c : List Laid) (i : Nat) : Int := (plateAt l i).N - (usedN c c.length (i : Int) : Int)
def leftL (l : List Plate) (c : List Laid) : List Int := (List.range l.length).map (leftN l c)
theorem leftL_len (l : List Plate) (c : List Laid) : (leftL l c).length = l.length := by simp [leftL]
theorem leftL_get {l : List Plate} {c : List Laid} {i : Nat} (h : i < l.length) : (leftL l c)[i]? = some (leftN l c i) := by simp [leftL, h]
theorem leftN_snoc (l : List Plate) (c : List Laid) (x : Laid) (i : Nat) : leftN l (c ++ [x]) i = leftN l c i - if x.plate = i then 1 else 0 := by
  unfold leftN
  have h : (c ++ [x])[c.length]? = some x := by
    rw [List.getElem?_append_right (Nat.le_refl _), Nat.sub_self]
    rfl
  have := usedN_succ h (i : Int)
  rw [List.length_append, List.length_singleton, this, usedN_append (Nat.le_refl _)]
  split <;> omega
theorem leftL_add {l : List Plate} {c : List Laid} {x : Laid} {i : Nat} (hp : x.plate = i) : (leftL l c).set i (leftN l c i - 1) = leftL l (c ++ [x]) := by
  apply List.ext_getElem?
  intro j
  rw [List.getElem?_set]
  rcases Nat.lt_or_ge j l.length with hj | hj
  · rw [leftL_get hj, leftL_get hj, leftL_len, leftN_snoc]
    by_cases hij : i = j
    · subst hij
      rw [if_pos rfl, if_pos hj, if_pos hp]
    · rw [if_neg hij, if_neg (by omega), Int.sub_zero]
  · rw [List.getElem?_eq_none (l := leftL l (c ++ [x])) (by rw [leftL_len]; exact hj), List.getElem?_eq_none (l := leftL l c) (by rw [leftL_len]; exact hj), leftL_len]
    by_cases hij : i = j
    · rw [if_pos hij, if_neg (by omega)]
    · rw [if_neg hij]
theorem leftL_back {l : List Plate} {c : List Laid} {x : Laid} {i : Nat} (hp : x.plate = i) : (leftL l (c ++ [x])).set i (leftN l (c ++ [x]) i + 1) = leftL l c := by
  rw [leftN_snoc, if_pos hp, ← leftL_add hp, List.set_set]
  apply List.ext_getElem?
  intro j
  rw [List.getElem?_set]
  by_cases hij : i = j
  · subst hij
    rw [if_pos rfl, leftL_len]
    split
    · rename_i h
      rw [leftL_get h]
      congr 1
      omega
    · rw [List.getElem?_eq_none (by rw [leftL_len]; omega)]
  · rw [if_neg hij]

/-! ### the boxes -/
structure Env (w : World) (k : Spots) (g : Nat) (lv sv : Value) (left : List Int) : Prop where
  long : Blk w k.L 92 #[lv]
  brd : Blk w k.Bd 65 #[.pointer (some ⟨g, 0, none⟩)]
  see : Blk w k.Se 93 #[sv]
  rest : Blk w k.La 3 (intsA left)
  lft : Blk w k.Lf 41 #[.slice (some ⟨k.La, 0, none⟩) left.length left.length]
  grow : Blk w k.Gr 143 #[growV k]
variable {w w' : World} {k : Spots} {g : Nat} {lv sv : Value} {left : List Int}
theorem Env.only {K : Nat → Prop} (h : Env w k g lv sv left) (o : Only K w w') (hk : ∀ r, k.has r → ¬ K r) : Env w' k g lv sv left :=
  ⟨h.long.only o (hk _ (Or.inl rfl)), h.brd.only o (hk _ (Or.inr (Or.inl rfl))), h.see.only o (hk _ (Or.inr (Or.inr (Or.inl rfl)))), h.rest.only o (hk _ (Or.inr (Or.inr (Or.inr (Or.inl rfl))))),
    h.lft.only o (hk _ (Or.inr (Or.inr (Or.inr (Or.inr (Or.inl rfl)))))), h.grow.only o (hk _ (Or.inr (Or.inr (Or.inr (Or.inr (Or.inr rfl))))))⟩
theorem Env.ext (h : Env w k g lv sv left) (E : Ext w w') : Env w' k g lv sv left := h.only (Only.of_ext (fun _ => False) E) (fun _ _ e => e)
theorem Env.typed (h : Env w k g lv sv left) {r : Nat} (hr : k.has r) : ∃ t cs, Blk w r t cs ∧ t ≠ 55 ∧ t ≠ 106 ∧ t ≠ 53 ∧ t ≠ 4 := by
  rcases hr with rfl | rfl | rfl | rfl | rfl | rfl
  · exact ⟨_, _, h.long, by decide, by decide, by decide, by decide⟩
  · exact ⟨_, _, h.brd, by decide, by decide, by decide, by decide⟩
  · exact ⟨_, _, h.see, by decide, by decide, by decide, by decide⟩
  · exact ⟨_, _, h.rest, by decide, by decide, by decide, by decide⟩
  · exact ⟨_, _, h.lft, by decide, by decide, by decide, by decide⟩
  · exact ⟨_, _, h.grow, by decide, by decide, by decide, by decide⟩
theorem Env.lt (h : Env w k g lv sv left) {r : Nat} (hr : k.has r) : r < w.heap.size := by
  obtain ⟨t, cs, hb, _⟩ := h.typed hr
  exact hb.lt
/-- A spot is in no row. -/
theorem Env.row_ne (h : Env w k g lv sv left) {r : Nat} (hr : k.has r) {base sz n : Nat} {e : TypeId} {v : Value} {xs : List Value} (ho : w.ownsRow base e sz v n xs) (he : e = 55 ∨ e = 106) : v.ownBlock ≠ some r := fun hv => by
  obtain ⟨t, cs, hb, h1, h2, _⟩ := h.typed hr
  obtain ⟨cs', hb'⟩ := own_typed ho hv
  have := hb.types hb'
  rcases he with he | he
  · exact h1 (this.trans he)
  · exact h2 (this.trans he)
/-- What is left is written. -/
theorem Env.set (h : Env w k g lv sv left) (i : Nat) (v : Int) : Env (w.setCell ⟨k.La, i, none⟩ (.int .i64 v)) k g lv sv (left.set i v) := by
  have ne : ∀ {r : Nat} {t : TypeId} {cs : Array Value}, Blk w r t cs → t ≠ 3 → r ≠ k.La := fun hb ht e => by
    subst e
    exact ht (hb.types h.rest)
  refine ⟨h.long.far (ne h.long (by decide)) _, h.brd.far (ne h.brd (by decide)) _, h.see.far (ne h.see (by decide)) _, ?_, ?_, h.grow.far (ne h.grow (by decide)) _⟩
  · have := h.rest.set_ i (.int .i64 v)
    rw [intsA_set] at this
    exact this
  · rw [List.length_set]
    exact h.lft.far (ne h.lft (by decide)) _

/-! ### what its two functions say -/
/-- The caller's word st, which speaks of the blocks Fp alone; what 'long' answers, and what 'see' makes of it. -/
structure Client (s : Shape) (l : List Plate) {σ : Type} (J : σ → (Nat → Prop) → World → Prop) (wT : World) (flong : Nat) (lbl : Array Value) (fsee : Nat) (lbs : Array Value) (longF : σ → Nat → Bool) (seeF : σ → List Laid → List Nat → σ) : Prop where
  keep : ∀ (st : σ) Fp (w w' : World), J st Fp w → (∀ r, Fp r → w'.heap[r]? = w.heap[r]?) → J st Fp w'
  long : ∀ (st : σ) Fp (w : World) (n : Nat), n ≤ 100 → Ext wT w → J st Fp w → Calls Tryz.prog flong (#[.int .i64 (n : Int)] ++ lbl) w fun e w' => e = .returned (.bool (longF st n)) ∧ Ext w w'
  see : ∀ (st : σ) Fp (w : World) (c : List Laid) (out : List Nat) CA cc SA sc, c.length ≤ 100 → out.length = c.length → setRun s l c c.length = some (out, 2 ^ fullN s.cells - 1) → Ext wT w → J st Fp w → (∀ r, Fp r → r < w.heap.size) → Laids w CA cc c → SliceIs w SA out.length sc 1 (out.map fun m => [uv m]) →
    Calls Tryz.prog fsee (#[.slice CA c.length cc, .slice SA out.length sc] ++ lbs) w fun e w' => (∃ v, e = .returned v) ∧ ∃ Fp', J (seeF st c out) Fp' w' ∧ (∀ r, Fp' r → Fp r ∨ w.heap.size ≤ r) ∧ (∀ r, Fp' r → r < w'.heap.size) ∧ Only Fp w w'

/-! ### where the search is -/
structure Here {σ : Type} (J : σ → (Nat → Prop) → World → Prop) (wT : World) (B : Nat) (k : Spots) (g : Nat) (lv sv : Value) (left : List Int) (w : World) (c : List Laid) (all : List Nat) (CV SV : Value) (st : σ) (Fp : Nat → Prop) : Prop where
  ext : Ext wT w
  low : wT.heap.size ≤ B ∧ B ≤ w.heap.size
  env : Env w k g lv sv left
  rc : w.ownsRow B 55 5 CV c.length (c.map Laid.cells).flatten
  rs : w.ownsRow B 106 1 SV all.length (all.map uv)
  j : J st Fp w
  fp : ∀ r, Fp r → wT.heap.size ≤ r ∧ r < w.heap.size ∧ ¬ k.has r ∧ CV.ownBlock ≠ some r ∧ SV.ownBlock ≠ some r
  spots : ∀ r, k.has r → wT.heap.size ≤ r
/-- The blocks that a search may turn. -/
def Turns (k : Spots) (CV SV : Value) (Fp : Nat → Prop) (r : Nat) : Prop := Fp r ∨ CV.ownBlock = some r ∨ SV.ownBlock = some r ∨ r = k.La
section
variable {s : Shape} {l : List Plate} {σ : Type} {J : σ → (Nat → Prop) → World → Prop} {wT : World} {B : Nat} {c : List Laid} {all : List Nat} {CV SV : Value} {st : σ} {Fp : Nat → Prop}
  {flong : Nat} {lbl : Array Value} {fsee : Nat} {lbs : Array Value} {longF : σ → Nat → Bool} {seeF : σ → List Laid → List Nat → σ}
theorem Here.mono (cl : Client s l J wT flong lbl fsee lbs longF seeF) (h : Here J wT B k g lv sv left w c all CV SV st Fp) (E : Ext w w') : Here J wT B k g lv sv left w' c all CV SV st Fp :=
  ⟨h.ext.trans E, ⟨h.low.1, Nat.le_trans h.low.2 E.size⟩, h.env.ext E, own_ext h.rc E, own_ext h.rs E, cl.keep _ _ _ _ h.j (fun r hr => E.block r (h.fp r hr).2.1), fun r hr => by
    obtain ⟨h1, h2, h3⟩ := h.fp r hr
    exact ⟨h1, Nat.lt_of_lt_of_le h2 E.size, h3⟩, h.spots⟩
theorem Here.turns_low (h : Here J wT B k g lv sv left w c all CV SV st Fp) {r : Nat} (hr : Turns k CV SV Fp r) : wT.heap.size ≤ r := by
  rcases hr with hr | hr | hr | hr
  · exact (h.fp r hr).1
  · exact Nat.le_trans h.low.1 (h.rc.lt r hr).1
  · exact Nat.le_trans h.low.1 (h.rs.lt r hr).1
  · rw [hr]
    exact h.spots _ (Or.inr (Or.inr (Or.inr (Or.inl rfl))))
theorem Here.rows_ne (h : Here J wT B k g lv sv left w c all CV SV st Fp) {r : Nat} (hr : CV.ownBlock = some r) : SV.ownBlock ≠ some r := fun e => by
  rcases own_apart h.rc h.rs (by decide) with h' | h'
  · rw [h'] at hr
    cases hr
  · rw [hr, e] at h'
    exact h' rfl
/-- 'see' has been called. -/
theorem Here.seen (_cl : Client s l J wT flong lbl fsee lbs longF seeF) (h : Here J wT B k g lv sv left w c all CV SV st Fp) {st' : σ} {Fp' : Nat → Prop} (hj : J st' Fp' w') (h1 : ∀ r, Fp' r → Fp r ∨ w.heap.size ≤ r) (h2 : ∀ r, Fp' r → r < w'.heap.size) (o : Only Fp w w') :
    Here J wT B k g lv sv left w' c all CV SV st' Fp' := by
  have hlt := h.env
  refine ⟨Only.below h.ext o fun r hr => (h.fp r hr).1, ⟨h.low.1, Nat.le_trans h.low.2 o.size⟩, h.env.only o fun r hr hF => (h.fp r hF).2.2.1 hr, own_only h.rc o fun r hr hF => (h.fp r hF).2.2.2.1 hr, own_only h.rs o fun r hr hF => (h.fp r hF).2.2.2.2 hr, hj, fun r hr => ?_, h.spots⟩
  rcases h1 r hr with h' | h'
  · obtain ⟨a, b, c⟩ := h.fp r h'
    exact ⟨a, h2 r hr, c⟩
  · have hB := h.ext.size
    refine ⟨by omega, h2 r hr, fun e => ?_, fun e => ?_, fun e => ?_⟩
    · have := h.env.lt e
      omega
    · have := (h.rc.lt r e).2
      omega
    · have := (h.rs.lt r e).2
      omega
/-- What is left of a plate is written. -/
theorem Here.write (cl : Client s l J wT flong lbl fsee lbs longF seeF) (h : Here J wT B k g lv sv left w c all CV SV st Fp) (i : Nat) (v : Int) : Here J wT B k g lv sv (left.set i v) (w.setCell ⟨k.La, i, none⟩ (.int .i64 v)) c all CV SV st Fp := by
  have hla : k.has k.La := Or.inr (Or.inr (Or.inr (Or.inl rfl)))
  have o : Only (fun r => r = k.La) w (w.setCell ⟨k.La, i, none⟩ (.int .i64 v)) := (Only.refl (fun r => r = k.La) w).setCell (p := ⟨k.La, i, none⟩) (fun _ => rfl) _
  have hsz : (w.setCell ⟨k.La, i, none⟩ (.int .i64 v)).heap.size = w.heap.size := by simp [World.setCell]
  refine ⟨Only.below h.ext o fun r hr => by rw [hr]; exact h.spots _ hla, ⟨h.low.1, by rw [hsz]; exact h.low.2⟩, h.env.set i v, own_only h.rc o fun r hr e => ?_, own_only h.rs o fun r hr e => ?_, cl.keep _ _ _ _ h.j fun r hr => ?_, fun r hr => ?_, h.spots⟩
  · rw [e] at hr
    exact h.env.row_ne hla h.rc (Or.inl rfl) hr
  · rw [e] at hr
    exact h.env.row_ne hla h.rs (Or.inr rfl) hr
  · refine Below.heap_setCell _ _ _ _ fun e => ?_
    exact (h.fp r hr).2.2.1 (by rw [e]; exact hla)
  · obtain ⟨a, b, c⟩ := h.fp r hr
    exact ⟨a, by rw [hsz]; exact b, c⟩

/-! ### a row that has become longer -/
structure RowTo (w w' : World) (B : Nat) (e : TypeId) (sz : Nat) (V V' : Value) (n : Nat) (ys : List Value) : Prop where
  own : w'.ownsRow B e sz V' (n + 1) ys
  blk : ∃ g cap, V' = .slice (some ⟨g, 0, none⟩) (n + 1) cap ∧ (V = .slice (some ⟨g, 0, none⟩) n cap ∨ w.heap.size ≤ g)
  old : ∀ r, V.ownBlock = some r → V'.ownBlock ≠ some r → w'.heap[r]? = w.heap[r]?
theorem Fate.only {W : World} {base : Nat} {e : TypeId} {sz : Nat} {v v' : Value} {n : Nat} {xs news : List Value} (h : Fate W w' base e sz v v' n xs news) : Only (fun r => v.ownBlock = some r) W w' := by
  obtain ⟨_, b, cap, _, h | h⟩ := h
  · exact Only.of_grown h.2 fun r e => by
      cases e
      rw [h.1]
      rfl
  · exact Only.of_grown h.2 fun r e => by cases e
theorem Fate.cell {W : World} {base : Nat} {e : TypeId} {sz : Nat} {v v' : Value} {n : Nat} {xs news : List Value} (h : Fate W w' base e sz v v' n xs news) {p : Addr} {u : Value} (hc : W.cell? p = some u) (hp : v.ownBlock ≠ some p.block) : w'.cell? p = some u := by
  rw [← hc]
  exact World.cell?_of_block (h.only.block _ (World.block_lt_of_cell? W p hc) hp)
theorem Fate.rowTo {K : Nat → Prop} {W : World} {base : Nat} {e : TypeId} {sz : Nat} {v v' : Value} {n : Nat} {xs news : List Value} (h : Fate W w' base e sz v v' n xs news) (fr : Only K w W) (hv : ∀ r, v.ownBlock = some r → r < w.heap.size ∧ ¬ K r) : RowTo w w' base e sz v v' n (xs ++ news) := by
  obtain ⟨h1, b, cap, h2, h3⟩ := h
  refine ⟨h1, ⟨b, cap, h2, ?_⟩, fun r hr hne => ?_⟩
  · rcases h3 with h3 | h3
    · exact Or.inl h3.1
    · exact Or.inr (Nat.le_trans fr.size h3.1)
  · obtain ⟨a1, a2⟩ := hv r hr
    rw [← fr.block r a1 a2]
    rcases h3 with h3 | h3
    · exfalso
      apply hne
      rw [h2, ← hr, h3.1]
      rfl
    · exact h3.2.block r (Nat.lt_of_lt_of_le a1 fr.size) (fun e => by cases e)
theorem RowTo.only {K : Nat → Prop} {W : World} {e : TypeId} {sz : Nat} {V V' : Value} {n : Nat} {ys : List Value} (h : RowTo w W B e sz V V' n ys) (o : Only K W w') (hk : ∀ r, V'.ownBlock = some r → ¬ K r) (hv : ∀ r, V.ownBlock = some r → r < W.heap.size ∧ ¬ K r) : RowTo w w' B e sz V V' n ys :=
  ⟨own_only h.own o hk, h.blk, fun r hr hne => (o.block r (hv r hr).1 (hv r hr).2).trans (h.old r hr hne)⟩
/-- The block of the longer row. -/
theorem RowTo.new {e : TypeId} {sz : Nat} {V V' : Value} {n : Nat} {ys : List Value} (h : RowTo w w' B e sz V V' n ys) {r : Nat} (hr : V'.ownBlock = some r) : V.ownBlock = some r ∨ w.heap.size ≤ r := by
  obtain ⟨b, cap, rfl, h1⟩ := h.blk
  cases hr
  rcases h1 with rfl | h1
  · exact Or.inl rfl
  · exact Or.inr h1

theorem blk_new_at {w : World} {cs : Array Value} {t : TypeId} {n : Nat} (h : n = w.heap.size) : Blk (w.alloc (.cells cs t)) n t cs := by
  subst h
  exact Blk.new _ _ _
theorem Fate.blk {W : World} {base : Nat} {e : TypeId} {sz : Nat} {v v' : Value} {n : Nat} {xs news : List Value} (h : Fate W w' base e sz v v' n xs news) (ho : W.ownsRow base e sz v n xs) {r : Nat} {t : TypeId} {cs : Array Value} (hb : Blk W r t cs) (ht : t ≠ e) : Blk w' r t cs :=
  hb.only h.only fun e' => by
    obtain ⟨cs', hb'⟩ := own_typed ho e'
    exact ht (hb.types hb')
/-- A row of another type keeps while a row is made longer. -/
theorem own_two {W : World} {e e' : TypeId} {sz sz' : Nat} {V V' : Value} {n n' : Nat} {xs xs' : List Value} (h' : W.ownsRow B e' sz' V' n' xs') (h : W.ownsRow B e sz V n xs) (he : e' ≠ e) (o : Only (fun r => V.ownBlock = some r) W w') : w'.ownsRow B e' sz' V' n' xs' :=
  own_only h' o fun r hr e1 => by
    rcases own_apart h' h he with h2 | h2
    · rw [h2] at hr
      cases hr
    · rw [hr, e1] at h2
      exact h2 rfl
/-- Two rows are made longer, one after the other, with new blocks between. -/
theorem two_rows {W1 W2 W3 : World} {e1 e2 : TypeId} {s1 s2 : Nat} {V1 V1' V2 V2' : Value} {n1 n2 : Nat} {x1 x2 y1 y2 : List Value} (he : e1 ≠ e2) (h1 : w.ownsRow B e1 s1 V1 n1 x1) (h2 : w.ownsRow B e2 s2 V2 n2 x2) (E1 : Ext w W1) (f1 : Fate W1 W2 B e1 s1 V1 V1' n1 x1 y1) (E2 : Ext W2 W3) (f2 : Fate W3 w' B e2 s2 V2 V2' n2 x2 y2) :
    Only (fun r => V1.ownBlock = some r ∨ V2.ownBlock = some r) w w' ∧ RowTo w w' B e1 s1 V1 V1' n1 (x1 ++ y1) ∧ RowTo w w' B e2 s2 V2 V2' n2 (x2 ++ y2) := by
  have ne : ∀ r, V1.ownBlock = some r → V2.ownBlock ≠ some r := fun r hr hr2 => by
    rcases own_apart h1 h2 he with h | h
    · rw [h] at hr
      cases hr
    · rw [hr, hr2] at h
      exact h rfl
  have o1 : Only (fun r => V1.ownBlock = some r) w W3 := ((Only.of_ext _ E1).trans f1.only fun _ _ e => e).ext E2
  have a1 : W1.ownsRow B e1 s1 V1 n1 x1 := own_ext h1 E1
  have a2 : W3.ownsRow B e2 s2 V2 n2 x2 := own_ext (own_two (own_ext h2 E1) a1 (fun e => he e.symm) f1.only) E2
  have r1 : RowTo w W2 B e1 s1 V1 V1' n1 (x1 ++ y1) := f1.rowTo (Only.of_ext (fun _ => False) E1) fun r hr => ⟨(h1.lt r hr).2, fun e => e⟩
  have r2 : RowTo w w' B e2 s2 V2 V2' n2 (x2 ++ y2) := f2.rowTo o1 fun r hr => ⟨(h2.lt r hr).2, fun e => ne r e hr⟩
  refine ⟨(o1.mono fun r _ e => Or.inl e).trans f2.only fun r _ e => Or.inr e, ?_, r2⟩
  have b1 : W3.ownsRow B e1 s1 V1' (n1 + 1) (x1 ++ y1) := own_ext r1.own E2
  have o2 : Only (fun r => V2.ownBlock = some r) W2 w' := (Only.of_ext _ E2).trans f2.only fun _ _ e => e
  exact ⟨own_two b1 a2 he f2.only, r1.blk, fun r hr hne => (o2.block r (Nat.lt_of_lt_of_le (h1.lt r hr).2 (Nat.le_trans E1.size f1.only.size)) (ne r hr)).trans (r1.old r hr hne)⟩
/-- One plate more is laid: what the search is asked with. -/
theorem Here.deeper (cl : Client s l J wT flong lbl fsee lbs longF seeF) (h : Here J wT B k g lv sv left w c all CV SV st Fp) {x : Laid} {m : Nat} {CV' SV' : Value} (o : Only (fun r => CV.ownBlock = some r ∨ SV.ownBlock = some r) w w')
    (hc : RowTo w w' B 55 5 CV CV' c.length ((c.map Laid.cells).flatten ++ x.cells)) (hs : RowTo w w' B 106 1 SV SV' all.length (all.map uv ++ [uv m])) :
    Here J wT B k g lv sv left w' (c ++ [x]) (all ++ [m]) CV' SV' st Fp := by
  refine ⟨Only.below h.ext o fun r hr => ?_, ⟨h.low.1, Nat.le_trans h.low.2 o.size⟩, h.env.only o fun r hr e => ?_, ?_, ?_, cl.keep _ _ _ _ h.j fun r hr => ?_, fun r hr => ?_, h.spots⟩
  · exact h.turns_low (hr.elim (fun e => Or.inr (Or.inl e)) (fun e => Or.inr (Or.inr (Or.inl e))))
  · rcases e with e | e
    · exact h.env.row_ne hr h.rc (Or.inl rfl) e
    · exact h.env.row_ne hr h.rs (Or.inr rfl) e
  · have := hc.own
    rw [List.length_append, List.map_append, List.flatten_append]
    simpa using this
  · have := hs.own
    rw [List.length_append, List.map_append]
    exact this
  · obtain ⟨_, h2, _, h4, h5⟩ := h.fp r hr
    exact o.block r h2 (fun e => e.elim (fun e => h4 e) (fun e => h5 e))
  · obtain ⟨h1, h2, h3, h4, h5⟩ := h.fp r hr
    refine ⟨h1, Nat.lt_of_lt_of_le h2 o.size, h3, fun e => ?_, fun e => ?_⟩
    · rcases hc.new e with e' | e'
      · exact h4 e'
      · omega
    · rcases hs.new e with e' | e'
      · exact h5 e'
      · omega
/-- A row keeps while the longer one has been used, as long as its own cells stay. -/
theorem row_back {W : World} {K K' : Nat → Prop} {e : TypeId} {sz : Nat} {V V' : Value} {n : Nat} {xs ys : List Value} (h0 : w.ownsRow B e sz V n xs) (o : Only K' w w') (ht : RowTo w w' B e sz V V' n (xs ++ ys)) (h1 : W.ownsRow B e sz V' (n + 1) (xs ++ ys)) (o2 : Only K w' W)
    (hk : ∀ r, V.ownBlock = some r → V'.ownBlock ≠ some r → ¬ K r) : W.ownsRow B e sz V n xs := by
  obtain ⟨b, cap, rfl, h2⟩ := ht.blk
  rcases h2 with rfl | h2
  · exact own_prefix h1 h0.1
  · obtain ⟨a1, a2⟩ := h0
    refine ⟨a1, ?_⟩
    rcases a2 with a2 | ⟨r, cap', cur, hv, hg, hh, rest⟩
    · exact Or.inl a2
    · refine Or.inr ⟨r, cap', cur, hv, hg, ?_, rest⟩
      have hlt : r < w.heap.size := (Array.getElem?_eq_some_iff.1 hh).1
      have hr : V.ownBlock = some r := by rw [hv]; rfl
      have hne : (Value.slice (some ⟨b, 0, none⟩) (n + 1) cap).ownBlock ≠ some r := fun e => by
        simp only [Value.ownBlock, Option.some.injEq] at e
        omega
      rw [o2.block r (Nat.lt_of_lt_of_le hlt o.size) (hk r hr hne), ht.old r hr hne]
      exact hh
/-! ### within one search -/
/-- Between two sorts: the place's box is there too. -/
structure Stay {σ : Type} (J : σ → (Nat → Prop) → World → Prop) (wT : World) (B : Nat) (k : Spots) (g : Nat) (lv sv : Value) (l : List Plate) (w : World) (AT : Nat) (pc : Array Value) (wr : World) (c : List Laid) (all : List Nat) (CV SV : Value) (st : σ) (Fp0 Fp : Nat → Prop) : Prop where
  here : Here J wT B k g lv sv (leftL l c) wr c all CV SV st Fp
  sub : ∀ r, Fp r → Fp0 r ∨ w.heap.size ≤ r
  only : Only (Turns k CV SV Fp0) w wr
  box : Blk wr AT 53 pc
  free : ¬ Fp AT
variable {w0 : World} {AT : Nat} {pc : Array Value} {Fp0 : Nat → Prop}
theorem Stay.mono (cl : Client s l J wT flong lbl fsee lbs longF seeF) (h : Stay J wT B k g lv sv l w0 AT pc w c all CV SV st Fp0 Fp) (E : Ext w w') : Stay J wT B k g lv sv l w0 AT pc w' c all CV SV st Fp0 Fp :=
  ⟨h.here.mono cl E, h.sub, h.only.ext E, h.box.ext E, h.free⟩
/-- A block of cells or of bools that is no spot is turned by no search. -/
theorem Here.no_turn (h : Here J wT B k g lv sv left w c all CV SV st Fp) {r : Nat} {t : TypeId} {cs : Array Value} (hb : Blk w r t cs) (ht : t = 53 ∨ t = 4) (hF : ¬ Fp r) : ¬ Turns k CV SV Fp r := by
  rintro (e | e | e | e)
  · exact hF e
  · obtain ⟨cs', hb'⟩ := own_typed h.rc e
    have := hb.types hb'
    rcases ht with ht | ht <;> rw [ht] at this <;> revert this <;> decide
  · obtain ⟨cs', hb'⟩ := own_typed h.rs e
    have := hb.types hb'
    rcases ht with ht | ht <;> rw [ht] at this <;> revert this <;> decide
  · subst e
    have := hb.types h.env.rest
    rcases ht with ht | ht <;> rw [ht] at this <;> revert this <;> decide
theorem Here.spot_turn (h : Here J wT B k g lv sv left w c all CV SV st Fp) : ¬ Turns k CV SV Fp k.Gr := by
  have hgr : k.has k.Gr := Or.inr (Or.inr (Or.inr (Or.inr (Or.inr rfl))))
  rintro (e | e | e | e)
  · exact (h.fp _ e).2.2.1 hgr
  · exact h.env.row_ne hgr h.rc (Or.inl rfl) e
  · exact h.env.row_ne hgr h.rs (Or.inr rfl) e
  · have h1 := h.env.grow
    rw [e] at h1
    have := h1.types h.env.rest
    revert this
    decide
theorem Only.cell {K : Nat → Prop} (o : Only K w w') {p : Addr} {v : Value} (hc : w.cell? p = some v) (hp : ¬ K p.block) : w'.cell? p = some v := by
  rw [← hc]
  exact World.cell?_of_block (o.block _ (World.block_lt_of_cell? w p hc) hp)
/-- One plate more has been looked into; what is left of it has been given back. -/
def Deep {σ : Type} (J : σ → (Nat → Prop) → World → Prop) (wT : World) (B : Nat) (k : Spots) (g : Nat) (lv sv : Value) (left : List Int) (w : World) (c : List Laid) (all : List Nat) (CV SV : Value) (st' : σ) (Fp : Nat → Prop) (w' : World) : Prop :=
  ∃ Fp', Here J wT B k g lv sv left w' c all CV SV st' Fp' ∧ (∀ r, Fp' r → Fp r ∨ w.heap.size ≤ r) ∧ Only (Turns k CV SV Fp) w w'
def GrowPost {σ : Type} (J : σ → (Nat → Prop) → World → Prop) (wT : World) (B : Nat) (k : Spots) (g : Nat) (lv sv : Value) (l : List Plate) (w : World) (c : List Laid) (all : List Nat) (CV SV : Value) (st' : σ) (Fp : Nat → Prop) (e : Ending) (w' : World) : Prop :=
  (∃ v, e = .returned v) ∧ Deep J wT B k g lv sv (leftL l c) w c all CV SV st' Fp w'
theorem Here.dug (h : Here J wT B k g lv sv left w c all CV SV st Fp) {x : Laid} {m : Nat} {CV' SV' : Value} {W : World} {st' : σ} {e : Ending} (o : Only (fun r => CV.ownBlock = some r ∨ SV.ownBlock = some r) w w')
    (hc : RowTo w w' B 55 5 CV CV' c.length ((c.map Laid.cells).flatten ++ x.cells)) (hs : RowTo w w' B 106 1 SV SV' all.length (all.map uv ++ [uv m]))
    (post : GrowPost J wT B k g lv sv l w' (c ++ [x]) (all ++ [m]) CV' SV' st' Fp e W) : Deep J wT B k g lv sv (leftL l (c ++ [x])) w c all CV SV st' Fp W := by
  obtain ⟨_, Fp', h1, h2, h3⟩ := post
  have hla : k.has k.La := Or.inr (Or.inr (Or.inr (Or.inl rfl)))
  have cc : W.ownsRow B 55 5 CV' (c.length + 1) ((c.map Laid.cells).flatten ++ x.cells) := by
    have := h1.rc
    rw [List.length_append, List.map_append, List.flatten_append] at this
    simpa using this
  have cs : W.ownsRow B 106 1 SV' (all.length + 1) (all.map uv ++ [uv m]) := by
    have := h1.rs
    rw [List.length_append, List.map_append] at this
    exact this
  have kc : ∀ r, CV.ownBlock = some r → CV'.ownBlock ≠ some r → ¬ Turns k CV' SV' Fp r := fun r hr hne e => by
    have hlt := (h.rc.lt r hr).2
    rcases e with e | e | e | e
    · exact (h.fp r e).2.2.2.1 hr
    · exact hne e
    · rcases hs.new e with e' | e'
      · exact h.rows_ne hr e'
      · omega
    · subst e
      exact h.env.row_ne hla h.rc (Or.inl rfl) hr
  have ks : ∀ r, SV.ownBlock = some r → SV'.ownBlock ≠ some r → ¬ Turns k CV' SV' Fp r := fun r hr hne e => by
    have hlt := (h.rs.lt r hr).2
    rcases e with e | e | e | e
    · exact (h.fp r e).2.2.2.2 hr
    · rcases hc.new e with e' | e'
      · exact h.rows_ne e' hr
      · omega
    · exact hne e
    · subst e
      exact h.env.row_ne hla h.rs (Or.inr rfl) hr
  have sub : ∀ r, Fp' r → Fp r ∨ w.heap.size ≤ r := fun r hr => by
    rcases h2 r hr with e | e
    · exact Or.inl e
    · exact Or.inr (Nat.le_trans o.size e)
  refine ⟨Fp', ⟨h1.ext, h1.low, h1.env, row_back h.rc o hc cc h3 kc, row_back h.rs o hs cs h3 ks, h1.j, fun r hr => ?_, h.spots⟩, sub, ?_⟩
  · obtain ⟨a1, a2, a3, _, _⟩ := h1.fp r hr
    refine ⟨a1, a2, a3, fun e => ?_, fun e => ?_⟩
    · rcases sub r hr with e' | e'
      · exact (h.fp r e').2.2.2.1 e
      · have := (h.rc.lt r e).2
        omega
    · rcases sub r hr with e' | e'
      · exact (h.fp r e').2.2.2.2 e
      · have := (h.rs.lt r e).2
        omega
  · refine (o.mono fun r _ e => e.elim (fun e => Or.inr (Or.inl e)) (fun e => Or.inr (Or.inr (Or.inl e)))).trans h3 fun r hr e => ?_
    rcases e with e | e | e | e
    · exact Or.inl e
    · rcases hc.new e with e' | e'
      · exact Or.inr (Or.inl e')
      · omega
    · rcases hs.new e with e' | e'
      · exact Or.inr (Or.inr (Or.inl e'))
      · omega
    · exact Or.inr (Or.inr (Or.inr e))
theorem Stay.after (cl : Client s l J wT flong lbl fsee lbs longF seeF) (h : Stay J wT B k g lv sv l w0 AT pc w c all CV SV st Fp0 Fp) {x : Laid} {i : Nat} (hx : x.plate = i) {st' : σ} {TB : Nat} {tc : Array Value} (hTB : Blk w TB 4 tc) (hTF : ¬ Fp TB)
    (hd : Deep J wT B k g lv sv (leftL l (c ++ [x])) (w.setCell ⟨k.La, i, none⟩ (.int .i64 (leftN l c i - 1))) c all CV SV st' Fp w') :
    ∃ Fp', Stay J wT B k g lv sv l w0 AT pc (w'.setCell ⟨k.La, i, none⟩ (.int .i64 (leftN l (c ++ [x]) i + 1))) c all CV SV st' Fp0 Fp' ∧ Blk (w'.setCell ⟨k.La, i, none⟩ (.int .i64 (leftN l (c ++ [x]) i + 1))) TB 4 tc ∧ ¬ Fp' TB := by
  obtain ⟨Fp', h1, h2, h3⟩ := hd
  have hsz : (w.setCell ⟨k.La, i, none⟩ (.int .i64 (leftN l c i - 1))).heap.size = w.heap.size := by simp [World.setCell]
  have t1 := h.here.no_turn h.box (Or.inl rfl) h.free
  have t2 := h.here.no_turn hTB (Or.inr rfl) hTF
  have o : Only (Turns k CV SV Fp) w (w'.setCell ⟨k.La, i, none⟩ (.int .i64 (leftN l (c ++ [x]) i + 1))) :=
    (((Only.refl (Turns k CV SV Fp) w).setCell (p := ⟨k.La, i, none⟩) (fun _ => Or.inr (Or.inr (Or.inr rfl))) _).trans h3 fun _ _ e => e).setCell (p := ⟨k.La, i, none⟩) (fun _ => Or.inr (Or.inr (Or.inr rfl))) _
  have hw := h1.write cl i (leftN l (c ++ [x]) i + 1)
  rw [leftL_back hx] at hw
  have hsub : ∀ r, Fp' r → Fp r ∨ w.heap.size ≤ r := fun r hr => by
    rw [← hsz]
    exact h2 r hr
  refine ⟨Fp', ⟨hw, fun r hr => ?_, h.only.trans o fun r hr e => ?_, h.box.only o t1, fun e => ?_⟩, hTB.only o t2, fun e => ?_⟩
  · rcases hsub r hr with e | e
    · exact h.sub r e
    · exact Or.inr (Nat.le_trans h.only.size e)
  · rcases e with e | e
    · rcases h.sub r e with e' | e'
      · exact Or.inl e'
      · omega
    · exact Or.inr e
  · rcases hsub _ e with e' | e'
    · exact h.free e'
    · have := h.box.lt
      omega
  · rcases hsub _ e with e' | e'
    · exact hTF e'
    · have := hTB.lt
      omega
end
end Go.Proofs.YtaaeapjnjjbglaaGreatDoor

namespace Go.Proofs.YtaaeapjnjjbglaaGreatDoor
open Go.RowKit

set_option maxHeartbeats 1000000 in
theorem cells_c (m : Nat) (w : World) :
    Calls Tryz.prog 71 #[.int .u32 m] w fun e w' =>
      e = .returned (.func (.func 93) #[] #[.pointer (some ⟨w.heap.size, 0, none⟩)]) ∧ Ext w w' ∧ Blk w' w.heap.size 106 #[.int .u32 m] ∧ w'.heap.size = w.heap.size + 1 := by
  obtain ⟨W1, hW1, E1, B1, hz1⟩ := box_ w #[.int .u32 m] 106
  have Hz := Lib.hid hz1
  clear hz1
  go_enter Tryz.func71, Tryz.ntmps71
  go_wp2_with fail
  go_ret
  exact ⟨rfl, E1, B1, Hz.out⟩
end Go.Proofs.YtaaeapjnjjbglaaGreatDoor
