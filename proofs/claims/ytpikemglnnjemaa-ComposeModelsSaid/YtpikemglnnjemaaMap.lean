/- Maps that the call makes, whose keys are structs or arrays: they read as lists of pairs. -/
import Derived.Test.YtpikemglnnjemaaExt
import Derived.Maps.Own
import Derived.WideKeyRuns
namespace Go.Proofs.Ytpikemglnnjemaa
open Go.RowKit

/-! ### lists of pairs -/
section
variable {K V : Type} [DecidableEq K]
/-- Where a key stands, and what it has. -/
def lookAt : List (K × V) → K → Nat → Option (Nat × V)
  | [], _, _ => none
  | p :: m, x, i => if x = p.1 then some (i, p.2) else lookAt m x (i + 1)
def getK : List (K × V) → K → Option V
  | [], _ => none
  | p :: m, x => if x = p.1 then some p.2 else getK m x
def putK : List (K × V) → K → V → List (K × V)
  | [], x, v => [(x, v)]
  | p :: m, x, v => if x = p.1 then (x, v) :: m else p :: putK m x v
theorem getK_putK (m : List (K × V)) (x y : K) (v : V) : getK (putK m x v) y = if y = x then some v else getK m y := by
  induction m with
  | nil => rfl
  | cons p m ih =>
    unfold putK
    by_cases h : x = p.1
    · rw [if_pos h]
      unfold getK
      simp only
      by_cases hy : y = x
      · rw [if_pos hy, if_pos hy]
      · rw [if_neg hy, if_neg hy, if_neg (by rw [← h]; exact hy)]
    · rw [if_neg h]
      unfold getK
      rw [ih]
      by_cases hy : y = p.1
      · rw [if_pos hy, if_pos hy, if_neg (fun e => h (by rw [← e, hy]))]
      · rw [if_neg hy, if_neg hy]
theorem lookAt_getK (m : List (K × V)) (x : K) (i : Nat) : (lookAt m x i).map (·.2) = getK m x := by
  induction m generalizing i with
  | nil => rfl
  | cons p m ih =>
    unfold lookAt getK
    split
    · rfl
    · exact ih _
theorem lookAt_none {m : List (K × V)} {x : K} {i : Nat} (h : lookAt m x i = none) (v : V) : putK m x v = m ++ [(x, v)] := by
  induction m generalizing i with
  | nil => rfl
  | cons p m ih =>
    unfold lookAt at h
    unfold putK
    split at h
    · cases h
    · rename_i hx
      rw [if_neg hx, ih h]
      rfl
theorem lookAt_some {m : List (K × V)} {x : K} {i j : Nat} {u : V} (h : lookAt m x i = some (j, u)) (v : V) : ∃ k, j = i + k ∧ m[k]? = some (x, u) ∧ putK m x v = m.set k (x, v) := by
  induction m generalizing i with
  | nil => cases h
  | cons p m ih =>
    unfold lookAt at h
    unfold putK
    split at h
    · rename_i hx
      cases h
      refine ⟨0, rfl, ?_, ?_⟩
      · rw [hx]
        rfl
      · rw [if_pos hx]
        rfl
    · rename_i hx
      obtain ⟨k, rfl, h1, h2⟩ := ih h
      refine ⟨k + 1, by omega, h1, ?_⟩
      rw [if_neg hx, h2]
      rfl
theorem putK_len (m : List (K × V)) (x : K) (v : V) : (putK m x v).length ≤ m.length + 1 := by
  induction m with
  | nil => exact Nat.le_refl _
  | cons p m ih =>
    unfold putK
    split
    · simp
    · simp only [List.length_cons]
      omega
theorem putK_keys (m : List (K × V)) (x : K) (v : V) (h : (m.map (·.1)).Nodup) : ((putK m x v).map (·.1)).Nodup := by
  cases hl : lookAt m x 0 with
  | none =>
    rw [lookAt_none hl]
    have hx : ∀ (m : List (K × V)) (i : Nat), lookAt m x i = none → x ∉ m.map (·.1) := by
      intro m
      induction m with
      | nil => intro _ _; simp
      | cons p m ih =>
        intro i hi
        unfold lookAt at hi
        split at hi
        · cases hi
        · rename_i hne
          simp only [List.map_cons, List.mem_cons, not_or]
          exact ⟨hne, ih _ hi⟩
    rw [List.map_append, List.nodup_append]
    refine ⟨h, by simp, fun a ha b hb => ?_⟩
    simp only [List.map_cons, List.map_nil, List.mem_singleton] at hb
    rintro rfl
    subst hb
    exact hx m 0 hl ha
  | some r =>
    obtain ⟨j, u⟩ := r
    obtain ⟨k, _, h1, h2⟩ := lookAt_some hl v
    rw [h2]
    have : (m.set k (x, v)).map (·.1) = m.map (·.1) := by
      apply List.ext_getElem?
      intro i
      simp only [List.getElem?_map, List.getElem?_set]
      split
      · subst_vars
        rw [h1]
        split <;> simp_all
      · rfl
    rw [this]
    exact h
end

/-! ### in memory -/
/-- What the walk needs of a type of keys. -/
structure KeyEnc (P : Program) (k : TypeId) {K : Type} [DecidableEq K] (enc : K → Value) : Prop where
  wide : (match P.underlying k with | some (.array _ _) | some (.struct _) => true | _ => false) = true
  eq : ∀ w x y, (Op.equal k (enc x) (enc y)).run P w = .ok (decide (x = y)) w
  check : ∀ w em x, (Instr.checkKey em 10000 k (enc x)).run P w = .ok () w
  same : ∀ x, Instr.sameBits 10000 (enc x) (enc x) = true

section
variable {P : Program} {k : TypeId} {K V : Type} {enc : K → Value} {ev : V → Value}

/-- Block b is a map of these pairs. -/
def MapOf (enc : K → Value) (ev : V → Value) (w : World) (b : Nat) (m : List (K × V)) : Prop :=
  ∃ es clock, w.heap[b]? = some (.map es clock) ∧ es.toList.map (fun e => (e.key, e.val)) = m.map (fun p => (enc p.1, ev p.2)) ∧ (∀ e ∈ es.toList, e.born < clock) ∧ (es.toList.map (·.born)).Nodup

theorem MapOf.lt {w : World} {b : Nat} {m : List (K × V)} (h : MapOf enc ev w b m) : b < w.heap.size := by
  obtain ⟨es, clock, hb, _⟩ := h
  exact (Array.getElem?_eq_some_iff.1 hb).1
theorem MapOf.ext {w w' : World} {b : Nat} {m : List (K × V)} (h : MapOf enc ev w b m) (E : Ext w w') : MapOf enc ev w' b m := by
  have hlt := h.lt
  obtain ⟨es, clock, hb, r⟩ := h
  exact ⟨es, clock, (Below.block E b hlt).trans hb, r⟩
theorem MapOf.grown {w w' : World} {b : Nat} {m : List (K × V)} {row : Option Nat} (h : MapOf enc ev w b m) (g : w.grownBy w' row) (hr : some b ≠ row) : MapOf enc ev w' b m := by
  have hlt := h.lt
  obtain ⟨es, clock, hb, r⟩ := h
  exact ⟨es, clock, (g.block b hlt hr).trans hb, r⟩
theorem MapOf.made (w : World) : MapOf enc ev (w.alloc (.map #[] 0)) w.heap.size ([] : List (K × V)) :=
  ⟨#[], 0, (MapKept.heap_alloc w _).1, rfl, by simp, by simp⟩

/-- A map made: the new world under one name. -/
theorem mapbox_ (enc : K → Value) (ev : V → Value) (w : World) : ∃ W, w.alloc (.map #[] 0) = W ∧ Ext w W ∧ MapOf enc ev W w.heap.size [] ∧ W.heap.size = w.heap.size + 1 :=
  ⟨_, rfl, (Ext.refl w).alloc _, MapOf.made w, by simp⟩
variable [DecidableEq K]
theorem find_run (E : KeyEnc P k enc) (w : World) (x : K) : ∀ (es : List MapEntry) (m : List (K × V)) (i : Nat), es.map (fun e => (e.key, e.val)) = m.map (fun p => (enc p.1, ev p.2)) →
    (Instr.findAsking k (enc x) es i).run P w = .ok ((lookAt m x i).map fun r => (r.1, ev r.2)) w
  | [], [], i, _ => by simp [Instr.findAsking, lookAt]
  | [], p :: m, _, h => by simp at h
  | e :: es, [], _, h => by simp at h
  | e :: es, p :: m, i, h => by
    simp only [List.map_cons, List.cons.injEq, Prod.mk.injEq] at h
    obtain ⟨⟨h1, h2⟩, h3⟩ := h
    have ih := find_run E w x es m (i + 1) h3
    unfold lookAt
    by_cases hx : x = p.1
    · simp [Instr.findAsking, h1, E.eq, hx, h2]
    · simp [Instr.findAsking, h1, E.eq, hx, ih]

theorem lookup_run (E : KeyEnc P k enc) {t e : TypeId} (ht : P.underlying t = some (.map k e)) {w : World} {z : Value} (hz : (zeroValue e).run P w = .ok z w) {b : Nat} {m : List (K × V)} (h : MapOf enc ev w b m) (x : K) (ok : Bool) :
    (Instr.lookup t (.map (some b)) (enc x) ok).run P w = .ok (match getK m x with
      | some v => if ok then .tuple #[ev v, .bool true] else ev v
      | none => if ok then .tuple #[z, .bool false] else z) w := by
  obtain ⟨es, clock, hb, hm, _⟩ := h
  have hf := find_run E w x es.toList m 0 hm
  rw [← run_findKey_eq w E.wide] at hf
  rw [← lookAt_getK m x 0]
  cases hl : lookAt m x 0 with
  | none =>
    rw [hl] at hf
    simp [Instr.lookup, run_underlying ht, MapKept.run_getObj_map hb, E.check, hf, hz, Result.andThen]
  | some r =>
    rw [hl] at hf
    simp [Instr.lookup, run_underlying ht, MapKept.run_getObj_map hb, E.check, hf, Result.andThen]

/-- A store. -/
theorem update_run (E : KeyEnc P k enc) {t e : TypeId} (ht : P.underlying t = some (.map k e)) {w : World} {b : Nat} {m : List (K × V)} (h : MapOf enc ev w b m) (x : K) (v : V) :
    ∃ w', (Instr.mapUpdate t (.map (some b)) (enc x) (ev v)).run P w = .ok () w' ∧ MapOf enc ev w' b (putK m x v) ∧ w.grownBy w' (some b) ∧ w'.heap.size = w.heap.size := by
  obtain ⟨es, clock, hb, hm, hs1, hs2⟩ := h
  have hf := find_run E w x es.toList m 0 hm
  rw [← run_findKey_eq w E.wide] at hf
  have grown : ∀ o, w.grownBy (ChangeMaps.setBlock w b o) (some b) := fun o => ⟨rfl, rfl, rfl, by simp [ChangeMaps.setBlock], fun i _ hi => ChangeMaps.heap_setBlock_other hb _ (fun e => hi (by rw [e]))⟩
  have hsz : ∀ o, (ChangeMaps.setBlock w b o).heap.size = w.heap.size := fun o => by simp [ChangeMaps.setBlock]
  cases hl : lookAt m x 0 with
  | none =>
    rw [hl] at hf
    refine ⟨ChangeMaps.setBlock w b (.map (es.push { key := enc x, val := ev v, born := clock }) (clock + 1)), ?_, ⟨_, _, ChangeMaps.heap_setBlock_same hb _, ?_, ?_, ?_⟩, grown _, hsz _⟩
    · simp [Instr.mapUpdate, run_underlying ht, MapKept.run_getObj_map hb, E.check, hf, MapKept.run_setObj_map _ hb, Result.andThen, ChangeMaps.setBlock]
    · rw [lookAt_none hl]
      simp [hm]
    · intro y hy
      simp only [Array.toList_push, List.mem_append, List.mem_singleton] at hy
      rcases hy with hy | rfl
      · exact Nat.lt_succ_of_lt (hs1 y hy)
      · exact Nat.lt_succ_self _
    · simp only [Array.toList_push, List.map_append, List.map_cons, List.map_nil]
      refine List.nodup_append.2 ⟨hs2, by simp, ?_⟩
      intro a ha b hb
      simp only [List.mem_singleton] at hb
      subst hb
      obtain ⟨y, hy, rfl⟩ := List.mem_map.1 ha
      exact Nat.ne_of_lt (hs1 y hy)
  | some r =>
    obtain ⟨j, u⟩ := r
    rw [hl] at hf
    obtain ⟨j', hj', h1, h2⟩ := lookAt_some hl v
    obtain rfl : j = j' := by omega
    have hlen : es.toList.length = m.length := by
      have := congrArg List.length hm
      simpa using this
    have hjl : j < es.toList.length := by
      rw [hlen]
      exact (List.getElem?_eq_some_iff.1 h1).1
    have hjm : (es.toList.map (fun e => (e.key, e.val)))[j]? = some (enc x, ev u) := by
      rw [hm, List.getElem?_map, h1]
      rfl
    obtain ⟨e0, hej⟩ : ∃ e0, es.toList[j]? = some e0 := ⟨_, List.getElem?_eq_getElem hjl⟩
    have hmem : e0 ∈ es.toList := List.mem_of_getElem? hej
    have hkey : e0.key = enc x := by
      rw [List.getElem?_map, hej] at hjm
      simp only [Option.map_some, Option.some.injEq, Prod.mk.injEq] at hjm
      exact hjm.1
    have hej' : es[j]? = some e0 := by rw [← hej]; simp
    have hlist : (es.modify j (fun e' => { e' with key := enc x, val := ev v })).toList = es.toList.set j { e0 with key := enc x, val := ev v } := by
      rw [Array.toList_modify, ChangeMaps.modify_eq_set _ _ _ _ hej]
    refine ⟨ChangeMaps.setBlock w b (.map (es.modify j (fun e' => { e' with key := enc x, val := ev v })) clock), ?_, ⟨_, _, ChangeMaps.heap_setBlock_same hb _, ?_, ?_, ?_⟩, grown _, hsz _⟩
    · simp [Instr.mapUpdate, run_underlying ht, MapKept.run_getObj_map hb, E.check, hf, hej', hkey, Instr.keyThatStays, E.same, MapKept.run_setObj_map _ hb, Result.andThen, ChangeMaps.setBlock]
    · rw [hlist, h2, List.map_set, List.map_set, hm]
    · intro y hy
      rw [hlist] at hy
      rcases List.mem_or_eq_of_mem_set hy with hy | rfl
      · exact hs1 y hy
      · exact hs1 e0 hmem
    · rw [hlist, List.map_set]
      have : (es.toList.map (·.born)).set j e0.born = es.toList.map (·.born) := by
        apply List.ext_getElem?
        intro i
        rw [List.getElem?_set]
        split
        · rename_i hji
          subst hji
          rw [if_pos (by simpa using hjl), List.getElem?_map, hej]
          rfl
        · rfl
      rw [this]
      exact hs2
/-- A store at the operation. -/
theorem wpList_put (E : KeyEnc P k enc) {w : World} {ops : Array Oper} {rest : List Oper} {o : Oper} {a : Act} {Q : Exit → Act → World → Prop}
    (hg : o.guard = none) (mo xo vo : Operand) (t : TypeId) (hop : o.op = Op.mapUpdate t mo xo vo) (e : TypeId) (ht : P.underlying t = some (.map k e)) (b : Nat) (m : List (K × V)) (x : K) (v : V)
    (hm : a.eval mo = .map (some b)) (hown : MapOf enc ev w b m) (hx : a.eval xo = enc x) (hv : a.eval vo = ev v)
    (hK : ∀ w', MapOf enc ev w' b (putK m x v) → w.grownBy w' (some b) → w'.heap.size = w.heap.size → wpList P ops Q rest (a.put o.dst undef) w') : wpList P ops Q (o :: rest) a w := by
  refine wpList_plain hg fun K' hK' => ?_
  obtain ⟨w', hrun, r1, r2, r3⟩ := update_run E ht hown x v
  unfold Oper.wp
  simp [execOp, hop, hm, hx, hv, hrun, Result.andThen]
  exact hK' _ _ (hK w' r1 r2 r3)
end
end Go.Proofs.Ytpikemglnnjemaa
