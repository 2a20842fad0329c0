/- Maps that the call makes, whose keys are structs or arrays: they read as lists of pairs. The keys of the maps of layer 7. What each sort covers, if its least corner is a full cell. append of one element onto a row of the call's own, as a step of a region or of a walk. The plain side of look: places, neighbours, pairs; owned rows of two types lie apart; worlds in which one block and new ones have turned. -/
import Derived.Test.YtaaeapjnjjbglaaDoorCm1
import Derived.Maps.Own
import Derived.WideKeyRuns
import Derived.ChangeKeysEq
import Derived.Laws.StructEq
import Derived.Deep.RegionHeld3
import Derived.Deep.RegionLaw

namespace Go.Proofs.YtaaeapjnjjbglaaDoor
open Go.RowKit

/-! ### lists of pairs -/
section
variable {K V : Type} [DecidableEq K]
/-- Where a key stands, and what it has. -/
def lookAt : List (K × V) → K → Nat → Option (Nat × V)
  | [], _, _ => none
  | p :: m, x, i => if x = p.1 then some (i, p.2) else lookAt m x (i + 1)
def getK : List (K × V) → K → Option V
  | [], _ => none
  | p :: m, x => if x = p.1 then some p.2 else getK m x
def putK : List (K × V) → K → V → List (K × V)
  | [], x, v => [(x, v)]
  | p :: m, x, v => if x = p.1 then (x, v) :: m else p :: putK m x v
theorem getK_putK (m : List (K × V)) (x y : K) (v : V) : getK (putK m x v) y = if y = x then some v else getK m y := by
  induction m with
  | nil => rfl
  | cons p m ih =>
    unfold putK
    by_cases h : x = p.1
    · rw [if_pos h]
      unfold getK
      simp only
      by_cases hy : y = x
      · rw [if_pos hy, if_pos hy]
      · rw [if_neg hy, if_neg hy, if_neg (by rw [← h]; exact hy)]
    · rw [if_neg h]
      unfold getK
      rw [ih]
      by_cases hy : y = p.1
      · rw [if_pos hy, if_pos hy, if_neg (fun e => h (by rw [← e, hy]))]
      · rw [if_neg hy, if_neg hy]
theorem lookAt_getK (m : List (K × V)) (x : K) (i : Nat) : (lookAt m x i).map (·.2) = getK m x := by
  induction m generalizing i with
  | nil => rfl
  | cons p m ih =>
    unfold lookAt getK
    split
    · rfl
    · exact ih _
theorem lookAt_none {m : List (K × V)} {x : K} {i : Nat} (h : lookAt m x i = none) (v : V) : putK m x v = m ++ [(x, v)] := by
  induction m generalizing i with
  | nil => rfl
  | cons p m ih =>
    unfold lookAt at h
    unfold putK
    split at h
    · cases h
    · rename_i hx
      rw [if_neg hx, ih h]
      rfl
theorem lookAt_some {m : List (K × V)} {x : K} {i j : Nat} {u : V} (h : lookAt m x i = some (j, u)) (v : V) : ∃ k, j = i + k ∧ m[k]? = some (x, u) ∧ putK m x v = m.set k (x, v) := by
  induction m generalizing i with
  | nil => cases h
  | cons p m ih =>
    unfold lookAt at h
    unfold putK
    split at h
    · rename_i hx
      cases h
      refine ⟨0, rfl, ?_, ?_⟩
      · rw [hx]
        rfl
      · rw [if_pos hx]
        rfl
    · rename_i hx
      obtain ⟨k, rfl, h1, h2⟩ := ih h
      refine ⟨k + 1, by omega, h1, ?_⟩
      rw [if_neg hx, h2]
      rfl
theorem putK_len (m : List (K × V)) (x : K) (v : V) : (putK m x v).length ≤ m.length + 1 := by
  induction m with
  | nil => exact Nat.le_refl _
  | cons p m ih =>
    unfold putK
    split
    · simp
    · simp only [List.length_cons]
      omega
theorem putK_keys (m : List (K × V)) (x : K) (v : V) (h : (m.map (·.1)).Nodup) : ((putK m x v).map (·.1)).Nodup := by
  cases hl : lookAt m x 0 with
  | none =>
    rw [lookAt_none hl]
    have hx : ∀ (m : List (K × V)) (i : Nat), lookAt m x i = none → x ∉ m.map (·.1) := by
      intro m
      induction m with
      | nil => intro _ _; simp
      | cons p m ih =>
        intro i hi
        unfold lookAt at hi
        split at hi
        · cases hi
        · rename_i hne
          simp only [List.map_cons, List.mem_cons, not_or]
          exact ⟨hne, ih _ hi⟩
    rw [List.map_append, List.nodup_append]
    refine ⟨h, by simp, fun a ha b hb => ?_⟩
    simp only [List.map_cons, List.map_nil, List.mem_singleton] at hb
    rintro rfl
    subst hb
    exact hx m 0 hl ha
  | some r =>
    obtain ⟨j, u⟩ := r
    obtain ⟨k, _, h1, h2⟩ := lookAt_some hl v
    rw [h2]
    have : (m.set k (x, v)).map (·.1) = m.map (·.1) := by
      apply List.ext_getElem?
      intro i
      simp only [List.getElem?_map, List.getElem?_set]
      split
      · subst_vars
        rw [h1]
        split <;> simp_all
      · rfl
    rw [this]
    exact h
end

/-! ### in memory -/
/-- What the walk needs of a type of keys. -/
structure KeyEnc (P : Program) (k : TypeId) {K : Type} [DecidableEq K] (enc : K → Value) : Prop where
  wide : (match P.underlying k with | some (.array _ _) | some (.struct _) => true | _ => false) = true
  eq : ∀ w x y, (Op.equal k (enc x) (enc y)).run P w = .ok (decide (x = y)) w
  check : ∀ w em x, (Instr.checkKey em 10000 k (enc x)).run P w = .ok () w
  same : ∀ x, Instr.sameBits 10000 (enc x) (enc x) = true

section
variable {P : Program} {k : TypeId} {K V : Type} {enc : K → Value} {ev : V → Value}

/-- Block b is a map of these pairs. -/
def MapOf (enc : K → Value) (ev : V → Value) (w : World) (b : Nat) (m : List (K × V)) : Prop :=
  ∃ es clock, w.heap[b]? = some (.map es clock) ∧ es.toList.map (fun e => (e.key, e.val)) = m.map (fun p => (enc p.1, ev p.2)) ∧ (∀ e ∈ es.toList, e.born < clock) ∧ (es.toList.map (·.born)).Nodup

theorem MapOf.lt {w : World} {b : Nat} {m : List (K × V)} (h : MapOf enc ev w b m) : b < w.heap.size := by
  obtain ⟨es, clock, hb, _⟩ := h
  exact (Array.getElem?_eq_some_iff.1 hb).1
theorem MapOf.ext {w w' : World} {b : Nat} {m : List (K × V)} (h : MapOf enc ev w b m) (E : Ext w w') : MapOf enc ev w' b m := by
  have hlt := h.lt
  obtain ⟨es, clock, hb, r⟩ := h
  exact ⟨es, clock, (Below.block E b hlt).trans hb, r⟩
theorem MapOf.grown {w w' : World} {b : Nat} {m : List (K × V)} {row : Option Nat} (h : MapOf enc ev w b m) (g : w.grownBy w' row) (hr : some b ≠ row) : MapOf enc ev w' b m := by
  have hlt := h.lt
  obtain ⟨es, clock, hb, r⟩ := h
  exact ⟨es, clock, (g.block b hlt hr).trans hb, r⟩
theorem MapOf.made (w : World) : MapOf enc ev (w.alloc (.map #[] 0)) w.heap.size ([] : List (K × V)) :=
  ⟨#[], 0, (MapKept.heap_alloc w _).1, rfl, by simp, by simp⟩

/-- A map made: the new world under one name. -/
theorem mapbox_ (enc : K → Value) (ev : V → Value) (w : World) : ∃ W, w.alloc (.map #[] 0) = W ∧ Ext w W ∧ MapOf enc ev W w.heap.size [] ∧ W.heap.size = w.heap.size + 1 :=
  ⟨_, rfl, (Ext.refl w).alloc _, MapOf.made w, by simp⟩
variable [DecidableEq K]
theorem find_run (E : KeyEnc P k enc) (w : World) (x : K) : ∀ (es : List MapEntry) (m : List (K × V)) (i : Nat), es.map (fun e => (e.key, e.val)) = m.map (fun p => (enc p.1, ev p.2)) →
    (Instr.findAsking k (enc x) es i).run P w = .ok ((lookAt m x i).map fun r => (r.1, ev r.2)) w
  | [], [], i, _ => by simp [Instr.findAsking, lookAt]
  | [], p :: m, _, h => by simp at h
  | e :: es, [], _, h => by simp at h
  | e :: es, p :: m, i, h => by
    simp only [List.map_cons, List.cons.injEq, Prod.mk.injEq] at h
    obtain ⟨⟨h1, h2⟩, h3⟩ := h
    have ih := find_run E w x es m (i + 1) h3
    unfold lookAt
    by_cases hx : x = p.1
    · simp [Instr.findAsking, h1, E.eq, hx, h2]
    · simp [Instr.findAsking, h1, E.eq, hx, ih]

theorem lookup_run (E : KeyEnc P k enc) {t e : TypeId} (ht : P.underlying t = some (.map k e)) {w : World} {z : Value} (hz : (zeroValue e).run P w = .ok z w) {b : Nat} {m : List (K × V)} (h : MapOf enc ev w b m) (x : K) (ok : Bool) :
    (Instr.lookup t (.map (some b)) (enc x) ok).run P w = .ok (match getK m x with
      | some v => if ok then .tuple #[ev v, .bool true] else ev v
      | none => if ok then .tuple #[z, .bool false] else z) w := by
  obtain ⟨es, clock, hb, hm, _⟩ := h
  have hf := find_run E w x es.toList m 0 hm
  rw [← run_findKey_eq w E.wide] at hf
  rw [← lookAt_getK m x 0]
  cases hl : lookAt m x 0 with
  | none =>
    rw [hl] at hf
    simp [Instr.lookup, run_underlying ht, MapKept.run_getObj_map hb, E.check, hf, hz, Result.andThen]
  | some r =>
    rw [hl] at hf
    simp [Instr.lookup, run_underlying ht, MapKept.run_getObj_map hb, E.check, hf, Result.andThen]

/-- A store. -/
theorem update_run (E : KeyEnc P k enc) {t e : TypeId} (ht : P.underlying t = some (.map k e)) {w : World} {b : Nat} {m : List (K × V)} (h : MapOf enc ev w b m) (x : K) (v : V) :
    ∃ w', (Instr.mapUpdate t (.map (some b)) (enc x) (ev v)).run P w = .ok () w' ∧ MapOf enc ev w' b (putK m x v) ∧ w.grownBy w' (some b) ∧ w'.heap.size = w.heap.size := by
  obtain ⟨es, clock, hb, hm, hs1, hs2⟩ := h
  have hf := find_run E w x es.toList m 0 hm
  rw [← run_findKey_eq w E.wide] at hf
  have grown : ∀ o, w.grownBy (ChangeMaps.setBlock w b o) (some b) := fun o => ⟨rfl, rfl, rfl, by simp [ChangeMaps.setBlock], fun i _ hi => ChangeMaps.heap_setBlock_other hb _ (fun e => hi (by rw [e]))⟩
  have hsz : ∀ o, (ChangeMaps.setBlock w b o).heap.size = w.heap.size := fun o => by simp [ChangeMaps.setBlock]
  cases hl : lookAt m x 0 with
  | none =>
    rw [hl] at hf
    refine ⟨ChangeMaps.setBlock w b (.map (es.push { key := enc x, val := ev v, born := clock }) (clock + 1)), ?_, ⟨_, _, ChangeMaps.heap_setBlock_same hb _, ?_, ?_, ?_⟩, grown _, hsz _⟩
    · simp [Instr.mapUpdate, run_underlying ht, MapKept.run_getObj_map hb, E.check, hf, MapKept.run_setObj_map _ hb, Result.andThen, ChangeMaps.setBlock]
    · rw [lookAt_none hl]
      simp [hm]
    · intro y hy
      simp only [Array.toList_push, List.mem_append, List.mem_singleton] at hy
      rcases hy with hy | rfl
      · exact Nat.lt_succ_of_lt (hs1 y hy)
      · exact Nat.lt_succ_self _
    · simp only [Array.toList_push, List.map_append, List.map_cons, List.map_nil]
      refine List.nodup_append.2 ⟨hs2, by simp, ?_⟩
      intro a ha b hb
      simp only [List.mem_singleton] at hb
      subst hb
      obtain ⟨y, hy, rfl⟩ := List.mem_map.1 ha
      exact Nat.ne_of_lt (hs1 y hy)
  | some r =>
    obtain ⟨j, u⟩ := r
    rw [hl] at hf
    obtain ⟨j', hj', h1, h2⟩ := lookAt_some hl v
    obtain rfl : j = j' := by omega
    have hlen : es.toList.length = m.length := by
      have := congrArg List.length hm
      simpa using this
    have hjl : j < es.toList.length := by
      rw [hlen]
      exact (List.getElem?_eq_some_iff.1 h1).1
    have hjm : (es.toList.map (fun e => (e.key, e.val)))[j]? = some (enc x, ev u) := by
      rw [hm, List.getElem?_map, h1]
      rfl
    obtain ⟨e0, hej⟩ : ∃ e0, es.toList[j]? = some e0 := ⟨_, List.getElem?_eq_getElem hjl⟩
    have hmem : e0 ∈ es.toList := List.mem_of_getElem? hej
    have hkey : e0.key = enc x := by
      rw [List.getElem?_map, hej] at hjm
      simp only [Option.map_some, Option.some.injEq, Prod.mk.injEq] at hjm
      exact hjm.1
    have hej' : es[j]? = some e0 := by rw [← hej]; simp
    have hlist : (es.modify j (fun e' => { e' with key := enc x, val := ev v })).toList = es.toList.set j { e0 with key := enc x, val := ev v } := by
      rw [Array.toList_modify, ChangeMaps.modify_eq_set _ _ _ _ hej]
    refine ⟨ChangeMaps.setBlock w b (.map (es.modify j (fun e' => { e' with key := enc x, val := ev v })) clock), ?_, ⟨_, _, ChangeMaps.heap_setBlock_same hb _, ?_, ?_, ?_⟩, grown _, hsz _⟩
    · simp [Instr.mapUpdate, run_underlying ht, MapKept.run_getObj_map hb, E.check, hf, hej', hkey, Instr.keyThatStays, E.same, MapKept.run_setObj_map _ hb, Result.andThen, ChangeMaps.setBlock]
    · rw [hlist, h2, List.map_set, List.map_set, hm]
    · intro y hy
      rw [hlist] at hy
      rcases List.mem_or_eq_of_mem_set hy with hy | rfl
      · exact hs1 y hy
      · exact hs1 e0 hmem
    · rw [hlist, List.map_set]
      have : (es.toList.map (·.born)).set j e0.born = es.toList.map (·.born) := by
        apply List.ext_getElem?
        intro i
        rw [List.getElem?_set]
        split
        · rename_i hji
          subst hji
          rw [if_pos (by simpa using hjl), List.getElem?_map, hej]
          rfl
        · rfl
      rw [this]
      exact hs2
/-- A store at the operation. -/
theorem wpList_put (E : KeyEnc P k enc) {w : World} {ops : Array Oper} {rest : List Oper} {o : Oper} {a : Act} {Q : Exit → Act → World → Prop}
    (hg : o.guard = none) (mo xo vo : Operand) (t : TypeId) (hop : o.op = Op.mapUpdate t mo xo vo) (e : TypeId) (ht : P.underlying t = some (.map k e)) (b : Nat) (m : List (K × V)) (x : K) (v : V)
    (hm : a.eval mo = .map (some b)) (hown : MapOf enc ev w b m) (hx : a.eval xo = enc x) (hv : a.eval vo = ev v)
    (hK : ∀ w', MapOf enc ev w' b (putK m x v) → w.grownBy w' (some b) → w'.heap.size = w.heap.size → wpList P ops Q rest (a.put o.dst undef) w') : wpList P ops Q (o :: rest) a w := by
  refine wpList_plain hg fun K' hK' => ?_
  obtain ⟨w', hrun, r1, r2, r3⟩ := update_run E ht hown x v
  unfold Oper.wp
  simp [execOp, hop, hm, hx, hv, hrun, Result.andThen]
  exact hK' _ _ (hK w' r1 r2 r3)
end
end Go.Proofs.YtaaeapjnjjbglaaDoor

namespace Go.Proofs.YtaaeapjnjjbglaaDoor
open Go.RowKit

/-- A plate, turned or not. -/
def encSort (x : Int × Bool) : Value := .agg #[.int .i64 x.1, .bool x.2]
theorem sort_eq (w : World) (a c : Int) (b d : Bool) : (Op.equal 136 (.agg #[.int .i64 a, .bool b]) (.agg #[.int .i64 c, .bool d])).run Tryd.prog w = .ok (decide (a = c) && decide (b = d)) w := by
  have u3 := Tryd.underlying3
  have u4 := Tryd.underlying4
  have hS : Tryd.prog.underlying 136 = some (.struct (Tryd.prog.fieldsOf 136)) := by kernel_rfl
  have hp : Tryd.prog.stoodInHeld 136 = false := by kernel_rfl
  rw [Op.equal, Op.maxDepth, show (10000 : Nat) = 9999 + 1 from rfl, run_equalIn_agg w 9999 _ _ _ hS hp]
  simp only [Program.fieldsOf, Tryd.underlying136]
  go_simp
  by_cases h1 : a = c <;> cases b <;> cases d <;> simp [h1]
theorem sortKey : KeyEnc Tryd.prog 136 encSort where
  wide := by kernel_rfl
  eq w x y := by
    obtain ⟨a, b⟩ := x
    obtain ⟨c, d⟩ := y
    rw [encSort, encSort, sort_eq]
    simp
  check w em x := by
    obtain ⟨a, b⟩ := x
    show (Instr.checkKey em 10000 136 (.agg #[.int .i64 a, .bool b])).run Tryd.prog w = .ok () w
    kernel_rfl
  same x := by
    obtain ⟨a, b⟩ := x
    simp [encSort, Instr.sameBits]
/-- A pair of numbers. -/
def encPair (x : Int × Int) : Value := .agg #[.int .i64 x.1, .int .i64 x.2]
theorem pair_eq (w : World) (a b c d : Int) : (Op.equal 125 (.agg #[.int .i64 a, .int .i64 b]) (.agg #[.int .i64 c, .int .i64 d])).run Tryd.prog w = .ok (decide (a = c) && decide (b = d)) w := by
  have u3 := Tryd.underlying3
  have hS : Tryd.prog.underlying 125 = some (.array 2 3) := by kernel_rfl
  have hc : Tryd.prog.cellsOf 3 = 1 := by kernel_rfl
  obtain ⟨i, hi⟩ : ∃ i, Tryd.prog.info? 3 = some i := Option.isSome_iff_exists.1 (by kernel_rfl)
  rw [Op.equal, Op.maxDepth, show (10000 : Nat) = 9999 + 1 from rfl, run_equalIn_array w 9999 _ _ hS hi, hc]
  clear hi
  simp only [show List.range 2 = [0, 1] from rfl, Op.eqItems]
  go_simp
  by_cases h1 : a = c <;> by_cases h2 : b = d <;> simp [h1, h2]
theorem pairKey : KeyEnc Tryd.prog 125 encPair where
  wide := by kernel_rfl
  eq w x y := by
    obtain ⟨a, b⟩ := x
    obtain ⟨c, d⟩ := y
    rw [encPair, encPair, pair_eq]
    simp
  check w em x := by
    obtain ⟨a, b⟩ := x
    show (Instr.checkKey em 10000 125 (.agg #[.int .i64 a, .int .i64 b])).run Tryd.prog w = .ok () w
    kernel_rfl
  same x := by
    obtain ⟨a, b⟩ := x
    simp [encPair, Instr.sameBits]
end Go.Proofs.YtaaeapjnjjbglaaDoor

namespace Go.Proofs.YtaaeapjnjjbglaaDoor
open Go.RowKit

def encSet (m : Nat) : Value := .int .u32 (m : Int)
/-- What a plate covers from a place on; its colour is that of the place. -/
def layP (s : Shape) (x y z color : Int) (p : Plate) (t : Bool) : Option Nat :=
  if p.color ≠ 0 ∧ p.color ≠ color then none else if t = true ∧ p.W = p.D then none
  else blockS s x y z (if t then p.D.toNat else p.W.toNat) (if t then p.W.toNat else p.D.toNat) color
/-- What a sort covers from a place on. -/
def layF (s : Shape) (l : List Plate) (x y z color : Int) (k : Nat) (q : Int × Bool) : Option Nat :=
  if 0 ≤ q.1 ∧ q.1 < k then layP s x y z color (plateAt l q.1.toNat) q.2 else none

theorem layF_succ (s : Shape) (l : List Plate) (x y z color : Int) (k : Nat) (q : Int × Bool) : layF s l x y z color (k + 1) q = if q.1 = k then layP s x y z color (plateAt l k) q.2 else layF s l x y z color k q := by
  unfold layF
  by_cases h : q.1 = k
  · rw [if_pos h, if_pos (by omega), h]
    rfl
  · rw [if_neg h]
    by_cases h2 : 0 ≤ q.1 ∧ q.1 < k
    · rw [if_pos h2, if_pos (by omega)]
    · rw [if_neg h2, if_neg (by omega)]
/-- The map when, of the plate k, the first j ways have been looked at. -/
def layG (s : Shape) (l : List Plate) (x y z color : Int) (k j : Nat) (q : Int × Bool) : Option Nat :=
  if q.1 = k ∧ q.2.toNat < j then layP s x y z color (plateAt l k) q.2 else layF s l x y z color k q
theorem layG_two (s : Shape) (l : List Plate) (x y z color : Int) (k : Nat) (q : Int × Bool) : layG s l x y z color k 2 q = layF s l x y z color (k + 1) q := by
  rw [layF_succ]
  unfold layG
  by_cases h : q.1 = k
  · rw [if_pos ⟨h, by cases q.2 <;> simp⟩, if_pos h]
  · rw [if_neg (fun e => h e.1), if_neg h]
theorem layF_self (s : Shape) (l : List Plate) (x y z color : Int) (k : Nat) (t : Bool) : layF s l x y z color k ((k : Int), t) = none := by
  unfold layF
  rw [if_neg (by simp)]
theorem layG_step {s : Shape} {l : List Plate} {x y z color : Int} {k : Nat} {t : Bool} {f : Int × Bool → Option Nat} (h : ∀ q, f q = layG s l x y z color k t.toNat q) {r : Option Nat} (hr : layP s x y z color (plateAt l k) t = r) (q : Int × Bool) :
    layG s l x y z color k (t.toNat + 1) q = if q = ((k : Int), t) then r else f q := by
  obtain ⟨a, b⟩ := q
  rw [h]
  unfold layG
  by_cases hk : a = k
  · subst hk
    cases t <;> cases b <;> simp [hr, layF_self]
  · have h1 : ¬ ((a, b) : Int × Bool) = ((k : Int), t) := fun e => hk (by injection e)
    rw [if_neg (fun e => hk e.1), if_neg h1, if_neg (fun e => hk e.1)]

theorem layG_1 {s : Shape} {l : List Plate} {x y z color : Int} {k : Nat} {f : Int × Bool → Option Nat} (h : ∀ q, f q = layG s l x y z color k 0 q) {r : Option Nat} (hr : layP s x y z color (plateAt l k) false = r) (q : Int × Bool) :
    layG s l x y z color k 1 q = if q = ((k : Int), false) then r else f q := layG_step (t := false) h hr q
theorem layG_2 {s : Shape} {l : List Plate} {x y z color : Int} {k : Nat} {f : Int × Bool → Option Nat} (h : ∀ q, f q = layG s l x y z color k 1 q) {r : Option Nat} (hr : layP s x y z color (plateAt l k) true = r) (q : Int × Bool) :
    layG s l x y z color k 2 q = if q = ((k : Int), true) then r else f q := layG_step (t := true) h hr q

structure Plate.Ok (p : Plate) : Prop where
  w : 1 ≤ p.W ∧ p.W ≤ p.D
  d : p.D ≤ 8
  n : 0 ≤ p.N ∧ p.N ≤ 99
  color : p.color ≤ 15
theorem plate_ok {l : List Plate} (h : platesB l = true) {i : Nat} {p : Plate} (hp : l[i]? = some p) : p.Ok := by
  unfold platesB at h
  rw [Bool.and_eq_true, List.all_eq_true] at h
  have hi : i < l.length := (List.getElem?_eq_some_iff.1 hp).1
  have h1 := h.2 i (List.mem_range.2 hi)
  unfold okAt at h1
  rw [Bool.and_eq_true, plateAt_eq hp] at h1
  have h2 := h1.1
  simp only [Plate.one, Bool.and_eq_true, inB_iff, decide_eq_true_eq] at h2
  obtain ⟨a, b, c, d⟩ := h2
  exact ⟨a, b, c, d⟩
theorem plates_len {l : List Plate} (h : platesB l = true) : 1 ≤ l.length ∧ l.length ≤ 8 := by
  unfold platesB at h
  rw [Bool.and_eq_true, inB_iff] at h
  omega

/-- The board with its plates. -/
structure Brd (w : World) (g : Nat) (s : Shape) (A : Option Addr) (cap : Nat) (NA : Option Addr) (ncap : Nat) (l : List Plate) (PA : Option Addr) (pcap : Nat) : Prop where
  base : Base w g s A cap NA ncap
  c4 : w.cell? ⟨g, 4, none⟩ = some (.slice PA l.length pcap)
  plates : Plates w PA pcap l
theorem Brd.ext {w w' : World} {g : Nat} {s : Shape} {A : Option Addr} {cap : Nat} {NA : Option Addr} {ncap : Nat} {l : List Plate} {PA : Option Addr} {pcap : Nat} (h : Brd w g s A cap NA ncap l PA pcap) (e : Ext w w') :
    Brd w' g s A cap NA ncap l PA pcap := ⟨h.base.ext e, e.cell h.c4, h.plates.ext e⟩

set_option maxRecDepth 100000 in
set_option maxHeartbeats 4000000 in
theorem lay_c (x y z color : Int) (g : Nat) (s : Shape) (A : Option Addr) (cap : Nat) (NA : Option Addr) (ncap : Nat) (l : List Plate) (PA : Option Addr) (pcap : Nat) (ok : s.Ok) (okl : platesB l = true)
    (hin : s.inside x y z = true) (hcol : s.cells[(s.idx x y z).toNat]? = some color) (w : World) (h : Brd w g s A cap NA ncap l PA pcap) :
    Calls Tryd.prog 64 #[.pointer (some ⟨g, 0, none⟩), .int .i64 x, .int .i64 y, .int .i64 z] w fun e w' =>
      (∃ M m, e = .returned (.map (some M)) ∧ w.heap.size ≤ M ∧ MapOf encSort encSet w' M m ∧ ∀ q, getK m q = layF s l x y z color l.length q) ∧ Ext w w' := by
  have hmm := @run_makeMap Tryd.prog
  have hl8 := plates_len okl
  obtain ⟨i1, i2, i3, i4, i5, i6, i7⟩ := s.idx_in ok hin
  obtain ⟨W0, hW0, E0, M0, hz0⟩ := mapbox_ encSort encSet w
  have h0 := h.ext E0
  obtain ⟨b, off, c, rfl, hc, hok, hbl, hcell⟩ := h0.base.bytes.at_ (k := (s.idx x y z).toNat) (by omega)
  obtain rfl : color = c := by rw [hcol] at hc; cases hc; rfl
  have hin' := hin
  simp only [Shape.inside, Bool.and_eq_true, inB_iff] at hin'
  obtain ⟨⟨x1, x2⟩, ⟨y1, y2⟩, z1, z2⟩ := hin'
  have w1' := ok.w
  have d1' := ok.d
  have Hcol := Lib.hid hcol
  clear hc hcol
  have ei : (z * s.D + y) * s.W + x = s.idx x y z := rfl
  obtain ⟨c0, c1, c2, c3, c5, -, -⟩ := h0.base
  have c4 := h0.c4
  go_enter Tryd.func64, Tryd.ntmps64
  go_wp2_with fail
  refine wp_region_grow (by kernel_rfl) (by kernel_rfl) ?_
  repeat (go_big_quiet_step (fail))
  refine wpQuiet_nil ?_
  intro W1 hW1
  have E1 : Ext W0 W1 := by
    obtain ⟨x, rfl⟩ := hW1
    exact (Ext.refl _).grow x
  clear hW1
  obtain ⟨hcW1, hfW1, hzW1⟩ := ext_facts E1
  clear hmm
  have E01 := E0.trans E1
  have M1 := M0.ext E1
  have hM := M1.lt
  obtain ⟨M, hMe⟩ : ∃ M, w.heap.size = M := ⟨_, rfl⟩
  have hwM : w.heap.size ≤ M := by omega
  rw [hMe] at M1
  rw [hMe]
  have HMe := Lib.hid hMe
  clear hMe hcW1 hfW1 hzW1 c0 c1 c2 c3 c4 c5 hcell M0
  have h1 := h0.ext E1
  have c4 := h1.c4
  go_wp2_with fail
  go_loopw [49] (fun i wr => ∃ (k : Nat) (m : List ((Int × Bool) × Nat)), k ≤ l.length ∧ i = .int .i64 k ∧ Ext w wr ∧ MapOf encSort encSet wr M m ∧ ∀ q, getK m q = layF s l x y z color k q) (fun i _ => l.length - (intOf i).toNat)
  case atStart =>
    refine ⟨0, [], by omega, rfl, E01, M1, fun q => ?_⟩
    unfold layF
    rw [if_neg (by omega)]
    rfl
  case round =>
    obtain ⟨k, m, hk, rfl, E, hM1, hget⟩ := hrel
    have Hget := Lib.hid hget
    clear hget
    clear h1 c4 M1 hM E1 E01 E0 hz0 h0
    have hr := h.ext E
    by_cases hlt : k < l.length
    · obtain ⟨pb, poff, p, rfl, hp, hpb, p0, p1, p2, p3⟩ := hr.plates.at_ hlt
      have okp := plate_ok okl hp
      have Hp := Lib.hid (plateAt_eq hp)
      clear hp
      obtain ⟨W2, hW2, E2, B2, hz2⟩ := box_ wr #[.int .i64 p.W, .int .i64 p.D, .int .i64 p.N, .int .u8 p.color] 39
      have b2 := B2.cell
      have M2 := hM1.ext E2
      by_cases hcolor : p.color ≠ 0 ∧ p.color ≠ color
      · have hnone : ∀ t, layP s x y z color p t = none := fun t => by rw [layP, if_pos hcolor]
        have Hnone := Lib.hid hnone
        clear hnone
        obtain ⟨q1, q2⟩ := hcolor
        have q1' : (p.color == 0) = false := by simpa using q1
        have q2' : (p.color == color) = false := by simpa using q2
        have q3' : (p.color != 0) = true := by simpa using q1
        have q4' : (p.color != color) = true := by simpa using q2
        go_wp2_with fail
        go_roundw
        case rel =>
          refine ⟨k + 1, m, by omega, by go_num, E.trans E2, M2, fun q => ?_⟩
          rw [layF_succ, Hget.out q]
          split
          · rename_i hq
            obtain ⟨a, b⟩ := q
            simp only at hq
            subst hq
            rw [Hp.out, Hnone.out, layF_self]
          · rfl
        case measure => simp only [intOf]; omega
      · have Hlay : Hid (∀ t, layP s x y z color p t = if t = true ∧ p.W = p.D then none else blockS s x y z (if t then p.D.toNat else p.W.toNat) (if t then p.W.toNat else p.D.toNat) color) := Lib.hid (fun t => by rw [layP, if_neg hcolor])
        obtain ⟨W3, hW3, E3, B3, hz3⟩ := box_ W2 #[.bool false, .bool true] 4
        rw [hz2] at B3
        have b3 := B3.cell
        have Hc := Lib.hid hcolor
        have q5 : p.color = 0 ∨ (p.color ≠ 0 ∧ p.color = color) := by omega
        clear hcolor
        have okp' := okp.w
        have okp2 := okp.d
        have M3 := M2.ext E3
        have hMlt := hM1.lt
        obtain ⟨wo, rfl⟩ : ∃ wo : World, wo = wr := ⟨_, rfl⟩
        have EW3 := (E.trans E2).trans E3
        have B23 := B2.ext E3
        have hne : ∀ m : Nat, m = M → some wo.heap.size ≠ some m := fun m hm e => by cases e; omega
        have hne2 : ∀ m : Nat, m = M → some (wo.heap.size + 1) ≠ some m := fun m hm e => by cases e; omega
        rcases q5 with q1 | ⟨q1, q2⟩
        · have q1' : (p.color == 0) = true := by simpa using q1
          have q3' : (p.color != 0) = false := by simpa using q1
          clear q1
          have b23 := B23.cell
          go_wp2_with fail
          clear b23 b3 b2 p0 p1 p2 p3 hr
          go_loopw [65] (fun i wr => ∃ (j : Nat) (m2 : List ((Int × Bool) × Nat)), j ≤ 2 ∧ i = .int .i64 j ∧ Ext w wr ∧ Blk wr wo.heap.size 39 #[.int .i64 p.W, .int .i64 p.D, .int .i64 p.N, .int .u8 p.color] ∧
            Blk wr (wo.heap.size + 1) 4 #[.bool false, .bool true] ∧ MapOf encSort encSet wr M m2 ∧ ∀ q, getK m2 q = layG s l x y z color k j q) (fun i _ => 2 - (intOf i).toNat)
          case atStart =>
            refine ⟨0, m, by omega, rfl, EW3, B23, B3, M3, fun q => ?_⟩
            unfold layG
            rw [if_neg (by simp), Hget.out]
          case round =>
            obtain ⟨j, m2, hj, rfl, Er, Bp, Bt, Mr, hget2⟩ := hrel
            have Hget2 := Lib.hid hget2
            clear hget2
            have hr2 := h.ext Er
            have bp := Bp.cell
            have bt := Bt.cell
            obtain rfl | rfl | rfl : j = 0 ∨ j = 1 ∨ j = 2 := by omega
            · go_wp2_with fail
              refine wp_region_grow (by kernel_rfl) (by kernel_rfl) ?_
              repeat (go_big_quiet_step (fail))
              refine wpQuiet_nil ?_
              intro W4 hW4
              have E4 : Ext wr W4 := by
                obtain ⟨x, rfl⟩ := hW4
                exact (Ext.refl _).grow x
              clear hW4
              obtain ⟨hcW4, hfW4, hzW4⟩ := ext_facts E4
              go_wp2_with fail
              refine (block_i x y z _ _ color g s _ _ _ _ ok ⟨x1, by omega⟩ ⟨y1, by omega⟩ ⟨by omega, by omega⟩ ⟨by omega, by omega⟩ _ (hr2.base.ext E4)).mono ?_
              rintro e w5 ⟨rfl, E5⟩
              have E45 := E4.trans E5
              have hl0 : layP s x y z color (plateAt l k) false = blockS s x y z p.W.toNat p.D.toNat color := by rw [Hp.out, Hlay.out]; simp
              have Hl0 := Lib.hid hl0
              clear hl0
              cases hb : blockS s x y z p.W.toNat p.D.toNat color with
              | none =>
                have Hb := Lib.hid hb
                clear hb
                dsimp only [blockV]
                go_wp2_with fail
                go_roundw
                case rel =>
                  refine ⟨1, m2, by omega, rfl, Er.trans E45, Bp.ext E45, Bt.ext E45, Mr.ext E45, fun q => ?_⟩
                  rw [layG_1 Hget2.out (Hl0.out.trans Hb.out)]
                  split
                  · rename_i hq
                    rw [hq, Hget2.out]
                    simp [layG, layF_self]
                  · rfl
                case measure => simp only [intOf]; omega
              | some n =>
                have Hb := Lib.hid hb
                clear hb
                dsimp only [blockV]
                have M5 := Mr.ext E45
                go_wp2_with (at_mapUpdate; refine wpList_put sortKey rfl _ _ _ 126 rfl 130 Tryd.underlying126 M m2 ((k : Int), false) n rfl M5 rfl rfl ?_; intro w6 M6 hg6 hz6)
                go_roundw
                case rel =>
                  have E6 := (Er.trans E45).grown hg6 (fun r hr => by cases hr; exact hwM)
                  refine ⟨1, _, by omega, rfl, E6, (Bp.ext E45).grown hg6 (hne M rfl), (Bt.ext E45).grown hg6 (hne2 M rfl), M6, fun q => ?_⟩
                  rw [getK_putK, layG_1 Hget2.out (Hl0.out.trans Hb.out)]
                case measure => simp only [intOf]; omega
            · by_cases hsq : p.W = p.D
              · have hl1 : layP s x y z color (plateAt l k) true = none := by rw [Hp.out, Hlay.out]; simp [hsq]
                have Hl1 := Lib.hid hl1
                clear hl1 Hlay
                go_wp2_with fail
                refine wp_region_grow (by kernel_rfl) (by kernel_rfl) ?_
                repeat (go_big_quiet_step (fail))
                refine wpQuiet_nil ?_
                intro W4 hW4
                have E4 : Ext wr W4 := by
                  obtain ⟨x, rfl⟩ := hW4
                  exact (Ext.refl _).grow x
                clear hW4
                obtain ⟨hcW4, hfW4, hzW4⟩ := ext_facts E4
                go_wp2_with fail
                refine (block_i x y z _ _ color g s _ _ _ _ ok ⟨x1, by omega⟩ ⟨y1, by omega⟩ ⟨by omega, by omega⟩ ⟨by omega, by omega⟩ _ (hr2.base.ext E4)).mono ?_
                rintro e w5 ⟨rfl, E5⟩
                have E45 := E4.trans E5
                generalize blockS s x y z _ _ color = r
                cases r
                all_goals
                  dsimp only [blockV]
                  go_wp2_with fail
                  go_roundw
                  case rel =>
                    refine ⟨2, m2, by omega, rfl, Er.trans E45, Bp.ext E45, Bt.ext E45, Mr.ext E45, fun q => ?_⟩
                    rw [layG_2 Hget2.out Hl1.out]
                    split
                    · rename_i hq
                      rw [hq, Hget2.out]
                      simp [layG, layF_self]
                    · rfl
                  case measure => simp only [intOf]; omega
              · have hl1 : layP s x y z color (plateAt l k) true = blockS s x y z p.D.toNat p.W.toNat color := by rw [Hp.out, Hlay.out]; simp [hsq]
                have Hl1 := Lib.hid hl1
                clear hl1 Hlay
                have hsq2 : (p.D == p.W) = false := by simpa using fun e => hsq e.symm
                have hsq3 : (p.D != p.W) = true := by simpa using fun e => hsq e.symm
                have hsq4 : ¬ p.D = p.W := fun e => hsq e.symm
                go_wp2_with fail
                refine wp_region_grow (by kernel_rfl) (by kernel_rfl) ?_
                repeat (go_big_quiet_step (fail))
                refine wpQuiet_nil ?_
                intro W4 hW4
                have E4 : Ext wr W4 := by
                  obtain ⟨x, rfl⟩ := hW4
                  exact (Ext.refl _).grow x
                clear hW4
                obtain ⟨hcW4, hfW4, hzW4⟩ := ext_facts E4
                go_wp2_with fail
                refine (block_i x y z _ _ color g s _ _ _ _ ok ⟨x1, by omega⟩ ⟨y1, by omega⟩ ⟨by omega, by omega⟩ ⟨by omega, by omega⟩ _ (hr2.base.ext E4)).mono ?_
                rintro e w5 ⟨rfl, E5⟩
                have E45 := E4.trans E5
                cases hb : blockS s x y z p.D.toNat p.W.toNat color with
                | none =>
                  have Hb := Lib.hid hb
                  clear hb
                  dsimp only [blockV]
                  go_wp2_with fail
                  go_roundw
                  case rel =>
                    refine ⟨2, m2, by omega, rfl, Er.trans E45, Bp.ext E45, Bt.ext E45, Mr.ext E45, fun q => ?_⟩
                    rw [layG_2 Hget2.out (Hl1.out.trans Hb.out)]
                    split
                    · rename_i hq
                      rw [hq, Hget2.out]
                      simp [layG, layF_self]
                    · rfl
                  case measure => simp only [intOf]; omega
                | some n =>
                  have Hb := Lib.hid hb
                  clear hb
                  dsimp only [blockV]
                  have M5 := Mr.ext E45
                  go_wp2_with (at_mapUpdate; refine wpList_put sortKey rfl _ _ _ 126 rfl 130 Tryd.underlying126 M m2 ((k : Int), true) n rfl M5 rfl rfl ?_; intro w6 M6 hg6 hz6)
                  go_roundw
                  case rel =>
                    have E6 := (Er.trans E45).grown hg6 (fun r hr => by cases hr; exact hwM)
                    refine ⟨2, _, by omega, rfl, E6, (Bp.ext E45).grown hg6 (hne M rfl), (Bt.ext E45).grown hg6 (hne2 M rfl), M6, fun q => ?_⟩
                    rw [getK_putK, layG_2 Hget2.out (Hl1.out.trans Hb.out)]
                  case measure => simp only [intOf]; omega
            · go_wp2_with fail
              go_roundw
              case rel =>
                refine ⟨k + 1, m2, by omega, by go_num, Er, Mr, fun q => ?_⟩
                rw [Hget2.out, layG_two]
              case measure => simp only [intOf]; omega
        · have q1' : (p.color == 0) = false := by simpa using q1
          have q2' : (p.color == color) = true := by simpa using q2
          have q3' : (p.color != 0) = true := by simpa using q1
          have q4' : (p.color != color) = false := by simpa using q2
          clear q1 q2
          have b23 := B23.cell
          go_wp2_with fail
          clear b23 b3 b2 p0 p1 p2 p3 hr
          go_loopw [65] (fun i wr => ∃ (j : Nat) (m2 : List ((Int × Bool) × Nat)), j ≤ 2 ∧ i = .int .i64 j ∧ Ext w wr ∧ Blk wr wo.heap.size 39 #[.int .i64 p.W, .int .i64 p.D, .int .i64 p.N, .int .u8 p.color] ∧
            Blk wr (wo.heap.size + 1) 4 #[.bool false, .bool true] ∧ MapOf encSort encSet wr M m2 ∧ ∀ q, getK m2 q = layG s l x y z color k j q) (fun i _ => 2 - (intOf i).toNat)
          case atStart =>
            refine ⟨0, m, by omega, rfl, EW3, B23, B3, M3, fun q => ?_⟩
            unfold layG
            rw [if_neg (by simp), Hget.out]
          case round =>
            obtain ⟨j, m2, hj, rfl, Er, Bp, Bt, Mr, hget2⟩ := hrel
            have Hget2 := Lib.hid hget2
            clear hget2
            have hr2 := h.ext Er
            have bp := Bp.cell
            have bt := Bt.cell
            obtain rfl | rfl | rfl : j = 0 ∨ j = 1 ∨ j = 2 := by omega
            · go_wp2_with fail
              refine wp_region_grow (by kernel_rfl) (by kernel_rfl) ?_
              repeat (go_big_quiet_step (fail))
              refine wpQuiet_nil ?_
              intro W4 hW4
              have E4 : Ext wr W4 := by
                obtain ⟨x, rfl⟩ := hW4
                exact (Ext.refl _).grow x
              clear hW4
              obtain ⟨hcW4, hfW4, hzW4⟩ := ext_facts E4
              go_wp2_with fail
              refine (block_i x y z _ _ color g s _ _ _ _ ok ⟨x1, by omega⟩ ⟨y1, by omega⟩ ⟨by omega, by omega⟩ ⟨by omega, by omega⟩ _ (hr2.base.ext E4)).mono ?_
              rintro e w5 ⟨rfl, E5⟩
              have E45 := E4.trans E5
              have hl0 : layP s x y z color (plateAt l k) false = blockS s x y z p.W.toNat p.D.toNat color := by rw [Hp.out, Hlay.out]; simp
              have Hl0 := Lib.hid hl0
              clear hl0
              cases hb : blockS s x y z p.W.toNat p.D.toNat color with
              | none =>
                have Hb := Lib.hid hb
                clear hb
                dsimp only [blockV]
                go_wp2_with fail
                go_roundw
                case rel =>
                  refine ⟨1, m2, by omega, rfl, Er.trans E45, Bp.ext E45, Bt.ext E45, Mr.ext E45, fun q => ?_⟩
                  rw [layG_1 Hget2.out (Hl0.out.trans Hb.out)]
                  split
                  · rename_i hq
                    rw [hq, Hget2.out]
                    simp [layG, layF_self]
                  · rfl
                case measure => simp only [intOf]; omega
              | some n =>
                have Hb := Lib.hid hb
                clear hb
                dsimp only [blockV]
                have M5 := Mr.ext E45
                go_wp2_with (at_mapUpdate; refine wpList_put sortKey rfl _ _ _ 126 rfl 130 Tryd.underlying126 M m2 ((k : Int), false) n rfl M5 rfl rfl ?_; intro w6 M6 hg6 hz6)
                go_roundw
                case rel =>
                  have E6 := (Er.trans E45).grown hg6 (fun r hr => by cases hr; exact hwM)
                  refine ⟨1, _, by omega, rfl, E6, (Bp.ext E45).grown hg6 (hne M rfl), (Bt.ext E45).grown hg6 (hne2 M rfl), M6, fun q => ?_⟩
                  rw [getK_putK, layG_1 Hget2.out (Hl0.out.trans Hb.out)]
                case measure => simp only [intOf]; omega
            · by_cases hsq : p.W = p.D
              · have hl1 : layP s x y z color (plateAt l k) true = none := by rw [Hp.out, Hlay.out]; simp [hsq]
                have Hl1 := Lib.hid hl1
                clear hl1 Hlay
                go_wp2_with fail
                refine wp_region_grow (by kernel_rfl) (by kernel_rfl) ?_
                repeat (go_big_quiet_step (fail))
                refine wpQuiet_nil ?_
                intro W4 hW4
                have E4 : Ext wr W4 := by
                  obtain ⟨x, rfl⟩ := hW4
                  exact (Ext.refl _).grow x
                clear hW4
                obtain ⟨hcW4, hfW4, hzW4⟩ := ext_facts E4
                go_wp2_with fail
                refine (block_i x y z _ _ color g s _ _ _ _ ok ⟨x1, by omega⟩ ⟨y1, by omega⟩ ⟨by omega, by omega⟩ ⟨by omega, by omega⟩ _ (hr2.base.ext E4)).mono ?_
                rintro e w5 ⟨rfl, E5⟩
                have E45 := E4.trans E5
                generalize blockS s x y z _ _ color = r
                cases r
                all_goals
                  dsimp only [blockV]
                  go_wp2_with fail
                  go_roundw
                  case rel =>
                    refine ⟨2, m2, by omega, rfl, Er.trans E45, Bp.ext E45, Bt.ext E45, Mr.ext E45, fun q => ?_⟩
                    rw [layG_2 Hget2.out Hl1.out]
                    split
                    · rename_i hq
                      rw [hq, Hget2.out]
                      simp [layG, layF_self]
                    · rfl
                  case measure => simp only [intOf]; omega
              · have hl1 : layP s x y z color (plateAt l k) true = blockS s x y z p.D.toNat p.W.toNat color := by rw [Hp.out, Hlay.out]; simp [hsq]
                have Hl1 := Lib.hid hl1
                clear hl1 Hlay
                have hsq2 : (p.D == p.W) = false := by simpa using fun e => hsq e.symm
                have hsq3 : (p.D != p.W) = true := by simpa using fun e => hsq e.symm
                have hsq4 : ¬ p.D = p.W := fun e => hsq e.symm
                go_wp2_with fail
                refine wp_region_grow (by kernel_rfl) (by kernel_rfl) ?_
                repeat (go_big_quiet_step (fail))
                refine wpQuiet_nil ?_
                intro W4 hW4
                have E4 : Ext wr W4 := by
                  obtain ⟨x, rfl⟩ := hW4
                  exact (Ext.refl _).grow x
                clear hW4
                obtain ⟨hcW4, hfW4, hzW4⟩ := ext_facts E4
                go_wp2_with fail
                refine (block_i x y z _ _ color g s _ _ _ _ ok ⟨x1, by omega⟩ ⟨y1, by omega⟩ ⟨by omega, by omega⟩ ⟨by omega, by omega⟩ _ (hr2.base.ext E4)).mono ?_
                rintro e w5 ⟨rfl, E5⟩
                have E45 := E4.trans E5
                cases hb : blockS s x y z p.D.toNat p.W.toNat color with
                | none =>
                  have Hb := Lib.hid hb
                  clear hb
                  dsimp only [blockV]
                  go_wp2_with fail
                  go_roundw
                  case rel =>
                    refine ⟨2, m2, by omega, rfl, Er.trans E45, Bp.ext E45, Bt.ext E45, Mr.ext E45, fun q => ?_⟩
                    rw [layG_2 Hget2.out (Hl1.out.trans Hb.out)]
                    split
                    · rename_i hq
                      rw [hq, Hget2.out]
                      simp [layG, layF_self]
                    · rfl
                  case measure => simp only [intOf]; omega
                | some n =>
                  have Hb := Lib.hid hb
                  clear hb
                  dsimp only [blockV]
                  have M5 := Mr.ext E45
                  go_wp2_with (at_mapUpdate; refine wpList_put sortKey rfl _ _ _ 126 rfl 130 Tryd.underlying126 M m2 ((k : Int), true) n rfl M5 rfl rfl ?_; intro w6 M6 hg6 hz6)
                  go_roundw
                  case rel =>
                    have E6 := (Er.trans E45).grown hg6 (fun r hr => by cases hr; exact hwM)
                    refine ⟨2, _, by omega, rfl, E6, (Bp.ext E45).grown hg6 (hne M rfl), (Bt.ext E45).grown hg6 (hne2 M rfl), M6, fun q => ?_⟩
                    rw [getK_putK, layG_2 Hget2.out (Hl1.out.trans Hb.out)]
                  case measure => simp only [intOf]; omega
            · go_wp2_with fail
              go_roundw
              case rel =>
                refine ⟨k + 1, m2, by omega, by go_num, Er, Mr, fun q => ?_⟩
                rw [Hget2.out, layG_two]
              case measure => simp only [intOf]; omega
    · obtain rfl : k = l.length := by omega
      go_wp2_with fail
      go_ret
      exact ⟨⟨M, m, rfl, hwM, hM1, Hget.out⟩, E⟩
end Go.Proofs.YtaaeapjnjjbglaaDoor

namespace Go.Proofs.YtaaeapjnjjbglaaDoor
open Go.RowKit

theorem own_ext {w w' : World} {base : Nat} {e : TypeId} {size : Nat} {v : Value} {n : Nat} {xs : List Value} (h : w.ownsRow base e size v n xs) (E : Ext w w') : w'.ownsRow base e size v n xs := by
  obtain ⟨h1, h2⟩ := h
  refine ⟨h1, ?_⟩
  rcases h2 with h2 | ⟨g, cap, cur, hv, hg, hh, r⟩
  · exact Or.inl h2
  · refine Or.inr ⟨g, cap, cur, hv, hg, ?_, r⟩
    have hlt : g < w.heap.size := (Array.getElem?_eq_some_iff.1 hh).1
    rw [Below.block E g hlt]
    exact hh
theorem own_base {w : World} {base base' : Nat} {e : TypeId} {size : Nat} {v : Value} {n : Nat} {xs : List Value} (h : w.ownsRow base e size v n xs) (hb : base' ≤ base) : w.ownsRow base' e size v n xs := by
  obtain ⟨h1, h2⟩ := h
  refine ⟨h1, ?_⟩
  rcases h2 with h2 | ⟨g, cap, cur, hv, hg, r⟩
  · exact Or.inl h2
  · exact Or.inr ⟨g, cap, cur, hv, Nat.le_trans hb hg, r⟩
/-- A row keeps while a block below its base is written. -/
theorem own_setCell {w : World} {base : Nat} {e : TypeId} {size : Nat} {v : Value} {n : Nat} {xs : List Value} (h : w.ownsRow base e size v n xs) {p : Addr} (hp : p.block < base) (u : Value) : (w.setCell p u).ownsRow base e size v n xs := by
  obtain ⟨h1, h2⟩ := h
  refine ⟨h1, ?_⟩
  rcases h2 with h2 | ⟨g, cap, cur, hv, hg, hh, r⟩
  · exact Or.inl h2
  · exact Or.inr ⟨g, cap, cur, hv, hg, by rw [Below.heap_setCell _ _ _ _ (by omega)]; exact hh, r⟩
/-- The block of an owned row is none of the blocks below its base. -/
theorem own_ne {w : World} {base : Nat} {e : TypeId} {size : Nat} {v : Value} {n : Nat} {xs : List Value} (h : w.ownsRow base e size v n xs) {g : Nat} (hg : g < base) : some g ≠ v.ownBlock := fun he => by
  have := (h.lt g he.symm).1
  omega

theorem own_form {w : World} {base : Nat} {e : TypeId} {size : Nat} {v : Value} {n : Nat} {xs : List Value} (h : w.ownsRow base e size v n xs) (hn : 0 < n) : ∃ g cap, v = .slice (some ⟨g, 0, none⟩) n cap := by
  rcases h.2 with ⟨_, h0⟩ | ⟨g, cap, cur, hv, _⟩
  · omega
  · exact ⟨g, cap, hv⟩
theorem add_zero_addr (g j : Nat) : (⟨g, 0, none⟩ : Addr).add j = ⟨g, j, none⟩ := by
  unfold Addr.add
  split
  · subst_vars; rfl
  · simp

section
variable {P : Program} {w : World} {ops : Array Oper} {o : Oper} {a : Act} {K : Act → World → Prop} {Q : Exit → Act → World → Prop} {F : Prop}

/-- append(s, x) where x is a new block's cells news (m elements), as one step of a region that draws its order. -/
theorem step_append_new (hgd : o.guard = none) (s x : Operand) (t : TypeId) (ho : o.op = .call { callee := .builtin .append, args := #[s, x], argTypes := #[t, t] })
    (base : Nat) (e : TypeId) (i : TypeInfo) (z : Value) (size bytes : Nat) (ht : P.underlying t = some (.slice e)) (hi : P.info? e = some i) (hz : i.zero = some z)
    (hsize : i.size = size) (hby : i.bytes = bytes) (hzs : z.cells.size = size) (hsz : 0 < size)
    (v : Value) (n : Nat) (xs : List Value) (hs : a.eval s = v) (hown : w.ownsRow base e size v n xs)
    (g m c : Nat) (news : List Value) (hx : a.eval x = .slice (some ⟨g, 0, none⟩) m c) (hl : news.length = m * size) (hnews : ∀ j, w.cell? ⟨g, j, none⟩ = news[j]?) (h1 : ∀ u ∈ news, u.oneCell' = true)
    (h63 : n + m ≤ maxLen) (hbytes : (n + m) * bytes ≤ 140737488355328) (hbase : base ≤ w.heap.size)
    (h : ∀ v' w', w'.ownsRow base e size v' (n + m) (xs ++ news) → w.grownBy w' v.ownBlock → K (a.put o.dst v') w') : if Region.wanted o (yielded ops a.tmps) = true then o.wp P a w K Q else F := by
  rw [if_pos (by simp [Region.wanted, hgd])]
  exact wp_append_own w s x t ho base e i z size bytes ht hi hz hsize hby hzs hsz v n xs hs hown ⟨g, 0, none⟩ m c news hx hl
    (fun j u hu => by rw [add_zero_addr, hnews j]; exact hu) h1 h63 hbytes hbase fun v' w' h2 h3 _ => h v' w' h2 h3

/-- append(s, x) of ONE element, which has just been laid as a new block's cells. -/
theorem step_append_one {w : World} (cs : Array Value) (hgd : o.guard = none) (s x : Operand) (t : TypeId) (ho : o.op = .call { callee := .builtin .append, args := #[s, x], argTypes := #[t, t] })
    (base : Nat) (e te : TypeId) (i : TypeInfo) (z : Value) (size bytes : Nat) (ht : P.underlying t = some (.slice e)) (hi : P.info? e = some i) (hz : i.zero = some z)
    (hsize : i.size = size) (hby : i.bytes = bytes) (hzs : z.cells.size = size) (hsz : 0 < size)
    (v : Value) (n c : Nat) (xs : List Value) (hs : a.eval s = v) (hown : w.ownsRow base e size v n xs)
    (hx : a.eval x = .slice (some ⟨w.heap.size, 0, none⟩) 1 c) (hl : cs.size = size) (h1 : ∀ u ∈ cs.toList, u.oneCell' = true)
    (h63 : n + 1 ≤ maxLen) (hbytes : (n + 1) * bytes ≤ 140737488355328) (hbase : base ≤ w.heap.size)
    (h : ∀ g' cap' w', w'.ownsRow base e size (.slice (some ⟨g', 0, none⟩) (n + 1) cap') (n + 1) (xs ++ cs.toList) → (w.alloc (.cells cs te)).grownBy w' v.ownBlock → K (a.put o.dst (.slice (some ⟨g', 0, none⟩) (n + 1) cap')) w') :
    if Region.wanted o (yielded ops a.tmps) = true then o.wp P a (w.alloc (.cells cs te)) K Q else F :=
  step_append_new hgd s x t ho base e i z size bytes ht hi hz hsize hby hzs hsz v n xs hs (hown.alloc _) w.heap.size 1 c cs.toList hx (by simp [hl]) (fun j => by rw [cell_new]; simp) h1 h63 hbytes
    (by simp; omega) fun v' w' h2 h3 => by
      obtain ⟨g', cap', rfl⟩ := own_form h2 (by omega)
      exact h g' cap' w' h2 h3
/-- The same as one operation of a plain walk. -/
theorem wpList_append_one {w : World} {rest : List Oper} (cs : Array Value) (hgd : o.guard = none) (s x : Operand) (t : TypeId) (ho : o.op = .call { callee := .builtin .append, args := #[s, x], argTypes := #[t, t] })
    (base : Nat) (e te : TypeId) (i : TypeInfo) (z : Value) (size bytes : Nat) (ht : P.underlying t = some (.slice e)) (hi : P.info? e = some i) (hz : i.zero = some z)
    (hsize : i.size = size) (hby : i.bytes = bytes) (hzs : z.cells.size = size) (hsz : 0 < size)
    (v : Value) (n c : Nat) (xs : List Value) (hs : a.eval s = v) (hown : w.ownsRow base e size v n xs)
    (hx : a.eval x = .slice (some ⟨w.heap.size, 0, none⟩) 1 c) (hl : cs.size = size) (h1 : ∀ u ∈ cs.toList, u.oneCell' = true)
    (h63 : n + 1 ≤ maxLen) (hbytes : (n + 1) * bytes ≤ 140737488355328) (hbase : base ≤ w.heap.size)
    (h : ∀ g' cap' w', w'.ownsRow base e size (.slice (some ⟨g', 0, none⟩) (n + 1) cap') (n + 1) (xs ++ cs.toList) → (w.alloc (.cells cs te)).grownBy w' v.ownBlock → wpList P ops Q rest (a.put o.dst (.slice (some ⟨g', 0, none⟩) (n + 1) cap')) w') :
    wpList P ops Q (o :: rest) a (w.alloc (.cells cs te)) :=
  wpList_plain hgd fun _ hK => by
    have := step_append_one (P := P) (ops := ops) (o := o) (a := a) (Q := Q) (F := True) cs hgd s x t ho base e te i z size bytes ht hi hz hsize hby hzs hsz v n c xs hs hown hx hl h1 h63 hbytes hbase (fun g' cap' w' h2 h3 => hK _ _ (h g' cap' w' h2 h3))
    rwa [if_pos (by simp [Region.wanted, hgd])] at this
end
end Go.Proofs.YtaaeapjnjjbglaaDoor

namespace Go.Proofs.YtaaeapjnjjbglaaDoor
open Go.RowKit

theorem own_apart {w : World} {b b' : Nat} {e e' : TypeId} {sz sz' : Nat} {v v' : Value} {n n' : Nat} {xs xs' : List Value} (h : w.ownsRow b e sz v n xs) (h' : w.ownsRow b' e' sz' v' n' xs') (he : e ≠ e') : v.ownBlock = none ∨ v.ownBlock ≠ v'.ownBlock := by
  rcases h.2 with ⟨rfl, _⟩ | ⟨g, cap, cur, rfl, _, hg, _⟩
  · exact Or.inl rfl
  · right
    rcases h'.2 with ⟨rfl, _⟩ | ⟨g', cap', cur', rfl, _, hg', _⟩
    · intro e1
      cases e1
    · intro e1
      simp only [Value.ownBlock, Option.some.injEq] at e1
      subst e1
      rw [hg] at hg'
      simp only [Option.some.injEq, Obj.cells.injEq] at hg'
      exact he hg'.2.1
theorem own_map {K V : Type} {enc : K → Value} {ev : V → Value} {w : World} {b : Nat} {e : TypeId} {sz : Nat} {v : Value} {n : Nat} {xs : List Value} {M : Nat} {m : List (K × V)} (h : w.ownsRow b e sz v n xs) (h' : MapOf enc ev w M m) : some M ≠ v.ownBlock := by
  intro e1
  rcases h.2 with ⟨rfl, _⟩ | ⟨g, cap, cur, rfl, _, hg, _⟩
  · cases e1
  · simp only [Value.ownBlock, Option.some.injEq] at e1
    subst e1
    obtain ⟨es, clock, hm, _⟩ := h'
    rw [hg] at hm
    cases hm
theorem MapOf.far {K V : Type} {enc : K → Value} {ev : V → Value} {w : World} {M : Nat} {m : List (K × V)} (h : MapOf enc ev w M m) {p : Addr} (hp : M ≠ p.block) (u : Value) : MapOf enc ev (w.setCell p u) M m := by
  obtain ⟨es, clock, hm, r⟩ := h
  exact ⟨es, clock, by rw [Below.heap_setCell _ _ _ _ hp]; exact hm, r⟩
/-- An owned row reads as a slice. -/
theorem own_slice {w : World} {b : Nat} {e : TypeId} {sz : Nat} {A : Option Addr} {n cap : Nat} {rows : List (List Value)} (_hsz : 0 < sz) (hw : ∀ r ∈ rows, r.length = sz) (hn : rows.length = n) (hcap : 0 < n)
    (h : w.ownsRow b e sz (.slice A n cap) n rows.flatten) : SliceIs w A n cap sz rows := by
  rcases h.2 with ⟨_, h0⟩ | ⟨g, cap', cur, hv, _, hg, h1, h2, h3, h4⟩
  · omega
  · cases hv
    refine ⟨hn, h1, h2, hw, fun _ => ⟨g, 0, rfl, (Array.getElem?_eq_some_iff.1 hg).1, fun i r hr j u hu => ?_⟩⟩
    have hj : j < sz := by
      have := hw r (List.mem_of_getElem? hr)
      have := (List.getElem?_eq_some_iff.1 hu).1
      omega
    have hi : i < n := by
      have := (List.getElem?_eq_some_iff.1 hr).1
      omega
    have hflat : ∀ (rows : List (List Value)) (i : Nat), (∀ r ∈ rows, r.length = sz) → rows[i]? = some r → rows.flatten[i * sz + j]? = some u := by
      intro rows
      induction rows with
      | nil => intro i _ h; simp at h
      | cons x rows ih =>
        intro i hw h
        have hx := hw x (by simp)
        cases i with
        | zero =>
          simp only [List.getElem?_cons_zero, Option.some.injEq] at h
          subst h
          rw [List.flatten_cons, Nat.zero_mul, Nat.zero_add, List.getElem?_append_left (by omega)]
          exact hu
        | succ i =>
          simp only [List.getElem?_cons_succ] at h
          rw [List.flatten_cons, List.getElem?_append_right (by rw [hx, Nat.succ_mul]; omega), hx]
          have e2 : (i + 1) * sz + j - sz = i * sz + j := by rw [Nat.succ_mul]; omega
          rw [e2]
          exact ih i (fun r hr => hw r (by simp [hr])) h
    have hf := hflat rows i hw hr
    rw [← h4] at hf
    have hlt : i * sz + j < n * sz := by
      have : (i + 1) * sz ≤ n * sz := Nat.mul_le_mul_right _ (by omega)
      rw [Nat.succ_mul] at this
      omega
    rw [List.getElem?_take, if_pos hlt] at hf
    show w.cell? ⟨g, 0 + i * sz + j, none⟩ = some u
    simp only [World.cell?, hg]
    simpa using hf

/-! ### places -/
def Shape.px (s : Shape) (i : Nat) : Int := (i : Int) % s.W
def Shape.py (s : Shape) (i : Nat) : Int := (i : Int) / s.W % s.D
def Shape.pz (s : Shape) (i : Nat) : Int := (i : Int) / s.W / s.D
theorem Shape.place_in {s : Shape} (ok : s.Ok) {i : Nat} (hi : i < s.cells.length) : s.inside (s.px i) (s.py i) (s.pz i) = true ∧ s.idx (s.px i) (s.py i) (s.pz i) = i := by
  have w1 := ok.w
  have d1 := ok.d
  have hl := ok.len
  have a1 := Int.emod_add_mul_ediv (i : Int) s.W
  have a2 := Int.emod_add_mul_ediv ((i : Int) / s.W) s.D
  have b1 := Int.emod_nonneg (i : Int) (show s.W ≠ 0 by omega)
  have b2 := Int.emod_lt_of_pos (i : Int) (show 0 < s.W by omega)
  have b3 := Int.emod_nonneg ((i : Int) / s.W) (show s.D ≠ 0 by omega)
  have b4 := Int.emod_lt_of_pos ((i : Int) / s.W) (show 0 < s.D by omega)
  have e0 : (i : Int) < s.W * (s.D * s.H) := by rw [← Int.mul_assoc, ← hl]; omega
  have b5 : (i : Int) / s.W < s.D * s.H := Int.ediv_lt_of_lt_mul (by omega) (by rw [Int.mul_comm]; exact e0)
  have b6 : (i : Int) / s.W / s.D < s.H := Int.ediv_lt_of_lt_mul (by omega) (by rw [Int.mul_comm]; exact b5)
  have c0 : 0 ≤ (i : Int) / s.W := Int.ediv_nonneg (by omega) (by omega)
  have c1 : 0 ≤ (i : Int) / s.W / s.D := Int.ediv_nonneg c0 (by omega)
  constructor
  · simp only [Shape.inside, Bool.and_eq_true, inB_iff, Shape.px, Shape.py, Shape.pz]
    omega
  · unfold Shape.idx Shape.px Shape.py Shape.pz
    have e1 : (i : Int) / s.W / s.D * s.D + (i : Int) / s.W % s.D = (i : Int) / s.W := by rw [Int.mul_comm]; omega
    rw [e1, Int.mul_comm]
    omega

/-! ### what the second loop has collected -/
def edgesAt (s : Shape) (i : Nat) : List (Int × Int) :=
  (if 0 ≤ s.num (s.px i + 1) (s.py i) (s.pz i) then [(numOf s.cells i, s.num (s.px i + 1) (s.py i) (s.pz i))] else []) ++
  (if 0 ≤ s.num (s.px i) (s.py i + 1) (s.pz i) then [(numOf s.cells i, s.num (s.px i) (s.py i + 1) (s.pz i))] else [])
def aboveS (s : Shape) : Nat → List Int
  | 0 => []
  | k + 1 => if numOf s.cells k < 0 then aboveS s k else aboveS s k ++ [s.num (s.px k) (s.py k) (s.pz k + 1)]
def edgesS (s : Shape) : Nat → List (Int × Int)
  | 0 => []
  | k + 1 => if numOf s.cells k < 0 then edgesS s k else edgesS s k ++ edgesAt s k
def placesS (s : Shape) : Nat → List Nat
  | 0 => []
  | k + 1 => if numOf s.cells k < 0 then placesS s k else placesS s k ++ [k]
/-- The map from the pairs to their indices. -/
def pairsOf (es : List (Int × Int)) : List ((Int × Int) × Nat) := es.zipIdx.foldl (fun m p => putK m p.1 p.2) []
theorem pairsOf_snoc (es : List (Int × Int)) (p : Int × Int) : pairsOf (es ++ [p]) = putK (pairsOf es) p es.length := by
  simp [pairsOf, List.zipIdx_append]
def overAt (ab : List Int) (es : List (Int × Int)) (p : Int × Int) : Int :=
  match getK (pairsOf es) (ab.getD p.1.toNat 0, ab.getD p.2.toNat 0) with
  | some j => (j : Int)
  | none => -1
def overS (s : Shape) : List Int := (edgesS s s.cells.length).map (overAt (aboveS s s.cells.length) (edgesS s s.cells.length))

theorem numOf_neg {s : Shape} {k : Nat} {c : Int} (hc : s.cells[k]? = some c) : numOf s.cells k < 0 ↔ c = 0 := by
  unfold numOf
  rw [List.getD_eq_getElem?_getD, hc]
  simp only [Option.getD_some]
  split <;> omega
theorem aboveS_len {s : Shape} {k : Nat} (hk : k ≤ s.cells.length) : (aboveS s k).length = fullN (s.cells.take k) := by
  induction k with
  | zero => simp [aboveS, fullN]
  | succ k ih =>
    have hc : s.cells[k]? = some s.cells[k] := List.getElem?_eq_getElem (by omega)
    rw [fullN_succ hc, ← ih (by omega), aboveS]
    have := numOf_neg hc
    by_cases h : s.cells[k] = 0
    · rw [if_pos (this.2 h), if_pos h]; omega
    · rw [if_neg (fun h' => h (this.1 h')), if_neg h]; simp
theorem placesS_len {s : Shape} {k : Nat} : (placesS s k).length = (aboveS s k).length := by
  induction k with
  | zero => rfl
  | succ k ih =>
    unfold placesS aboveS
    split
    · exact ih
    · simp [ih]
theorem num_lt_full {s : Shape} (ok : s.Ok) (x y z : Int) : s.num x y z < fullN s.cells := by
  unfold Shape.num
  split
  · rename_i h
    have h1 := s.idx_in ok h
    exact numOf_hi (by omega)
  · omega
theorem edges_bd {s : Shape} (ok : s.Ok) {k : Nat} (hk : k ≤ s.cells.length) : ∀ p ∈ edgesS s k, (0 ≤ p.1 ∧ p.1 < fullN s.cells) ∧ 0 ≤ p.2 ∧ p.2 < fullN s.cells := by
  induction k with
  | zero => intro p hp; simp [edgesS] at hp
  | succ k ih =>
    intro p hp
    unfold edgesS at hp
    split at hp
    · exact ih (by omega) p hp
    · rename_i hn
      rcases List.mem_append.1 hp with hp | hp
      · exact ih (by omega) p hp
      · have h1 := numOf_hi (cs := s.cells) (i := k) (by omega)
        unfold edgesAt at hp
        rcases List.mem_append.1 hp with hp | hp
        · split at hp
          · rw [List.mem_singleton] at hp
            subst hp
            exact ⟨⟨by omega, h1⟩, by assumption, num_lt_full ok _ _ _⟩
          · simp at hp
        · split at hp
          · rw [List.mem_singleton] at hp
            subst hp
            exact ⟨⟨by omega, h1⟩, by assumption, num_lt_full ok _ _ _⟩
          · simp at hp
theorem edgesAt_len (s : Shape) (i : Nat) : (edgesAt s i).length ≤ 2 := by
  unfold edgesAt
  split <;> split <;> simp
theorem edgesS_len (s : Shape) (k : Nat) : (edgesS s k).length ≤ 2 * k := by
  induction k with
  | zero => simp [edgesS]
  | succ k ih =>
    unfold edgesS
    have := edgesAt_len s k
    split
    · omega
    · rw [List.length_append]; omega
end Go.Proofs.YtaaeapjnjjbglaaDoor
