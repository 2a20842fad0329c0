/- Maps that the call makes, whose keys are structs or arrays: m[k] = append(m[k], ..) (an entry, and the store into it), and a range over one. -/
import Derived.Test.YtaaeapjnjjbglaaGreatDoorCd3
import Derived.Maps.RangeRun
import Derived.Maps.RangeWalk

namespace Go.Proofs.YtaaeapjnjjbglaaGreatDoor
open Go.RowKit

section
variable {P : Program} {k : TypeId} {K V : Type} {enc : K → Value} {ev : V → Value} [DecidableEq K]
/-- Block b is a map of these pairs, and the entry of this stamp is x's. -/
def EntOf (enc : K → Value) (ev : V → Value) (w : World) (b : Nat) (m : List (K × V)) (x : K) (born : Nat) : Prop :=
  ∃ es clock, w.heap[b]? = some (.map es clock) ∧ es.toList.map (fun e => (e.key, e.val)) = m.map (fun p => (enc p.1, ev p.2)) ∧ (∀ e ∈ es.toList, e.born < clock) ∧ (es.toList.map (·.born)).Nodup ∧
    ∃ j e0 u, es.toList[j]? = some e0 ∧ e0.born = born ∧ m[j]? = some (x, u) ∧ (∀ v, putK m x v = m.set j (x, v))
theorem EntOf.grown {w w' : World} {b : Nat} {m : List (K × V)} {x : K} {born : Nat} {row : Option Nat} (h : EntOf enc ev w b m x born) (g : w.grownBy w' row) (hr : some b ≠ row) : EntOf enc ev w' b m x born := by
  obtain ⟨es, clock, hb, r⟩ := h
  have hlt := (Array.getElem?_eq_some_iff.1 hb).1
  exact ⟨es, clock, (g.block b hlt hr).trans hb, r⟩
theorem EntOf.lt {w : World} {b : Nat} {m : List (K × V)} {x : K} {born : Nat} (h : EntOf enc ev w b m x born) : b < w.heap.size := by
  obtain ⟨es, clock, hb, _⟩ := h
  exact (Array.getElem?_eq_some_iff.1 hb).1
theorem entry_run (E : KeyEnc P k enc) {t e : TypeId} (ht : P.underlying t = some (.map k e)) {w : World} {z : V} (hz : (zeroValue e).run P w = .ok (ev z) w) {b : Nat} {m : List (K × V)} (h : MapOf enc ev w b m) (x : K) :
    ∃ w' born, (Instr.mapEntry t (.map (some b)) (enc x)).run P w = .ok (.tuple #[ev ((getK m x).getD z), .int .i64 (born : Nat)]) w' ∧ EntOf enc ev w' b (putK m x ((getK m x).getD z)) x born ∧ w.grownBy w' (some b) ∧ w'.heap.size = w.heap.size := by
  obtain ⟨es, clock, hb, hm, hs1, hs2⟩ := h
  have hf := find_run E w x es.toList m 0 hm
  rw [← run_findKey_eq w E.wide] at hf
  have grown : ∀ o, w.grownBy (ChangeMaps.setBlock w b o) (some b) := fun o => ⟨rfl, rfl, rfl, by simp [ChangeMaps.setBlock], fun i _ hi => ChangeMaps.heap_setBlock_other hb _ (fun e => hi (by rw [e]))⟩
  have hsz : ∀ o, (ChangeMaps.setBlock w b o).heap.size = w.heap.size := fun o => by simp [ChangeMaps.setBlock]
  have hlen : es.toList.length = m.length := by
    have := congrArg List.length hm
    simpa using this
  cases hl : lookAt m x 0 with
  | none =>
    rw [hl] at hf
    have hg : getK m x = none := by rw [← lookAt_getK m x 0, hl]; rfl
    refine ⟨ChangeMaps.setBlock w b (.map (es.push { key := enc x, val := ev z, born := clock }) (clock + 1)), clock, ?_, ⟨_, _, ChangeMaps.heap_setBlock_same hb _, ?_, ?_, ?_, m.length, { key := enc x, val := ev z, born := clock }, z, ?_, rfl, ?_, ?_⟩, grown _, hsz _⟩
    · simp [Instr.mapEntry, run_underlying ht, MapKept.run_getObj_map hb, E.check, hf, hz, hg, MapKept.run_setObj_map _ hb, Result.andThen, ChangeMaps.setBlock, goInt]
    · rw [hg, lookAt_none hl]
      simp [hm]
    · intro y hy
      simp only [Array.toList_push, List.mem_append, List.mem_singleton] at hy
      rcases hy with hy | rfl
      · exact Nat.lt_succ_of_lt (hs1 y hy)
      · exact Nat.lt_succ_self _
    · simp only [Array.toList_push, List.map_append, List.map_cons, List.map_nil]
      refine List.nodup_append.2 ⟨hs2, by simp, ?_⟩
      intro a ha b hb
      simp only [List.mem_singleton] at hb
      subst hb
      obtain ⟨y, hy, rfl⟩ := List.mem_map.1 ha
      exact Nat.ne_of_lt (hs1 y hy)
    · rw [← hlen]
      simp
    · rw [hg, lookAt_none hl]
      simp
    · intro v
      rw [hg]
      rw [lookAt_none hl]
      have h2 : lookAt (m ++ [(x, (none : Option V).getD z)]) x 0 = some (m.length, z) := by
        have key : ∀ (m : List (K × V)) (i : Nat), lookAt m x i = none → lookAt (m ++ [(x, z)]) x i = some (i + m.length, z) := by
          intro m
          induction m with
          | nil => intro i _; simp [lookAt]
          | cons p m ih =>
            intro i hi
            unfold lookAt at hi
            split at hi
            · cases hi
            · rename_i hne
              show (if x = p.1 then _ else lookAt (m ++ [(x, z)]) x (i + 1)) = _
              rw [if_neg hne, ih _ hi, List.length_cons]
              congr 2
              omega
        have := key m 0 hl
        rwa [Nat.zero_add] at this
      obtain ⟨j, hj, _, h3⟩ := lookAt_some h2 v
      rw [h3, hj, Nat.zero_add]
  | some r =>
    obtain ⟨j, u⟩ := r
    rw [hl] at hf
    have hg : getK m x = some u := by rw [← lookAt_getK m x 0, hl]; rfl
    obtain ⟨j', hj', h1, h2⟩ := lookAt_some hl u
    obtain rfl : j = j' := by omega
    have hjl : j < es.toList.length := by
      rw [hlen]
      exact (List.getElem?_eq_some_iff.1 h1).1
    obtain ⟨e0, hej⟩ : ∃ e0, es.toList[j]? = some e0 := ⟨_, List.getElem?_eq_getElem hjl⟩
    have hjm : (es.toList.map (fun e => (e.key, e.val)))[j]? = some (enc x, ev u) := by
      rw [hm, List.getElem?_map, h1]
      rfl
    have hkey : e0.key = enc x := by
      rw [List.getElem?_map, hej] at hjm
      simp only [Option.map_some, Option.some.injEq, Prod.mk.injEq] at hjm
      exact hjm.1
    have hej' : es[j]? = some e0 := by rw [← hej]; simp
    have hput : putK m x u = m := by
      rw [h2]
      exact List.ext_getElem? fun i => by
        by_cases e : j = i
        · subst e
          rw [List.getElem?_set_self (List.getElem?_eq_some_iff.1 h1).1, h1]
        · rw [List.getElem?_set_ne e]
    have hlist : (es.modify j (fun e' => { e' with key := enc x })).toList = es.toList := by
      rw [Array.toList_modify, ChangeMaps.modify_eq_set _ _ _ _ hej]
      exact List.ext_getElem? fun i => by
        by_cases e : j = i
        · subst e
          rw [List.getElem?_set_self hjl, hej, ← hkey]
        · rw [List.getElem?_set_ne e]
    refine ⟨ChangeMaps.setBlock w b (.map (es.modify j (fun e' => { e' with key := enc x })) clock), e0.born, ?_, ⟨_, _, ChangeMaps.heap_setBlock_same hb _, ?_, ?_, ?_, j, e0, u, by rw [hlist]; exact hej, rfl, ?_, ?_⟩, grown _, hsz _⟩
    · simp [Instr.mapEntry, run_underlying ht, MapKept.run_getObj_map hb, E.check, hf, hg, hej', hkey, Instr.keyThatStays, E.same, MapKept.run_setObj_map _ hb, Result.andThen, ChangeMaps.setBlock, goInt]
    · rw [hlist, hg]
      show _ = (putK m x u).map _
      rw [hput]
      exact hm
    · rw [hlist]
      exact hs1
    · rw [hlist]
      exact hs2
    · rw [hg]
      show (putK m x u)[j]? = _
      rw [hput]
      exact h1
    · intro v
      rw [hg]
      show putK (putK m x u) x v = (putK m x u).set j (x, v)
      rw [hput]
      obtain ⟨j', hj', _, h3⟩ := lookAt_some hl v
      obtain rfl : j = j' := by omega
      exact h3
theorem store_run {w : World} {b : Nat} {m : List (K × V)} {x : K} {born : Nat} (h : EntOf enc ev w b m x born) (t : TypeId) (v : V) :
    ∃ w', (Instr.entryStore t (.map (some b)) (.int .i64 (born : Nat)) (ev v)).run P w = .ok () w' ∧ MapOf enc ev w' b (putK m x v) ∧ w.grownBy w' (some b) ∧ w'.heap.size = w.heap.size := by
  obtain ⟨es, clock, hb, hm, hs1, hs2, j, e0, u, hj, rfl, hmj, hput⟩ := h
  have hjl : j < es.toList.length := (List.getElem?_eq_some_iff.1 hj).1
  have hfi : es.findIdx? (fun e => (e.born : Int) == (e0.born : Int)) = some j := by
    rw [show es.findIdx? (fun e => (e.born : Int) == (e0.born : Int)) = es.toList.findIdx? (fun e => (e.born : Int) == (e0.born : Int)) from by
      obtain ⟨l⟩ := es
      exact List.findIdx?_toArray .., List.findIdx?_eq_some_iff_getElem]
    refine ⟨hjl, ?_, fun i hi => ?_⟩
    · have : es.toList[j] = e0 := (List.getElem?_eq_some_iff.1 hj).2
      rw [this]
      simp
    · have hil : i < es.toList.length := by omega
      have h0 : es.toList[j] = e0 := (List.getElem?_eq_some_iff.1 hj).2
      have hne : (es.toList[i]).born ≠ e0.born := fun e => by
        have h1 := List.pairwise_iff_getElem.1 hs2 i j (by simpa using hil) (by simpa using hjl) hi
        rw [List.getElem_map, List.getElem_map, h0] at h1
        exact h1 e
      simp only [beq_iff_eq]
      omega
  have hlist : (es.modify j (fun e' => { e' with val := ev v })).toList = es.toList.set j { e0 with val := ev v } := by
    rw [Array.toList_modify, ChangeMaps.modify_eq_set _ _ _ _ hj]
  have hkey : e0.key = enc x := by
    have : (es.toList.map (fun e => (e.key, e.val)))[j]? = some (enc x, ev u) := by
      rw [hm, List.getElem?_map, hmj]
      rfl
    rw [List.getElem?_map, hj] at this
    simp only [Option.map_some, Option.some.injEq, Prod.mk.injEq] at this
    exact this.1
  refine ⟨ChangeMaps.setBlock w b (.map (es.modify j (fun e' => { e' with val := ev v })) clock), ?_, ⟨_, _, ChangeMaps.heap_setBlock_same hb _, ?_, ?_, ?_⟩, ⟨rfl, rfl, rfl, by simp [ChangeMaps.setBlock], fun i _ hi => ChangeMaps.heap_setBlock_other hb _ (fun e => hi (by rw [e]))⟩, by simp [ChangeMaps.setBlock]⟩
  · simp [Instr.entryStore, MapKept.run_getObj_map hb, asInt, asIntOf, hfi, MapKept.run_setObj_map _ hb, Result.andThen, ChangeMaps.setBlock]
  · rw [hlist, hput v, List.map_set, List.map_set, hm, hkey]
  · intro y hy
    rw [hlist] at hy
    rcases List.mem_or_eq_of_mem_set hy with hy | rfl
    · exact hs1 y hy
    · exact hs1 e0 (List.mem_of_getElem? hj)
  · rw [hlist, List.map_set]
    have : (es.toList.map (·.born)).set j e0.born = es.toList.map (·.born) := by
      apply List.ext_getElem?
      intro i
      rw [List.getElem?_set]
      split
      · rename_i hji
        subst hji
        rw [if_pos (by simpa using hjl), List.getElem?_map, hj]
        rfl
      · rfl
    rw [this]
    exact hs2
/-- An entry at the operation. -/
theorem wpList_entry (E : KeyEnc P k enc) {w : World} {ops : Array Oper} {rest : List Oper} {o : Oper} {a : Act} {Q : Exit → Act → World → Prop}
    (hg : o.guard = none) (mo xo : Operand) (t : TypeId) (hop : o.op = Op.mapEntry t mo xo) (e : TypeId) (ht : P.underlying t = some (.map k e)) (z : V) (hz : (zeroValue e).run P w = .ok (ev z) w) (b : Nat) (m : List (K × V)) (x : K)
    (hm : a.eval mo = .map (some b)) (hown : MapOf enc ev w b m) (hx : a.eval xo = enc x)
    (hK : ∀ w' (born : Nat), EntOf enc ev w' b (putK m x ((getK m x).getD z)) x born → w.grownBy w' (some b) → w'.heap.size = w.heap.size → wpList P ops Q rest (a.put o.dst (.tuple #[ev ((getK m x).getD z), .int .i64 born])) w') : wpList P ops Q (o :: rest) a w := by
  refine wpList_plain hg fun K' hK' => ?_
  obtain ⟨w', born, hrun, r1, r2, r3⟩ := entry_run E ht hz hown x
  unfold Oper.wp
  simp [execOp, hop, hm, hx, hrun, Result.andThen]
  exact hK' _ _ (hK w' born r1 r2 r3)
/-- The store into it. -/
theorem wpList_estore {w : World} {ops : Array Oper} {rest : List Oper} {o : Oper} {a : Act} {Q : Exit → Act → World → Prop}
    (hg : o.guard = none) (mo so vo : Operand) (t : TypeId) (hop : o.op = Op.entryStore t mo so vo) (b : Nat) (m : List (K × V)) (x : K) (born : Nat) (v : V)
    (hm : a.eval mo = .map (some b)) (hown : EntOf enc ev w b m x born) (hs : a.eval so = .int .i64 born) (hv : a.eval vo = ev v)
    (hK : ∀ w', MapOf enc ev w' b (putK m x v) → w.grownBy w' (some b) → w'.heap.size = w.heap.size → wpList P ops Q rest (a.put o.dst undef) w') : wpList P ops Q (o :: rest) a w := by
  refine wpList_plain hg fun K' hK' => ?_
  obtain ⟨w', hrun, r1, r2, r3⟩ := store_run (P := P) hown t v
  unfold Oper.wp
  simp only [execOp, hop, hm, hs, hv, Sem.run_bind, hrun, Result.andThen]
  exact hK' _ _ (hK w' r1 r2 r3)
omit [DecidableEq K] in
theorem putK_put [DecidableEq K] (m : List (K × V)) (x : K) (u v : V) : putK (putK m x u) x v = putK m x v := by
  induction m with
  | nil => simp [putK]
  | cons p m ih =>
    by_cases h : x = p.1
    · have e1 : ∀ y, putK (p :: m) x y = (x, y) :: m := fun y => by
        unfold putK
        rw [if_pos h]
      rw [e1, e1]
      unfold putK
      rw [if_pos rfl]
    · have e1 : ∀ (l : List (K × V)) y, putK (p :: l) x y = p :: putK l x y := fun l y => by
        conv => lhs; unfold putK
        rw [if_neg h]
      rw [e1, e1, e1, ih]

/-! ### a range -/
/-- Block r ranges over the map in block b: these keys are done, those are left. -/
def RngOf (enc : K → Value) (ev : V → Value) (w : World) (b r : Nat) (m : List (K × V)) (done left : List K) : Prop :=
  ∃ es clock since seen c0, w.heap[b]? = some (.map es clock) ∧ es.toList.map (fun e => (e.key, e.val)) = m.map (fun p => (enc p.1, ev p.2)) ∧ (∀ e ∈ es.toList, e.born < since) ∧ (es.toList.map (·.born)).Nodup ∧
    w.heap[r]? = some (.mapIter (some b) since seen c0) ∧ since ≤ c0 ∧ since ≤ clock ∧ (leftOf es seen).toList.map (·.key) = left.map enc ∧ (done ++ left).Perm (m.map (·.1))
omit [DecidableEq K] in
theorem RngOf.left_eq {w : World} {b r : Nat} {m : List (K × V)} {done left : List K} (h : RngOf enc ev w b r m done left) : w.rangeLeft b r = left.length := by
  obtain ⟨es, clock, since, seen, c0, hb, _, _, _, hr, _, _, hl, _⟩ := h
  have := congrArg List.length hl
  simp only [List.length_map] at this
  unfold World.rangeLeft
  rw [hb, hr]
  simpa using this
omit [DecidableEq K] in
theorem RngOf.kept {w w' : World} {b r : Nat} {m : List (K × V)} {done left : List K} {row : Option Nat} (h : RngOf enc ev w b r m done left) (g : w.grownBy w' row) (h1 : some b ≠ row) (h2 : some r ≠ row) : RngOf enc ev w' b r m done left := by
  obtain ⟨es, clock, since, seen, c0, hb, q1, q2, q3, hr, q⟩ := h
  exact ⟨es, clock, since, seen, c0, (g.block b (Array.getElem?_eq_some_iff.1 hb).1 h1).trans hb, q1, q2, q3, (g.block r (Array.getElem?_eq_some_iff.1 hr).1 h2).trans hr, q⟩
omit [DecidableEq K] in
theorem RngOf.lt {w : World} {b r : Nat} {m : List (K × V)} {done left : List K} (h : RngOf enc ev w b r m done left) : b < w.heap.size ∧ r < w.heap.size := by
  obtain ⟨es, clock, since, seen, c0, hb, q1, q2, q3, hr, q⟩ := h
  exact ⟨(Array.getElem?_eq_some_iff.1 hb).1, (Array.getElem?_eq_some_iff.1 hr).1⟩
omit [DecidableEq K] in
theorem range_run {t e : TypeId} (ht : P.underlying t = some (.map k e)) {w : World} {b : Nat} {m : List (K × V)} (h : MapOf enc ev w b m) :
    ∃ w', (Instr.range t (.map (some b))).run P w = .ok (.pointer (some ⟨w.heap.size, 0, none⟩)) w' ∧ RngOf enc ev w' b w.heap.size m [] (m.map (·.1)) ∧ w.grownBy w' none ∧ w'.heap.size = w.heap.size + 1 := by
  have hlt := h.lt
  obtain ⟨es, clock, hb, hm, hs1, hs2⟩ := h
  refine ⟨_, run_range_map w t k e b es clock ht hb, ⟨es, clock, clock, #[], clock, ((MapKept.heap_alloc w _).2 b hlt).trans hb, hm, hs1, hs2, (MapKept.heap_alloc w _).1, Nat.le_refl _, Nat.le_refl _, ?_, List.Perm.refl _⟩, World.grownBy_alloc w _ none, by simp⟩
  have := congrArg (List.map Prod.fst) hm
  simp only [List.map_map] at this
  rw [List.map_map]
  have e0 : (leftOf es #[]).toList = es.toList := by
    unfold leftOf
    rw [Array.toList_filter]
    exact List.filter_eq_self.2 (fun _ _ => by simp)
  rw [e0]
  simpa [Function.comp_def] using this
omit [DecidableEq K] in
theorem next_run {w : World} {b r : Nat} {m : List (K × V)} {done left : List K} (h : RngOf enc ev w b r m done left) (ty : TypeId) :
    (left = [] ∧ (Instr.next (.pointer (some ⟨r, 0, none⟩)) false ty).run P w = .ok (.tuple #[.bool false]) w) ∨
    ∃ x u left' w', (Instr.next (.pointer (some ⟨r, 0, none⟩)) false ty).run P w = .ok (.tuple #[.bool true, enc x, u]) w' ∧ RngOf enc ev w' b r m (done ++ [x]) left' ∧ left'.length < left.length ∧ w.grownBy w' (some r) ∧ w'.heap.size = w.heap.size ∧
      (Instr.entry (.pointer (some ⟨r, 0, none⟩))).run P w' = .ok (.tuple #[enc x, u]) w' := by
  obtain ⟨es, clock, since, seen, c0, hb, hm, hs1, hs2, hr, hc, hcl, hl, hp⟩ := h
  rcases run_next_at (P := P) w ty r b since c0 seen es clock hr hb hs1 hc with ⟨h0, hrun⟩ | ⟨e, he, w1, hal, hrun⟩
  · refine Or.inl ⟨?_, hrun⟩
    have := congrArg List.length hl
    simp only [List.length_map] at this
    exact List.eq_nil_of_length_eq_zero (by rw [← this]; simpa using h0)
  · right
    have hne : r ≠ b := fun e => by
      subst e
      rw [hb] at hr
      cases hr
    obtain ⟨hem, hes⟩ := mem_left he
    obtain ⟨l1, l2, hsplit⟩ := List.append_of_mem he
    rw [hsplit, List.map_append, List.map_cons] at hl
    obtain ⟨k1, k', rfl, hk1, hk'⟩ := List.map_eq_append_iff.1 hl.symm
    obtain ⟨x, k2, rfl, hx, hk2⟩ := List.map_eq_cons_iff.1 hk'
    have hr1 : w1.heap[r]? = some (.mapIter (some b) since seen c0) := by rcases hal with rfl | rfl <;> exact hr
    have hb1 : w1.heap[b]? = some (.map es clock) := by rcases hal with rfl | rfl <;> exact hb
    have hset := MapKept.heap_set (o' := .mapIter (some b) since (seen.push e.born) clock) hr1
    have hb' : (ChangeMaps.setBlock w1 r (.mapIter (some b) since (seen.push e.born) clock)).heap[b]? = some (.map es clock) := (hset.2 b (fun e1 => hne e1.symm)).trans hb1
    have hleft : (leftOf es (seen.push e.born)).toList = l1 ++ l2 := by
      have e1 : (leftOf es (seen.push e.born)).toList = ((leftOf es seen).toList).filter fun y => !(y.born == e.born) := by
        unfold leftOf
        rw [Array.toList_filter, Array.toList_filter, List.filter_filter]
        refine List.filter_congr fun y _ => ?_
        rw [contains_push]
        cases seen.contains y.born <;> cases (y.born == e.born) <;> rfl
      have hnd : ((leftOf es seen).toList.map (·.born)).Nodup := by
        unfold leftOf
        rw [Array.toList_filter]
        exact List.Sublist.nodup (List.Sublist.map _ List.filter_sublist) hs2
      rw [hsplit, List.map_append, List.map_cons, List.nodup_append] at hnd
      obtain ⟨n1, n2, n3⟩ := hnd
      rw [List.nodup_cons] at n2
      rw [e1, hsplit, List.filter_append, List.filter_cons]
      simp only [beq_self_eq_true, Bool.not_true, Bool.false_eq_true, if_false]
      congr 1
      · refine List.filter_eq_self.2 fun y hy => ?_
        have := n3 y.born (List.mem_map.2 ⟨y, hy, rfl⟩) e.born (List.mem_cons_self ..)
        simpa using this
      · refine List.filter_eq_self.2 fun y hy => ?_
        have : y.born ≠ e.born := fun h => n2.1 (List.mem_map.2 ⟨y, hy, h⟩)
        simpa using this
    rw [← hx] at hrun
    refine ⟨x, e.val, k1 ++ k2, _, hrun, ⟨es, clock, since, seen.push e.born, clock, hb', hm, hs1, hs2, hset.1, hcl, hcl, ?_, ?_⟩, by simp, ?_, ?_, ?_⟩
    · rw [hleft, List.map_append, List.map_append, hk1, hk2]
    · refine List.Perm.trans ?_ hp
      rw [List.append_assoc]
      refine List.Perm.append_left _ ?_
      show (x :: (k1 ++ k2)).Perm _
      exact List.perm_middle.symm
    · rcases hal with rfl | rfl <;> exact ⟨rfl, rfl, rfl, by simp [ChangeMaps.setBlock], fun i _ hi => hset.2 i (fun e1 => hi (by rw [e1]))⟩
    · rcases hal with rfl | rfl <;> simp [ChangeMaps.setBlock]
    · rw [hx]
      exact run_entry_at _ r b since seen es clock e hset.1 hb' hem hs2
omit [DecidableEq K] in
theorem wpList_rng {w : World} {ops : Array Oper} {rest : List Oper} {o : Oper} {a : Act} {Q : Exit → Act → World → Prop} (hg : o.guard = none) (mo : Operand) (t : TypeId) (hop : o.op = Op.range t mo) (e : TypeId) (ht : P.underlying t = some (.map k e)) (b : Nat) (m : List (K × V))
    (hm : a.eval mo = .map (some b)) (hown : MapOf enc ev w b m)
    (hK : ∀ w', RngOf enc ev w' b w.heap.size m [] (m.map (·.1)) → w.grownBy w' none → w'.heap.size = w.heap.size + 1 → wpList P ops Q rest (a.put o.dst (.pointer (some ⟨w.heap.size, 0, none⟩))) w') : wpList P ops Q (o :: rest) a w := by
  refine wpList_plain hg fun K' hK' => ?_
  obtain ⟨w', hrun, r1, r2, r3⟩ := range_run ht hown
  unfold Oper.wp
  simp [execOp, hop, hm, hrun, Result.andThen]
  exact hK' _ _ (hK w' r1 r2 r3)
omit [DecidableEq K] in
theorem wpList_nxt {w : World} {ops : Array Oper} {rest : List Oper} {o : Oper} {a : Act} {Q : Exit → Act → World → Prop} (hg : o.guard = none) (it : Operand) (hop : o.op = Op.next it false) (b r : Nat) (m : List (K × V)) (done left : List K)
    (hit : a.eval it = .pointer (some ⟨r, 0, none⟩)) (h : RngOf enc ev w b r m done left)
    (hDone : left = [] → wpList P ops Q rest (a.put o.dst (.tuple #[.bool false])) w)
    (hMore : ∀ (x : K) (u : Value) (left' : List K) (w' : World), RngOf enc ev w' b r m (done ++ [x]) left' → left'.length < left.length → w.grownBy w' (some r) → w'.heap.size = w.heap.size →
      (Instr.entry (.pointer (some ⟨r, 0, none⟩))).run P w' = .ok (.tuple #[enc x, u]) w' → wpList P ops Q rest (a.put o.dst (.tuple #[.bool true, enc x, u])) w') : wpList P ops Q (o :: rest) a w := by
  refine wpList_plain hg fun K' hK' => ?_
  unfold Oper.wp
  rcases next_run (P := P) h o.type with ⟨h0, hrun⟩ | ⟨x, u, left', w', hrun, h1, h2, h3, h4, h5⟩
  · simp [execOp, hop, hit, hrun, Result.andThen]
    exact hK' _ _ (hDone h0)
  · simp [execOp, hop, hit, hrun, Result.andThen]
    exact hK' _ _ (hMore x u left' w' h1 h2 h3 h4 h5)
end
end Go.Proofs.YtaaeapjnjjbglaaGreatDoor
