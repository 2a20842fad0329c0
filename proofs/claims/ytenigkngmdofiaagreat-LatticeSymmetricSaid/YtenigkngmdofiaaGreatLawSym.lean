/- The given statement LatticeSymmetricSaid: for every input the law returns true, and each argument reads behind the call as it did. No conditions. -/
import Derived.Test.YtenigkngmdofiaaGreatBLib
import Derived.Test.YtenigkngmdofiaaGreatRows
import Derived.Test.YtenigkngmdofiaaGreatBAlive
import Derived.Test.YtenigkngmdofiaaGreatBGrp
import Derived.Test.YtenigkngmdofiaaGreatBApi
import Derived.Test.YtenigkngmdofiaaGreatBOpen
namespace Go.Proofs.YtenigkngmdofiaaGreat
open Go.RowKit

def encI (x : Int) : Value := .int .i64 x
theorem encI_key (x : Int) : MapKept.IsKey (.int .i64) (encI x) := by simp [MapKept.IsKey, encI]
theorem findI (x : Int) {V : Type} (ev : V → Value) : ∀ (es : List MapEntry) (m : List (Int × V)) (i : Nat), es.map (fun e => (e.key, e.val)) = m.map (fun p => (encI p.1, ev p.2)) →
    Instr.findNow (.int .i64) (encI x) es i = some ((lookAt m x i).map fun r => (r.1, ev r.2))
  | [], [], i, _ => by simp [Instr.findNow, lookAt]
  | [], p :: m, _, h => by simp at h
  | e :: es, [], _, h => by simp at h
  | e :: es, p :: m, i, h => by
    simp only [List.map_cons, List.cons.injEq, Prod.mk.injEq] at h
    obtain ⟨⟨h1, h2⟩, h3⟩ := h
    have ih := findI x ev es m (i + 1) h3
    unfold lookAt
    by_cases hx : x = p.1
    · simp [Instr.findNow, h1, Instr.sameNow, encI, hx, h2]
    · have hb : (x == p.1) = false := by simpa using hx
      rw [if_neg hx, ← ih]
      simp [Instr.findNow, h1, Instr.sameNow, encI, hb]
section
variable {V : Type} {ev : V → Value}
theorem lookupI_run {t e : TypeId} (ht : Tryz.prog.underlying t = some (.map 3 e)) {w : World} {z : Value} (hz : (zeroValue e).run Tryz.prog w = .ok z w) {b : Nat} {m : List (Int × V)} (h : MapOf encI ev w b m) (x : Int) (ok : Bool) :
    (Instr.lookup t (.map (some b)) (encI x) ok).run Tryz.prog w = .ok (match getK m x with
      | some v => if ok then .tuple #[ev v, .bool true] else ev v
      | none => if ok then .tuple #[z, .bool false] else z) w := by
  obtain ⟨es, clock, hb, hm, _⟩ := h
  have hf := MapKept.run_findKey (w := w) Tryz.underlying3 (findI x ev es.toList m 0 hm)
  have hck := fun em => MapKept.run_checkKey (w := w) Tryz.underlying3 (encI_key x) em 9999
  rw [← lookAt_getK m x 0]
  cases hl : lookAt m x 0 with
  | none =>
    rw [hl] at hf
    simp [Instr.lookup, run_underlying ht, MapKept.run_getObj_map hb, hck, hf, hz, Result.andThen]
  | some r =>
    rw [hl] at hf
    simp [Instr.lookup, run_underlying ht, MapKept.run_getObj_map hb, hck, hf, Result.andThen]
/-- A store. -/
theorem updateI_run {t e : TypeId} (ht : Tryz.prog.underlying t = some (.map 3 e)) {w : World} {b : Nat} {m : List (Int × V)} (h : MapOf encI ev w b m) (x : Int) (v : V) :
    ∃ w', (Instr.mapUpdate t (.map (some b)) (encI x) (ev v)).run Tryz.prog w = .ok () w' ∧ MapOf encI ev w' b (putK m x v) ∧ w.grownBy w' (some b) ∧ w'.heap.size = w.heap.size := by
  obtain ⟨es, clock, hb, hm, hs1, hs2⟩ := h
  have hf := MapKept.run_findKey (w := w) Tryz.underlying3 (findI x ev es.toList m 0 hm)
  have hck := fun em => MapKept.run_checkKey (w := w) Tryz.underlying3 (encI_key x) em 9999
  have hsame : Instr.sameBits 10000 (encI x) (encI x) = true := by simp [encI, Instr.sameBits]
  have grown : ∀ o, w.grownBy (ChangeMaps.setBlock w b o) (some b) := fun o => ⟨rfl, rfl, rfl, by simp [ChangeMaps.setBlock], fun i _ hi => ChangeMaps.heap_setBlock_other hb _ (fun e => hi (by rw [e]))⟩
  have hsz : ∀ o, (ChangeMaps.setBlock w b o).heap.size = w.heap.size := fun o => by simp [ChangeMaps.setBlock]
  cases hl : lookAt m x 0 with
  | none =>
    rw [hl] at hf
    refine ⟨ChangeMaps.setBlock w b (.map (es.push { key := encI x, val := ev v, born := clock }) (clock + 1)), ?_, ⟨_, _, ChangeMaps.heap_setBlock_same hb _, ?_, ?_, ?_⟩, grown _, hsz _⟩
    · simp [Instr.mapUpdate, run_underlying ht, MapKept.run_getObj_map hb, hck, hf, MapKept.run_setObj_map _ hb, Result.andThen, ChangeMaps.setBlock]
    · rw [lookAt_none hl]
      simp [hm]
    · intro y hy
      simp only [Array.toList_push, List.mem_append, List.mem_singleton] at hy
      rcases hy with hy | rfl
      · exact Nat.lt_succ_of_lt (hs1 y hy)
      · exact Nat.lt_succ_self _
    · simp only [Array.toList_push, List.map_append, List.map_cons, List.map_nil]
      refine List.nodup_append.2 ⟨hs2, by simp, ?_⟩
      intro a ha b hb
      simp only [List.mem_singleton] at hb
      subst hb
      obtain ⟨y, hy, rfl⟩ := List.mem_map.1 ha
      exact Nat.ne_of_lt (hs1 y hy)
  | some r =>
    obtain ⟨j, u⟩ := r
    rw [hl] at hf
    obtain ⟨j', hj', h1, h2⟩ := lookAt_some hl v
    obtain rfl : j = j' := by omega
    have hlen : es.toList.length = m.length := by
      have := congrArg List.length hm
      simpa using this
    have hjl : j < es.toList.length := by
      rw [hlen]
      exact (List.getElem?_eq_some_iff.1 h1).1
    have hjm : (es.toList.map (fun e => (e.key, e.val)))[j]? = some (encI x, ev u) := by
      rw [hm, List.getElem?_map, h1]
      rfl
    obtain ⟨e0, hej⟩ : ∃ e0, es.toList[j]? = some e0 := ⟨_, List.getElem?_eq_getElem hjl⟩
    have hmem : e0 ∈ es.toList := List.mem_of_getElem? hej
    have hkey : e0.key = encI x := by
      rw [List.getElem?_map, hej] at hjm
      simp only [Option.map_some, Option.some.injEq, Prod.mk.injEq] at hjm
      exact hjm.1
    have hej' : es[j]? = some e0 := by rw [← hej]; simp
    have hlist : (es.modify j (fun e' => { e' with key := encI x, val := ev v })).toList = es.toList.set j { e0 with key := encI x, val := ev v } := by
      rw [Array.toList_modify, ChangeMaps.modify_eq_set _ _ _ _ hej]
    refine ⟨ChangeMaps.setBlock w b (.map (es.modify j (fun e' => { e' with key := encI x, val := ev v })) clock), ?_, ⟨_, _, ChangeMaps.heap_setBlock_same hb _, ?_, ?_, ?_⟩, grown _, hsz _⟩
    · simp [Instr.mapUpdate, run_underlying ht, MapKept.run_getObj_map hb, hck, hf, hej', hkey, Instr.keyThatStays, hsame, MapKept.run_setObj_map _ hb, Result.andThen, ChangeMaps.setBlock]
    · rw [hlist, h2, List.map_set, List.map_set, hm]
    · intro y hy
      rw [hlist] at hy
      rcases List.mem_or_eq_of_mem_set hy with hy | rfl
      · exact hs1 y hy
      · exact hs1 e0 hmem
    · rw [hlist, List.map_set]
      have := hs2
      have hb0 : (es.toList.map (·.born)).set j e0.born = es.toList.map (·.born) := by
        refine List.ext_getElem? fun i => ?_
        rw [List.getElem?_set]
        split
        · rename_i e
          subst e
          rw [if_pos (by simpa using hjl), List.getElem?_map, hej]
          rfl
        · rfl
      rw [hb0]
      exact this
theorem wpList_putI {w : World} {ops : Array Oper} {rest : List Oper} {o : Oper} {a : Act} {Q : Exit → Act → World → Prop}
    (hg : o.guard = none) (mo xo vo : Operand) (t : TypeId) (hop : o.op = Op.mapUpdate t mo xo vo) (e : TypeId) (ht : Tryz.prog.underlying t = some (.map 3 e)) (b : Nat) (m : List (Int × V)) (x : Int) (v : V)
    (hm : a.eval mo = .map (some b)) (hown : MapOf encI ev w b m) (hx : a.eval xo = encI x) (hv : a.eval vo = ev v)
    (hK : ∀ w', MapOf encI ev w' b (putK m x v) → w.grownBy w' (some b) → w'.heap.size = w.heap.size → wpList Tryz.prog ops Q rest (a.put o.dst undef) w') : wpList Tryz.prog ops Q (o :: rest) a w := by
  refine wpList_plain hg fun K' hK' => ?_
  obtain ⟨w', hrun, r1, r2, r3⟩ := updateI_run ht hown x v
  unfold Oper.wp
  simp [execOp, hop, hm, hx, hv, hrun, Result.andThen]
  exact hK' _ _ (hK w' r1 r2 r3)
end
end Go.Proofs.YtenigkngmdofiaaGreat
namespace Go.Proofs.YtenigkngmdofiaaGreat
open Go.RowKit

theorem great_at {qs : List (Knd × KAt)} {A : Option Addr} {cap : Nat} {B : Option Addr} {n cb : Nat} {r : Bool} (h : greatB (qs.map (·.1)) n = r) {w : World} (hk : Kinds w A cap qs) (hn : n ≤ maxLen) :
    Calls Tryz.prog 14 #[.slice A qs.length cap, .agg #[.slice B n cb]] w fun e w' => e = .returned (.bool r) ∧ Ext w w' := by
  subst h
  exact great_c _ _ _ _ _ _ _ hk hn
/-- The symmetries as numbers. -/
def symsL (k : Knd) : List Nat := (List.range 24).filter fun n => likeB k 0 ⟨0, 0, 0⟩ n
theorem upto_val : (upto 24).map (fun x => x.val) = List.range 24 := by decide
theorem symsL_eq (k : Knd) : symsL k = ((upto 24).filter fun x => likeB k 0 ⟨0, 0, 0⟩ x.val).map fun x => x.val := by
  unfold symsL
  rw [← upto_val, List.filter_map]
  rfl
theorem symN_L (k : Knd) : symN k (upto 24) = (natZ (symsL k)).length := by
  rw [natZ_len, symsL_eq, List.length_map]
  rfl
theorem symsOf_L (k : Knd) : (symsOf k (upto 24)).map (fun v => [v]) = (natZ (symsL k)).map fun n => [.int .i64 n] := by
  unfold symsOf natZ
  rw [symsL_eq, List.map_map, List.map_map, List.map_map]
  rfl
theorem symsL_asc (k : Knd) {i j : Nat} (hij : i < j) (hj : j < (symsL k).length) : (symsL k).getD i 0 < (symsL k).getD j 0 := by
  have h : (symsL k).Pairwise (· < ·) := List.pairwise_lt_range.filter _
  have := List.pairwise_iff_getElem.1 h i j (by omega) hj hij
  rwa [List.getD_eq_getElem?_getD, List.getD_eq_getElem?_getD, List.getElem?_eq_getElem hj, List.getElem?_eq_getElem (show i < _ by omega)]
theorem symsL_at (k : Knd) {i : Nat} (h : i < (symsL k).length) : (symsL k).getD i 0 < 24 ∧ likeB k 0 ⟨0, 0, 0⟩ ((symsL k).getD i 0) = true := by
  rw [List.getD_eq_getElem?_getD, List.getElem?_eq_getElem h]
  have := List.mem_filter.1 (List.getElem_mem h)
  exact ⟨List.mem_range.1 this.1, this.2⟩
theorem symsL_mem {k : Knd} {n : Nat} (h : n < 24) (hl : likeB k 0 ⟨0, 0, 0⟩ n = true) : ∃ i, i < (symsL k).length ∧ (symsL k).getD i 0 = n := by
  obtain ⟨i, hi⟩ := List.getElem?_of_mem (List.mem_filter.2 ⟨List.mem_range.2 h, hl⟩ : n ∈ symsL k)
  have hi' : (symsL k)[i]? = some n := hi
  exact ⟨i, (List.getElem?_eq_some_iff.1 hi).1, by rw [List.getD_eq_getElem?_getD, hi']; rfl⟩
/-- What is used of the list. -/
structure SymOk (l : List Nat) : Prop where
  n : l.length ≤ 24
  pos : 0 < l.length
  zero : l.getD 0 0 = 0
  div : 24 % l.length = 0
  asc : ∀ i j, i < j → j < l.length → l.getD i 0 < l.getD j 0
  lt : ∀ i, i < l.length → l.getD i 0 < 24
  comp : ∀ i j, i < l.length → j < l.length → ∃ t, t < l.length ∧ l.getD t 0 = compT (l.getD i 0) (l.getD j 0)
theorem symOk_of {k : Knd} (hf : k.Fine) : SymOk (symsL k) := by
  have hc := sym_closed hf
  obtain ⟨i0, h0, h1⟩ := symsL_mem (k := k) (n := 0) (by omega) hc.zero
  have hn : (symsL k).length ≤ 24 := by
    unfold symsL
    exact Nat.le_trans (List.length_filter_le _ _) (by simp)
  refine ⟨hn, by omega, ?_, hc.divides, fun i j hij hj => symsL_asc k hij hj, fun i hi => (symsL_at k hi).1, fun i j hi hj => ?_⟩
  · rcases Nat.eq_zero_or_pos i0 with rfl | hp
    · exact h1
    · have := symsL_asc k hp h0
      omega
  · have a := symsL_at k hi
    have b := symsL_at k hj
    exact symsL_mem (compT_lt a.1 b.1) (hc.comp _ _ a.1 b.1 a.2 b.2)
def SymPost' (l : List Nat) (w : World) (e : Ending) (w' : World) : Prop := ∃ A cap, e = .returned (.tuple #[.slice A l.length cap, .int .i64 0]) ∧ IntsZ w' A cap (natZ l) ∧ Ext w w'
theorem sym_c (cells : List Pt) (knobs : List Knb) (wt : Int) (A : Option Addr) (ca : Nat) (B : Option Addr) (cb : Nat) (w : World) (hc : Cells w A ca cells) (hn : Knobs w B cb knobs) (he : kindErr ⟨cells, knobs, wt⟩ = 0) (hf : Knd.Fine ⟨cells, knobs, wt⟩) :
    Calls Tryz.prog 28 #[.agg #[.slice A cells.length ca, .slice B knobs.length cb, .int .i64 wt]] w (SymPost' (symsL ⟨cells, knobs, wt⟩) w) := by
  refine Calls.mono (Symmetries_ok cells knobs wt A ca B cb w hc hn he hf) ?_
  rintro e w' ⟨SA, cap, he, hs, E⟩
  rw [symN_L] at he hs
  rw [symsOf_L] at hs
  rw [natZ_len] at he
  exact ⟨SA, cap, he, hs, E⟩
set_option maxRecDepth 100000 in
set_option maxHeartbeats 16000000 in
theorem symmetric_walk (cells : List Pt) (knobs : List Knb) (wt : Int) (A : Option Addr) (ca : Nat) (B : Option Addr) (cb : Nat) (w : World) (hc : Cells w A ca cells) (hn : Knobs w B cb knobs) :
    Calls Tryz.prog 5 #[.agg #[.slice A cells.length ca, .slice B knobs.length cb, .int .i64 wt]] w fun e w' => e = .returned (.bool true) ∧ Ext w w' := by
  obtain ⟨W1, hW1, E1, B1, hz1⟩ := mk_ w #[.slice A cells.length ca, .slice B knobs.length cb, .int .i64 wt] 58
  have b1 := B1.cell
  have HC := Lib.hid hc
  have HN := Lib.hid hn
  obtain ⟨gr, hg⟩ : ∃ r, greatB [(⟨cells, knobs, wt⟩ : Knd)] 0 = r := ⟨_, rfl⟩
  have GR := Lib.hid (fun W g (E : Ext w W) (hb : Blk W g 58 #[.slice A cells.length ca, .slice B knobs.length cb, .int .i64 wt]) =>
    great_at (B := none) (cb := 0) (qs := [(⟨cells, knobs, wt⟩, ⟨A, ca, B, cb⟩)]) hg (kinds_one (k := ⟨cells, knobs, wt⟩) (p := ⟨A, ca, B, cb⟩) hb ⟨hc.ext E, hn.ext E⟩) (Nat.zero_le _))
  clear hz1 hg hc hn
  go_enter Tryz.func5, Tryz.ntmps5
  go_wp2_with fail
  refine (alive_c _).mono ?_
  rintro e W2 ⟨rfl, E2⟩
  have B12 := B1.ext E2
  clear hW1 b1 B1
  have b1 := B12.cell
  obtain ⟨W3, hW3, E3, B3, hz3⟩ := mk_ W2 #[.slice A cells.length ca, .slice B knobs.length cb, .int .i64 wt] 58
  have E := (E1.trans E2).trans E3
  have G3 := Lib.hid (GR.out W3 W2.heap.size E B3)
  have B13 := B12.ext E3
  clear hz3 B3 GR B12 E1 E2 E3
  go_wp2_with fail
  refine G3.out.mono ?_
  rintro e W4 ⟨rfl, E4⟩
  have B14 := B13.ext E4
  replace E := E.trans E4
  clear b1 hW3 G3 B13 E4
  have b1 := B14.cell
  cases gr
  rotate_left
  · go_wp2_with fail
    go_ret
    exact ⟨rfl, E⟩
  by_cases he : kindErr ⟨cells, knobs, wt⟩ = 0
  rotate_left
  · have h10 : kindErr ⟨cells, knobs, wt⟩ = 10 := by
      unfold kindErr at he ⊢
      split
      · rename_i h
        rw [if_pos h] at he
        exact absurd rfl he
      · rfl
    have SB := Symmetries_bad cells knobs wt A ca B cb W4 (HC.out.ext E) (HN.out.ext E) 10 h10 (by omega)
    clear he h10
    go_wp2_with fail
    refine SB.mono ?_
    rintro e W5 ⟨rfl, E5⟩
    go_wp2_with fail
    go_ret
    exact ⟨rfl, E.trans E5⟩
  have hv : Knd.valid ⟨cells, knobs, wt⟩ = true := by
    unfold kindErr at he
    split at he
    · rename_i h
      exact h
    · cases he
  have hf := Knd.fine_of hv HN.out.2
  have SY := sym_c cells knobs wt A ca B cb W4 (HC.out.ext E) (HN.out.ext E) he hf
  have HO := Lib.hid (symOk_of hf)
  obtain ⟨l, hl⟩ : ∃ l, symsL ⟨cells, knobs, wt⟩ = l := ⟨_, rfl⟩
  rw [hl] at SY HO
  clear he hv hf hl HC HN
  go_wp2_with fail
  refine SY.mono ?_
  rintro e W5 ⟨SA, sc, rfl, hS, E5⟩
  clear b1 SY
  replace E := E.trans E5
  have hn24 := HO.out.n
  have hpos := HO.out.pos
  obtain ⟨n, hn⟩ : ∃ n, l.length = n := ⟨_, rfl⟩
  have Hn := Lib.hid hn
  have HS := Lib.hid (fun W (E : Ext W5 W) i (hi : i < n) => (hS.ext E).at_ (k := i) (by rw [natZ_len, hn]; exact hi))
  have HD := Lib.hid HO.out.div
  have hsl : n ≤ sc := by have := SliceIs.le hS; rw [natZ_len, hn] at this; exact this
  rw [hn] at hn24 hpos HD ⊢
  obtain ⟨g, off, p0, hSA, hp0, -, s0⟩ := HS.out W5 (Ext.refl _) 0 hpos
  subst hSA
  have HS' := Lib.hid (fun W (E : Ext W5 W) i (hi : i < n) => show W.cell? ⟨g, off + i, none⟩ = some (.int .i64 ((l.getD i 0 : Nat) : Int)) by
    obtain ⟨g', off', p', hg, hp', -, hc'⟩ := HS.out W E i hi
    simp only [Option.some.injEq, Addr.mk.injEq, and_true] at hg
    obtain ⟨rfl, rfl⟩ := hg
    rw [natZ_at (by rw [Hn.out]; exact hi)] at hp'
    cases hp'
    exact hc')
  have s0' := HS'.out W5 (Ext.refl _) 0 hpos
  rw [HO.out.zero, Nat.add_zero] at s0'
  have e7 : ((24 : Int) % (n : Int) != 0) = false := by
    have h1 : (24 : Int) % (n : Int) = ((24 % n : Nat) : Int) := rfl
    rw [h1, HD.out]
    rfl
  have e8 : ((n : Int) == 0) = false := by simp; omega
  have n0 : (n : Int) ≠ 0 := by omega
  have n1 : (0 : Int) < n := by omega
  have n24 : (n : Int) ≤ 24 := by omega
  have hmm := @run_makeMap Tryz.prog
  obtain ⟨W6, hW6, E6, M6, hz6⟩ := mapbox_ encI Value.bool W5
  obtain ⟨M, hM⟩ : ∃ M, W5.heap.size = M := ⟨_, rfl⟩
  rw [hM] at M6
  have HM := Lib.hid hM
  clear s0 hp0 hS hn HS hz6 hM
  go_wp2_with fail
  clear hmm hW6
  rw [HM.out]
  go_loopw [56] (fun ii wr => ∃ (j : Nat) (m : List (Int × Bool)), j ≤ n ∧ ii = .int .i64 j ∧ Ext W5 wr ∧ MapOf encI Value.bool wr M m ∧ Hid (∀ t, t < j → getK m ((l.getD t 0 : Nat) : Int) = some true)) (fun ii _ => n - (intOf ii).toNat)
  case atStart => exact ⟨0, [], by omega, rfl, E6, M6, Lib.hid (fun t ht => by omega)⟩
  case round =>
    clear E6 M6 s0'
    obtain ⟨j, m, hj, rfl, Er, MM, hm⟩ := hrel
    by_cases hlt : j < n
    · have c0 := HS'.out wr Er j hlt
      have hs24 := HO.out.lt j (by rw [Hn.out]; exact hlt)
      have hp : j ≠ 0 → l.getD (j - 1) 0 < l.getD j 0 := fun h => HO.out.asc (j - 1) j (by omega) (by rw [Hn.out]; exact hlt)
      obtain ⟨s, hs⟩ : ∃ s, l.getD j 0 = s := ⟨_, rfl⟩
      rw [hs] at c0 hs24 hp
      have Hs := Lib.hid hs
      have j0 : (0 : Int) ≤ j := by omega
      have j1 : (j : Int) < n := by omega
      have g3 : ¬ (23 : Int) < s := by omega
      clear hs
      by_cases hj0 : j = 0
      · subst hj0
        rw [Nat.add_zero] at c0
        clear hp
        go_wp2_with (at_mapUpdate; refine wpList_putI rfl _ _ _ 60 rfl 4 Tryz.underlying60 M m s true rfl MM rfl rfl ?_; intro w6 M6 hg6 hz6)
        go_roundw
        case rel =>
          refine ⟨0 + 1, _, by omega, by go_num, Er.grown hg6 (fun k hk => by have := Option.some.inj hk; have := HM.out; omega), M6, Lib.hid fun t ht => ?_⟩
          rw [getK_putK]
          by_cases e : ((l.getD t 0 : Nat) : Int) = (s : Int)
          · rw [if_pos e]
          · rw [if_neg e]
            exact hm.out t (by
              have : t ≠ 0 := fun h => e (by rw [h, Hs.out])
              omega)
        case measure => simp only [intOf]; omega
      · have p0 := HS'.out wr Er (j - 1) (by omega)
        have hps := hp hj0
        obtain ⟨r, hr⟩ : ∃ r, l.getD (j - 1) 0 = r := ⟨_, rfl⟩
        rw [hr] at p0 hps
        have ht : ((j : Int) - 1).toNat = j - 1 := by omega
        have k0 : (0 : Int) ≤ (j : Int) - 1 := by omega
        have k1 : (j : Int) - 1 < n := by omega
        have k2 : (0 : Int) < j := by omega
        have g4 : ¬ (s : Int) ≤ r := by omega
        clear hr hp hps
        go_wp2_with (at_mapUpdate; refine wpList_putI rfl _ _ _ 60 rfl 4 Tryz.underlying60 M m s true rfl MM rfl rfl ?_; intro w6 M6 hg6 hz6)
        go_roundw
        case rel =>
          refine ⟨j + 1, _, by omega, by go_num, Er.grown hg6 (fun k hk => by have := Option.some.inj hk; have := HM.out; omega), M6, Lib.hid fun t ht => ?_⟩
          rw [getK_putK]
          by_cases e : ((l.getD t 0 : Nat) : Int) = (s : Int)
          · rw [if_pos e]
          · rw [if_neg e]
            exact hm.out t (by
              have : t ≠ j := fun h => e (by rw [h, Hs.out])
              omega)
        case measure => simp only [intOf]; omega
    · obtain rfl : j = n := by omega
      go_wp2_with fail
      go_loopw [81] (fun ii wr' => ∃ (a : Nat), a ≤ j ∧ ii = .int .i64 a ∧ Ext W5 wr' ∧ MapOf encI Value.bool wr' M m) (fun ii _ => j - (intOf ii).toNat)
      case atStart => exact ⟨0, by omega, rfl, Er, MM⟩
      case round =>
        clear Er MM
        obtain ⟨a, ha, rfl, Er, MM⟩ := hrel
        by_cases hlt : a < j
        · have c0 := HS'.out wr Er a hlt
          have hsa := HO.out.lt a (by rw [Hn.out]; exact hlt)
          have hcp := fun b (hb : b < l.length) => HO.out.comp a b (by rw [Hn.out]; exact hlt) hb
          obtain ⟨s, hs⟩ : ∃ s, l.getD a 0 = s := ⟨_, rfl⟩
          rw [hs] at c0 hsa hcp
          have Hcp := Lib.hid hcp
          have j0 : (0 : Int) ≤ a := by omega
          have j1 : (a : Int) < j := by omega
          clear hs hcp
          go_wp2_with fail
          clear c0
          go_loopw [87] (fun ii wr' => ∃ (b : Nat), b ≤ j ∧ ii = .int .i64 b ∧ Ext W5 wr' ∧ MapOf encI Value.bool wr' M m) (fun ii _ => j - (intOf ii).toNat)
          case atStart => exact ⟨0, by omega, rfl, Er, MM⟩
          case round =>
            clear Er MM
            obtain ⟨b, hb, rfl, Er, MM⟩ := hrel
            by_cases hlb : b < j
            · have c0 := HS'.out wr Er b hlb
              have hsb := HO.out.lt b (by rw [Hn.out]; exact hlb)
              obtain ⟨t, ht, htc⟩ := Hcp.out b (by rw [Hn.out]; exact hlb)
              obtain ⟨u, hu⟩ : ∃ s, l.getD b 0 = s := ⟨_, rfl⟩
              rw [hu] at c0 hsb htc
              have hgk := hm.out t (by rw [← Hn.out]; exact ht)
              rw [htc] at hgk
              have CO := Compose_ok s u hsa hsb wr
              obtain ⟨c, hc⟩ : ∃ c, compT s u = c := ⟨_, rfl⟩
              rw [hc] at CO hgk
              have b0 : (0 : Int) ≤ b := by omega
              have b1 : (b : Int) < j := by omega
              have Hgk := Lib.hid hgk
              clear hu hc ht htc hgk
              go_wp2_with fail
              refine CO.mono ?_
              rintro e w4 ⟨rfl, E4⟩
              have M4 := MM.ext E4
              have lk := lookupI_run Tryz.underlying60 (z := .bool false) (by kernel_rfl) M4 (c : Int) false
              rw [Hgk.out] at lk
              simp only [encI, Bool.false_eq_true, if_false] at lk
              clear c0
              go_wp2_with fail
              go_roundw
              case rel => exact ⟨b + 1, by omega, by go_num, Er.trans E4, M4⟩
              case measure => simp only [intOf]; omega
            · obtain rfl : b = j := by omega
              go_wp2_with fail
              go_roundw
              case rel => exact ⟨a + 1, by omega, by go_num, Er, MM⟩
              case measure => simp only [intOf]; omega
        · obtain rfl : a = j := by omega
          go_wp2_with fail
          go_ret
          exact ⟨rfl, E.trans Er⟩
end Go.Proofs.YtenigkngmdofiaaGreat
namespace Go.Proofs.YtenigkngmdofiaaGreat
open Go.RowKit Go.ChangeShapes Go.WideShapes Go.ChangeAt Go.Deep Go.Joins

set_option maxRecDepth 100000 in
theorem latticeSymmetric_lifted (os : Os) (started : os.Started) (H : Type) (enc : TypeId × Value → H) :
    ReturnsInHanded {} Tryz.checked os 5 .any (Rows.latticeSymmetricSpec.pre6 enc Tryz.prog Tryz.f5 Rows.latticeSymmetricRow.domain false) (Rows.latticeSymmetricSpec.post enc Tryz.prog Tryz.f5 false true false false) := by
  refine returnsInHanded_of_change (C := Tryz.checked) Tryz.own started (by kernel_rfl) Tryz.func5
    (ChangeSpec.witness6 (enc := enc) (C := Tryz.checked) false ⟨#[], #[.agg #[.slice none 0 0, .slice none 0 0, .int .i64 0]], []⟩ 8 (by kernel_rfl) (by kernel_rfl) (by kernel_rfl) (by kernel_rfl)) ?_
  intro W base args ds gs before hval0 hW hcnd _
  have hval : ∀ (j : Nat) t v, Tryz.f5.params[j]? = some t → args[j]? = some v → Value.okWide Tryz.prog W .any base t v := hval0
  have hW' := hW
  obtain ⟨p, q, hA0, hV, rfl, hfz, hnd⟩ := hW
  have hA : DataW.TrodAll enc Tryz.prog W 0 (fun _ => true) true Tryz.f5.params.toList args.toList ds p := hA0
  rw [Tryz.params5] at hA hval
  have hAll := hA
  obtain ⟨v0, d0, rfl, rfl, h0⟩ := trodAll_one hA
  obtain ⟨rfl, rfl⟩ := trodVars_none hV
  obtain ⟨c0, c1, c2, fu0, rfl, hf0⟩ := open_three Tryz.underlying58 cells_kind (hval 0 58 v0 rfl rfl) h0
  obtain ⟨⟨cells, knobs, wt⟩, ⟨A, ca, B, cb⟩, hk0, ⟨hc, hn⟩, -, -⟩ := kind_of_trod hf0
  unfold Knd.cs at hk0
  simp only [List.cons.injEq, and_true] at hk0 hc hn
  obtain ⟨rfl, rfl, rfl⟩ := hk0
  clear hA0 hval0
  simp only [List.append_nil] at hW' hAll
  have hlt : ∀ q ∈ p, q.block < W.heap.size := fun q hq => hW'.lt q hq
  refine (symmetric_walk cells knobs wt A ca B cb W hc hn).mono fun e W' ⟨he, hE⟩ => ?_
  subst he
  refine ⟨_, rfl, ?_⟩
  refine ⟨_, _, _, [], p, [], hW', ?_, ?_, rfl, hE.frame _, fun h => by cases h⟩
  · exact trodAll_mk1 (shut_bool Tryz.underlying4 true)
  · exact trodAll_ext (ts := [58]) Tryz.laidOut hE (by
      intro t ht
      simp only [List.mem_cons, List.not_mem_nil, or_false] at ht
      rcases ht with rfl <;> exact ⟨by kernel_rfl, of_decide_eq_true (by kernel_rfl)⟩) hAll hlt

theorem latticeSymmetric_holds : Rows.LatticeSymmetricSaid :=
  OpenClaim.holds_of_wide 5 Tryz.f5 rfl rfl rfl rfl rfl rfl rfl ⟨rfl, rfl, rfl, rfl, rfl⟩ rfl rfl rfl rfl rfl (by kernel_rfl) Tryz.func5 (by kernel_rfl)
    (of_decide_eq_true (by kernel_rfl)) (by unfold Func.isWrapper; rw [if_neg (of_decide_eq_false (by kernel_rfl))]; exact ⟨rfl, rfl⟩)
    (fun os started H enc _ => latticeSymmetric_lifted os started H enc)
#print axioms latticeSymmetric_holds
end Go.Proofs.YtenigkngmdofiaaGreat
