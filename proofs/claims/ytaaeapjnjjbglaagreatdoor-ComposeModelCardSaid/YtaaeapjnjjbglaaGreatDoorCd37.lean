/- slices.Clone of laid plates. The law's small helpers: at, two, four. SameLaid at equal compositions, and 'before'. weak of the program. firstOf: whether a composition is better than the best one so far. -/
import Derived.Test.YtaaeapjnjjbglaaGreatDoorCd34
import Derived.Test.YtaaeapjnjjbglaaGreatDoorCd36
import Derived.Lib.LazyBuf
import Derived.Handy
import Derived.Laws.StructEq

namespace Go.Proofs.YtaaeapjnjjbglaaGreatDoor
open Go.RowKit

theorem flat_get {rows : List (List Value)} {sz i j : Nat} {r : List Value} (hw : ∀ r ∈ rows, r.length = sz) (hr : rows[i]? = some r) (hj : j < sz) : rows.flatten[i * sz + j]? = r[j]? := by
  induction rows generalizing i with
  | nil => simp at hr
  | cons x rows ih =>
    have hx := hw x (by simp)
    cases i with
    | zero =>
      simp only [List.getElem?_cons_zero, Option.some.injEq] at hr
      subst hr
      rw [List.flatten_cons, Nat.zero_mul, Nat.zero_add, List.getElem?_append_left (by omega)]
    | succ i =>
      simp only [List.getElem?_cons_succ] at hr
      rw [List.flatten_cons, List.getElem?_append_right (by rw [hx, Nat.succ_mul]; omega), hx]
      have e2 : (i + 1) * sz + j - sz = i * sz + j := by rw [Nat.succ_mul]; omega
      rw [e2]
      exact ih (fun r hr => hw r (by simp [hr])) hr
theorem flat_len {rows : List (List Value)} {sz : Nat} (hw : ∀ r ∈ rows, r.length = sz) : rows.flatten.length = rows.length * sz := by
  induction rows with
  | nil => simp
  | cons x rows ih =>
    rw [List.flatten_cons, List.length_append, ih (fun r hr => hw r (by simp [hr])), hw x (by simp), List.length_cons, Nat.succ_mul]
    omega
/-- The cells of a slice, one behind the other. -/
theorem SliceIs.flat {w : World} {A : Option Addr} {n cap sz : Nat} {rows : List (List Value)} (h : SliceIs w A n cap sz rows) (hn : 0 < n) (hsz : 0 < sz) : ∃ b off, A = some ⟨b, off, none⟩ ∧ ∀ (j : Nat) (u : Value), rows.flatten[j]? = some u → w.cell? ((⟨b, off, none⟩ : Addr).add j) = some u := by
  obtain ⟨b, off, hA, hb, hc⟩ := h.cells hn
  refine ⟨b, off, hA, fun j u hu => ?_⟩
  have hl := flat_len h.wide
  have hj : j < rows.length * sz := by
    rw [← hl]
    exact (List.getElem?_eq_some_iff.1 hu).1
  have hi : j / sz < rows.length := Nat.div_lt_of_lt_mul (by rw [Nat.mul_comm]; exact hj)
  have hm : j % sz < sz := Nat.mod_lt _ hsz
  have hdm : j / sz * sz + j % sz = j := by rw [Nat.mul_comm]; exact Nat.div_add_mod j sz
  have hr : rows[j / sz]? = some rows[j / sz] := List.getElem?_eq_getElem hi
  have hf := flat_get h.wide hr hm
  rw [hdm, hu] at hf
  have := hc _ _ hr _ u hf.symm
  have hadd : (⟨b, off, none⟩ : Addr).add j = ⟨b, off + j / sz * sz + j % sz, none⟩ := by
    unfold Addr.add
    split
    · subst_vars
      simp
    · rw [Nat.add_assoc, hdm]
  rw [hadd]
  exact this
theorem laid_one {c : List Laid} : ∀ u ∈ (c.map Laid.cells).flatten, u.oneCell' = true := by
  intro u hu
  rw [List.mem_flatten] at hu
  obtain ⟨r, hr, hu⟩ := hu
  obtain ⟨x, _, rfl⟩ := List.mem_map.1 hr
  unfold Laid.cells at hu
  simp only [List.mem_cons, List.not_mem_nil, or_false] at hu
  rcases hu with rfl | rfl | rfl | rfl | rfl <;> rfl

set_option maxHeartbeats 1000000 in
theorem clone_c (CA : Option Addr) (cc : Nat) (c : List Laid) (hc : 0 < c.length) (hlen : c.length ≤ 1000) (w : World) (h : Laids w CA cc c) :
    Calls Tryz.prog 38 #[.slice CA c.length cc] w fun e w' => ∃ g cap, e = .returned (.slice (some ⟨g, 0, none⟩) c.length cap) ∧ w'.ownsRow w.heap.size 55 5 (.slice (some ⟨g, 0, none⟩) c.length cap) c.length (c.map Laid.cells).flatten ∧ Ext w w' := by
  obtain ⟨b, off, rfl, hcells⟩ := SliceIs.flat h hc (by decide)
  have hnil : (binOp .eql 26 (.slice (some ⟨b, off, none⟩) c.length cc) (.slice none 0 0)).run Tryz.prog w = .ok (.bool false) w := Lib.run_eql_slice_nil w _ _ _ _ _ _ _ Tryz.underlying26
  obtain ⟨iL, hiL, zL0, zL1, zL2⟩ := info_parts infoLaid
  have hfl : (c.map Laid.cells).flatten.length = c.length * 5 := by
    have := flat_len (rows := c.map Laid.cells) (sz := 5) (by
      intro r hr
      obtain ⟨x, _, rfl⟩ := List.mem_map.1 hr
      rfl)
    rw [this, List.length_map]
  obtain ⟨n, hn⟩ : ∃ n, c.length = n := ⟨_, rfl⟩
  obtain ⟨xs, hxs⟩ : ∃ xs, (c.map Laid.cells).flatten = xs := ⟨_, rfl⟩
  have hone : ∀ u ∈ xs, u.oneCell' = true := by rw [← hxs]; exact laid_one
  rw [hn] at hc hlen hnil hfl ⊢
  rw [hxs] at hcells hfl ⊢
  have Hcells := Lib.hid hcells
  have Hone := Lib.hid hone
  have Hfl := Lib.hid hfl
  have m1 : 0 + n ≤ maxLen := by unfold maxLen; omega
  have m2 : (0 + n) * 40 ≤ 140737488355328 := by omega
  clear hn hxs hone hcells hfl h
  go_enter Tryz.func38, Tryz.ntmps38
  go_wp2_with (at_builtin; refine wpList_append_own _ rfl (.tmp 5) (.tmp 6) 26 rfl w.heap.size 55 iL _ 5 40 Tryz.underlying26 hiL zL0 zL1 zL2 rfl (by decide) _ 0 [] rfl (World.ownsRow_made w #[] 0 (Nat.le_refl _) (by unfold maxLen; omega) rfl) ⟨b, off, none⟩ n cc xs rfl Hfl.out (fun j u hu => (ext_alloc _ _).cell (Hcells.out j u hu)) Hone.out m1 m2 (by simp) ?_; intro v' w4 own4 hg4 h4)
  obtain ⟨g4, cp4, rfl⟩ := own_form own4 (by omega)
  rw [Nat.zero_add] at own4 ⊢
  go_ret
  exact ⟨g4, cp4, rfl, own4, ((Ext.refl w).alloc _).grown hg4 (fun r e => by cases e; exact Nat.le_refl _)⟩
end Go.Proofs.YtaaeapjnjjbglaaGreatDoor

namespace Go.Proofs.YtaaeapjnjjbglaaGreatDoor
open Go.RowKit

/-- A row that has just been laid. -/
theorem blk_slice {w : World} {g : Nat} {t : TypeId} {cs : Array Value} (h : Blk w g t cs) {rows : List (List Value)} {n sz : Nat} (hf : rows.flatten = cs.toList) (hw : ∀ r ∈ rows, r.length = sz) (hn : rows.length = n) (hm : n ≤ maxLen) : SliceIs w (some ⟨g, 0, none⟩) n n sz rows := by
  refine ⟨hn, Nat.le_refl _, hm, hw, fun _ => ⟨g, 0, rfl, h.lt, fun i r hr j u hu => ?_⟩⟩
  have hj : j < sz := by
    rw [← hw r (List.mem_of_getElem? hr)]
    exact (List.getElem?_eq_some_iff.1 hu).1
  have := flat_get hw hr hj
  rw [hf, hu] at this
  rw [Nat.zero_add, h.cell, ← Array.getElem?_toList]
  exact this
set_option maxHeartbeats 800000 in
theorem at7_c (i x y z : Int) (t : Bool) (w : World) : Calls Tryz.prog 17 #[.int .i64 i, .int .i64 x, .int .i64 y, .int .i64 z, .bool t] w fun e w' => e = .returned (.agg #[.int .i64 i, .int .i64 x, .int .i64 y, .int .i64 z, .bool t]) ∧ Ext w w' := by
  go_enter Tryz.func17, Tryz.ntmps17
  go_wp2_with fail
  refine bodyPost_ret (by simp [results, Tryz.results17, go_sem]; try rfl) rfl ?_
  exact ⟨rfl, ext_alloc _ _⟩
set_option maxHeartbeats 800000 in
theorem two_c (a b : Int) (w : World) : Calls Tryz.prog 14 #[.int .i64 a, .int .i64 b] w fun e w' => ∃ g, e = .returned (.slice (some ⟨g, 0, none⟩) 2 2) ∧ Plates w' (some ⟨g, 0, none⟩) 2 [⟨1, 1, a, 0⟩, ⟨1, 2, b, 0⟩] ∧ Ext w w' := by
  have B := Blk.new w #[.int .i64 1, .int .i64 1, .int .i64 a, .int .u8 0, .int .i64 1, .int .i64 2, .int .i64 b, .int .u8 0] 64
  go_enter Tryz.func14, Tryz.ntmps14
  go_wp2_with fail
  go_ret
  exact ⟨_, rfl, blk_slice B rfl (by simp [Plate.cells]) rfl (by show 2 ≤ maxLen; decide), ext_alloc _ _⟩
set_option maxHeartbeats 800000 in
theorem four_c (w : World) : Calls Tryz.prog 13 #[] w fun e w' => ∃ g, e = .returned (.agg #[.int .i64 2, .int .i64 1, .int .i64 2, .slice (some ⟨g, 0, none⟩) 4 4]) ∧ Bytes w' (some ⟨g, 0, none⟩) 4 [3, 3, 3, 3] ∧ Ext w w' := by
  go_enter Tryz.func13, Tryz.ntmps13
  go_wp2_with fail
  refine bodyPost_ret (by simp [results, Tryz.results13, go_sem]; try rfl) rfl ?_
  refine ⟨_, rfl, ⟨blk_slice (t := 5) (cs := #[.int .u8 3, .int .u8 3, .int .u8 3, .int .u8 3]) ?_ rfl (by simp) rfl (by decide), ?_⟩, ?_⟩
  · have hz : (w.alloc (.cells #[.int .i64 2, .int .i64 1, .int .i64 2, .slice (some ⟨w.heap.size + 1, 0, none⟩) 4 4] 24)).heap.size = w.heap.size + 1 := by rw [World.size_alloc]
    have h := Blk.new (w.alloc (.cells #[.int .i64 2, .int .i64 1, .int .i64 2, .slice (some ⟨w.heap.size + 1, 0, none⟩) 4 4] 24)) #[.int .u8 3, .int .u8 3, .int .u8 3, .int .u8 3] 5
    rw [hz] at h
    exact h
  · intro c hc
    simp at hc
    subst hc
    exact ⟨by omega, by omega⟩
  · exact (ext_alloc _ _).trans (ext_alloc _ _)
end Go.Proofs.YtaaeapjnjjbglaaGreatDoor

namespace Go.Proofs.YtaaeapjnjjbglaaGreatDoor
open Go.RowKit

theorem laid_same (a b c d : Int) (t : Bool) (w : World) : (binOp .neq 55 (.agg #[.int .i64 a, .int .i64 b, .int .i64 c, .int .i64 d, .bool t]) (.agg #[.int .i64 a, .int .i64 b, .int .i64 c, .int .i64 d, .bool t])).run Tryz.prog w = .ok (.bool false) w := by
  simp [go_sem]

set_option maxRecDepth 100000 in
set_option maxHeartbeats 1600000 in
theorem sameLaid_c (A1 A2 : Option Addr) (n c1 c2 : Nat) (c : List Laid) (hcn : c.length = n) (w : World) (h1 : Laids w A1 c1 c) (h2 : Laids w A2 c2 c) :
    Calls Tryz.prog 18 #[.slice A1 n c1, .slice A2 n c2] w fun e w' => e = .returned (.bool true) ∧ Ext w w' := by
  have hn : n ≤ maxLen := by rw [← hcn]; exact Nat.le_trans h1.le h1.small
  unfold maxLen at hn
  go_enter Tryz.func18, Tryz.ntmps18
  go_wp2_with fail
  go_loopw [5] (fun i wr => ∃ k : Nat, k ≤ n ∧ i = .int .i64 k ∧ Ext w wr) (fun i _ => n - (intOf i).toNat)
  case atStart => exact ⟨0, by omega, rfl, Ext.refl _⟩
  case round =>
    obtain ⟨k, hk, rfl, E⟩ := hrel
    by_cases hlt : k < n
    · have hk2 : k < c.length := by omega
      have hg : (c.map Laid.cells)[k]? = some c[k].cells := by rw [List.getElem?_map, List.getElem?_eq_getElem hk2]; rfl
      obtain ⟨⟨a, x, y, z, t⟩, hx⟩ : ∃ x, c[k] = x := ⟨_, rfl⟩
      rw [hx] at hg
      clear hx
      obtain ⟨p, poff, rfl, hp, hpc⟩ := h1.cells (by omega)
      obtain ⟨q, qoff, rfl, hq, hqc⟩ := h2.cells (by omega)
      have p0 := E.cell (hpc k _ hg 0 _ rfl)
      have p1 := E.cell (hpc k _ hg 1 _ rfl)
      have p2 := E.cell (hpc k _ hg 2 _ rfl)
      have p3 := E.cell (hpc k _ hg 3 _ rfl)
      have p4 := E.cell (hpc k _ hg 4 _ rfl)
      have q0 := E.cell (hqc k _ hg 0 _ rfl)
      have q1 := E.cell (hqc k _ hg 1 _ rfl)
      have q2 := E.cell (hqc k _ hg 2 _ rfl)
      have q3 := E.cell (hqc k _ hg 3 _ rfl)
      have q4 := E.cell (hqc k _ hg 4 _ rfl)
      simp only [Nat.add_zero] at p0 q0 p1 p2 p3 p4 q1 q2 q3 q4
      have hpr : p < wr.heap.size := Nat.lt_of_lt_of_le hp E.size
      have hqr : q < wr.heap.size := Nat.lt_of_lt_of_le hq E.size
      have hsame := laid_same a x y z t
      clear hpc hqc hg hcn
      go_wp2_with fail
      refine wp_region_grow (by kernel_rfl) (by kernel_rfl) ?_
      repeat (go_big_quiet_step (fail))
      refine wpQuiet_nil ?_
      intro W3 hW3
      have E3 : Ext wr W3 := by
        obtain ⟨x, rfl⟩ := hW3
        exact (Ext.refl _).grow x
      clear hW3
      obtain ⟨hcW3, hfW3, hzW3⟩ := ext_facts E3
      go_wp2_with fail
      go_roundw
      case rel => exact ⟨k + 1, by omega, by go_num, E.trans E3⟩
      case measure => simp only [intOf]; omega
    · obtain rfl : k = n := by omega
      go_wp2_with fail
      go_ret
      exact ⟨rfl, E⟩
end Go.Proofs.YtaaeapjnjjbglaaGreatDoor

namespace Go.Proofs.YtaaeapjnjjbglaaGreatDoor
open Go.RowKit

theorem bit_val {x a : Nat} {p : Bool} (h : x.testBit a = p) (hx : x < 65536) : bits .and .u32 ((x : Int) / 2 ^ a) 1 = if p then 1 else 0 := by
  have e : (x : Int) / 2 ^ a = ((x / 2 ^ a : Nat) : Int) := by rw [Int.natCast_ediv, Int.natCast_pow]; rfl
  have h1 : x / 2 ^ a < 65536 := Nat.lt_of_le_of_lt (Nat.div_le_self _ _) hx
  rw [e, show (1 : Int) = ((1 : Nat) : Int) from rfl, bits_and h1 (by omega), Nat.and_one_is_mod]
  rw [Nat.testBit_eq_decide_div_mod_eq] at h
  cases p
  · rw [decide_eq_false_iff_not] at h
    simp
    omega
  · rw [decide_eq_true_eq] at h
    rw [h]
    rfl
set_option maxRecDepth 100000 in
set_option maxHeartbeats 4000000 in
theorem both_c (x a b : Nat) (hx : x < 65536) (ha : a < 16) (hb : b < 16) (P : Nat) (w : World) (hP : Blk w P 133 #[.int .i64 (a : Int), .int .i64 (b : Int)]) :
    Calls Tryz.prog 69 #[.int .u32 (x : Int), .pointer (some ⟨P, 0, none⟩)] w fun e w' => e = .returned (.bool (x.testBit a && x.testBit b)) ∧ w = w' := by
  have p0 := hP.cell 0
  have p1 := hP.cell 1
  simp at p0 p1
  obtain ⟨p, hp⟩ : ∃ p, x.testBit a = p := ⟨_, rfl⟩
  obtain ⟨q, hq⟩ : ∃ q, x.testBit b = q := ⟨_, rfl⟩
  have vp := bit_val hp hx
  have vq := bit_val hq hx
  rw [hp, hq]
  clear hp hq
  cases p
  · simp only [Bool.false_eq_true, if_false] at vp
    go_enter Tryz.func69, Tryz.ntmps69
    go_wp2_with fail
    go_ret
    exact ⟨rfl, rfl⟩
  · cases q
    · simp only [Bool.false_eq_true, if_false] at vq
      simp only [if_true] at vp
      go_enter Tryz.func69, Tryz.ntmps69
      go_wp2_with fail
      go_ret
      exact ⟨rfl, rfl⟩
    · simp only [if_true] at vp vq
      go_enter Tryz.func69, Tryz.ntmps69
      go_wp2_with fail
      go_ret
      exact ⟨rfl, rfl⟩
def bothB (a b : Nat) (x : Nat) : Bool := x.testBit a && x.testBit b
theorem both_is {x a b : Nat} {r : Bool} (h : bothB a b x = r) (hx : x < 65536) (ha : a < 16) (hb : b < 16) (P : Nat) (w : World) (hP : Blk w P 133 #[.int .i64 (a : Int), .int .i64 (b : Int)]) :
    Calls Tryz.prog 69 #[.int .u32 (x : Int), .pointer (some ⟨P, 0, none⟩)] w fun e w' => e = .returned (.bool r) ∧ w = w' := by
  rw [← h]
  exact both_c x a b hx ha hb P w hP
set_option maxRecDepth 100000 in
set_option maxHeartbeats 4000000 in
theorem indexBoth_c (SA : Option Addr) (sc : Nat) (out : List Nat) (a b P : Nat) (ha : a < 16) (hb : b < 16) (hsm : ∀ i, i < out.length → outAt out i < 65536) (hol : out.length ≤ 1000) (w : World) (hS : SliceIs w SA out.length sc 1 (out.map fun m => [uv m])) (hP : Blk w P 133 #[.int .i64 (a : Int), .int .i64 (b : Int)]) :
    Calls Tryz.prog 86 #[.slice SA out.length sc, .func (.func 69) #[] #[.pointer (some ⟨P, 0, none⟩)]] w fun e w' => (∃ r, e = .returned (.int .i64 r) ∧ decide (0 ≤ r) = out.any (bothB a b)) ∧ w = w' := by
  have Hsm := Lib.hid hsm
  clear hsm
  go_enter Tryz.func86, Tryz.ntmps86
  go_wp2
  go_loop [8] (fun i => ∃ k : Nat, k ≤ out.length ∧ i = .int .i64 k ∧ Hid (∀ j, j < k → bothB a b (outAt out j) = false)) (fun i => out.length - (intOf i).toNat)
  case atStart => exact ⟨0, by omega, rfl, Lib.hid fun j hj => by omega⟩
  case round =>
    obtain ⟨k, hk, rfl, Hj⟩ := hrel
    by_cases hlt : k < out.length
    · obtain ⟨sb, soff, rfl, hsb, sk⟩ := sets_at hS hlt
      have hx := Hsm.out k hlt
      obtain ⟨x, ex⟩ : ∃ x, outAt out k = x := ⟨_, rfl⟩
      rw [ex] at sk hx
      have Hx := Lib.hid ex
      clear ex
      obtain ⟨r, hr⟩ : ∃ r, bothB a b x = r := ⟨_, rfl⟩
      have Hr := Lib.hid hr
      clear hr
      cases r
      · go_wp2_with (go_at_call 69; refine (both_is Hr.out hx ha hb P _ hP).mono ?_; rintro e w' ⟨rfl, rfl⟩)
        go_round
        case rel =>
          refine ⟨k + 1, by omega, by go_num, Lib.hid fun j hj => ?_⟩
          rcases Nat.lt_or_ge j k with h | h
          · exact Hj.out j h
          · obtain rfl : j = k := by omega
            rw [Hx.out]
            exact Hr.out
        case measure => simp only [intOf]; omega
      · go_wp2_with (go_at_call 69; refine (both_is Hr.out hx ha hb P _ hP).mono ?_; rintro e w' ⟨rfl, rfl⟩)
        go_ret
        refine ⟨⟨k, rfl, ?_⟩, rfl⟩
        have : out.any (bothB a b) = true := by
          rw [List.any_eq_true]
          refine ⟨outAt out k, ?_, by rw [Hx.out]; exact Hr.out⟩
          unfold outAt
          rw [List.getD_eq_getElem?_getD, List.getElem?_eq_getElem hlt]
          exact List.getElem_mem hlt
        simp [this]
    · obtain rfl : k = out.length := by omega
      go_wp2
      go_ret
      refine ⟨⟨-1, rfl, ?_⟩, rfl⟩
      have : out.any (bothB a b) = false := by
        rw [List.any_eq_false]
        intro x hx
        obtain ⟨j, hj⟩ := List.getElem?_of_mem hx
        have hjl := (List.getElem?_eq_some_iff.1 hj).1
        have := Hj.out j hjl
        unfold outAt at this
        rw [List.getD_eq_getElem?_getD, hj] at this
        simp at this
        simp [this]
      simp [this]
set_option maxHeartbeats 4000000 in
theorem containsBoth_c (SA : Option Addr) (sc : Nat) (out : List Nat) (a b P : Nat) (ha : a < 16) (hb : b < 16) (hsm : ∀ i, i < out.length → outAt out i < 65536) (hol : out.length ≤ 1000) (w : World) (hS : SliceIs w SA out.length sc 1 (out.map fun m => [uv m])) (hP : Blk w P 133 #[.int .i64 (a : Int), .int .i64 (b : Int)]) :
    Calls Tryz.prog 68 #[.slice SA out.length sc, .func (.func 69) #[] #[.pointer (some ⟨P, 0, none⟩)]] w fun e w' => e = .returned (.bool (out.any (bothB a b))) ∧ w = w' := by
  have Hsm := Lib.hid hsm
  clear hsm
  go_enter Tryz.func68, Tryz.ntmps68
  go_wp2_with (go_at_call 86; refine (indexBoth_c SA sc out a b P ha hb Hsm.out hol _ hS hP).mono ?_; rintro e w' ⟨⟨r, rfl, hr⟩, rfl⟩)
  go_ret
  exact ⟨by rw [← hr]; rfl, rfl⟩

/-! ### seam -/
theorem seamE_any (out : List Nat) (p : Int × Int) : seamE out p = !(out.any (bothB p.1.toNat p.2.toNat)) := rfl
set_option maxRecDepth 100000 in
set_option maxHeartbeats 4000000 in
theorem seam1_c (g : Nat) (s : Shape) (A : Option Addr) (cap : Nat) (l : List Plate) (PA : Option Addr) (pcap : Nat) (NA : Option Addr) (ncap : Nat) (AA : Option Addr) (acap : Nat) (EA : Option Addr) (ec : Nat) (OA : Option Addr) (oc : Nat) (LA : Option Addr) (lc : Nat) (ms : List Nat)
    (out : List Nat) (SA : Option Addr) (sc : Nat) (S : Nat) (i : Nat) (p : Int × Int) (ok : s.Ok) (hp : (eds s)[i]? = some p) (r : Bool) (hr : seamE out p = r) (hsm : ∀ i, i < out.length → outAt out i < 65536) (hol : out.length ≤ 1000) (w : World) (hB : Board w g s A cap l PA pcap NA ncap AA acap EA ec OA oc LA lc ms)
    (hS : SliceIs w SA out.length sc 1 (out.map fun m => [uv m])) (C1 : Blk w S 65 #[.pointer (some ⟨g, 0, none⟩)]) (C2 : Blk w (S + 1) 66 #[.slice SA out.length sc]) :
    Calls Tryz.prog 67 #[.int .i64 (i : Int), .pointer (some ⟨S, 0, none⟩), .pointer (some ⟨S + 1, 0, none⟩)] w fun e w' => e = .returned (.bool r) ∧ Ext w w' := by
  have hil : i < (eds s).length := (List.getElem?_eq_some_iff.1 hp).1
  obtain ⟨b, off, p', rfl, hp', hb, e0, e1⟩ := pair_at hB.edges hil
  rw [hp] at hp'
  cases hp'
  have hbd := edges_bd ok (Nat.le_refl _) p (List.mem_of_getElem? hp)
  have hel : (eds s).length ≤ 1000 := by
    have h1 := edgesS_len s s.cells.length
    have h2 := s.len_le ok
    show (edgesS s s.cells.length).length ≤ 1000
    omega
  obtain ⟨p1, p2⟩ := p
  obtain ⟨a, rfl⟩ := Int.eq_ofNat_of_zero_le hbd.1.1
  obtain ⟨c, rfl⟩ := Int.eq_ofNat_of_zero_le hbd.2.1
  have Hr : Hid (out.any (bothB a c) = !r) := Lib.hid (by rw [← hr, seamE_any]; simp)
  have c7 := hB.c7
  have c1 := C1.cell
  have c2 := C2.cell
  have Hsm := Lib.hid hsm
  have hF := ok.full
  have l1 := C1.lt
  have l2 := C2.lt
  have a16 : a < 16 := by omega
  have c16 : c < 16 := by omega
  clear hr hsm hp hbd
  go_enter Tryz.func67, Tryz.ntmps67
  go_wp2_with fail
  have B1 := Blk.new w #[.int .i64 (a : Int), .int .i64 (c : Int)] 133
  refine (containsBoth_c SA sc out a c w.heap.size (by omega) (by omega) Hsm.out hol _ (hS.ext ((Ext.refl w).alloc _)) B1).mono ?_
  rintro e w2 ⟨rfl, rfl⟩
  rw [Hr.out]
  go_wp2_with fail
  go_ret
  exact ⟨by simp, (Ext.refl w).alloc _⟩
end Go.Proofs.YtaaeapjnjjbglaaGreatDoor

namespace Go.Proofs.YtaaeapjnjjbglaaGreatDoor
open Go.RowKit

set_option maxHeartbeats 1000000 in
theorem lessLen_c (CA : Option Addr) (n cc : Nat) (a : Int) (BA : Option Addr) (m bc : Nat) (b : Int) (_hn : n ≤ 1000) (_hm : m ≤ 1000) (ha : 0 ≤ a ∧ a ≤ 100000) (hb : 0 ≤ b ∧ b ≤ 100000) (w : World) :
    Calls Tryz.prog 36 #[.agg #[.slice CA n cc, .int .i64 a], .agg #[.slice BA m bc, .int .i64 b]] w fun e w' => e = .returned (.int .i64 ((n : Int) - m)) ∧ Ext w w' := by
  obtain ⟨W1, hW1, E1, B1, hz1⟩ := box_ w #[.slice CA n cc, .int .i64 a] 96
  obtain ⟨W2, hW2, E2, B2, hz2⟩ := box_ W1 #[.slice BA m bc, .int .i64 b] 96
  rw [hz1] at B2
  have D1 := B1.ext E2
  have d0 := D1.cell 0
  have d1 := D1.cell 1
  have e0 := B2.cell 0
  have e1 := B2.cell 1
  obtain ⟨ha1, ha2⟩ := ha
  obtain ⟨hb1, hb2⟩ := hb
  go_enter Tryz.func36, Tryz.ntmps36
  go_wp2_with fail
  go_ret
  exact ⟨rfl, E1.trans E2⟩
set_option maxHeartbeats 1000000 in
theorem lessWeak_c (CA : Option Addr) (n cc : Nat) (a : Int) (BA : Option Addr) (m bc : Nat) (b : Int) (_hn : n ≤ 1000) (_hm : m ≤ 1000) (ha : 0 ≤ a ∧ a ≤ 100000) (hb : 0 ≤ b ∧ b ≤ 100000) (w : World) :
    Calls Tryz.prog 37 #[.agg #[.slice CA n cc, .int .i64 a], .agg #[.slice BA m bc, .int .i64 b]] w fun e w' => e = .returned (.int .i64 (a - b)) ∧ Ext w w' := by
  obtain ⟨W1, hW1, E1, B1, hz1⟩ := box_ w #[.slice CA n cc, .int .i64 a] 96
  obtain ⟨W2, hW2, E2, B2, hz2⟩ := box_ W1 #[.slice BA m bc, .int .i64 b] 96
  rw [hz1] at B2
  have D1 := B1.ext E2
  have d0 := D1.cell 0
  have d1 := D1.cell 1
  have e0 := B2.cell 0
  have e1 := B2.cell 1
  obtain ⟨ha1, ha2⟩ := ha
  obtain ⟨hb1, hb2⟩ := hb
  go_enter Tryz.func37, Tryz.ntmps37
  go_wp2_with fail
  go_ret
  exact ⟨rfl, E1.trans E2⟩

def firstB (n : Nat) (a : Int) (m : Nat) (b : Int) : Bool := decide (n < m) || (decide (n = m) && decide (a < b))
theorem firstNil_c (CA : Option Addr) (n cc : Nat) (a : Int) (F : Value) (w : World) :
    Calls Tryz.prog 35 #[.pointer none, .agg #[.slice CA n cc, .int .i64 a], F] w fun e w' => e = .returned (.bool true) ∧ Ext w w' := by
  obtain ⟨W1, hW1, E1, B1, hz1⟩ := box_ w #[.slice CA n cc, .int .i64 a] 96
  go_enter Tryz.func35, Tryz.ntmps35
  go_wp2_with fail
  go_ret
  exact ⟨rfl, E1⟩
set_option maxRecDepth 100000 in
set_option maxHeartbeats 4000000 in
theorem firstOf_c (M Fb : Nat) (CA : Option Addr) (n cc : Nat) (a : Int) (BA : Option Addr) (m bc : Nat) (b : Int) (hn : n ≤ 1000) (hm : m ≤ 1000) (ha : 0 ≤ a ∧ a ≤ 100000) (hb : 0 ≤ b ∧ b ≤ 100000) (w : World) (hM : Blk w M 96 #[.slice BA m bc, .int .i64 b])
    (hF : Blk w Fb 99 #[.func (.func 36) #[] #[], .func (.func 37) #[] #[]]) :
    Calls Tryz.prog 35 #[.pointer (some ⟨M, 0, none⟩), .agg #[.slice CA n cc, .int .i64 a], .slice (some ⟨Fb, 0, none⟩) 2 2] w fun e w' => e = .returned (.bool (firstB n a m b)) ∧ Ext w w' := by
  obtain ⟨W1, hW1, E1, B1, hz1⟩ := box_ w #[.slice CA n cc, .int .i64 a] 96
  have hM1 := hM.ext E1
  have hF1 := hF.ext E1
  obtain ⟨ha1, ha2⟩ := ha
  obtain ⟨hb1, hb2⟩ := hb
  clear hz1
  go_enter Tryz.func35, Tryz.ntmps35
  go_wp2_with fail
  clear hW1
  go_loopw [14] (fun iv wr => ∃ j : Nat, j ≤ 2 ∧ iv = .int .i64 j ∧ Hid ((1 ≤ j → n = m) ∧ (2 ≤ j → a = b)) ∧ Ext W1 wr) (fun iv _ => 2 - (intOf iv).toNat)
  case atStart => exact ⟨0, by omega, rfl, Lib.hid ⟨by omega, by omega⟩, Ext.refl _⟩
  case round =>
    obtain ⟨j, hj, rfl, HJ, E⟩ := hrel
    have b1 := (B1.ext E).cell
    have m1 := (hM1.ext E).cell
    have f1 := (hF1.ext E).cell
    obtain rfl | rfl | rfl : j = 0 ∨ j = 1 ∨ j = 2 := by omega
    · rcases Nat.lt_trichotomy n m with h | h | h
      · have Hr : Hid (firstB n a m b = true) := Lib.hid (by simp [firstB, h])
        have t1 : (((n : Int) - m) != 0) = true := by simp; omega
        have t2 : decide (((n : Int) - m) < 0) = true := by simp; omega
        go_wp2_with fail
        refine wp_region_grow (by kernel_rfl) (by kernel_rfl) ?_
        repeat (go_big_quiet_step (((go_at_call 36; exact quiet_ext (lessLen_c CA n cc a BA m bc b hn hm ⟨ha1, ha2⟩ ⟨hb1, hb2⟩ _)))))
        refine wpQuiet_nil ?_
        intro W3 hW3
        have E3 : Ext wr W3 := by
          obtain ⟨x, rfl⟩ := hW3
          exact (Ext.refl _).grow x
        clear hW3
        obtain ⟨hcW3, hfW3, hzW3⟩ := ext_facts E3
        go_wp2_with fail
        go_ret
        exact ⟨by rw [Hr.out] <;> rfl, (E1.trans E).trans E3⟩
      · have t1 : (((n : Int) - m) != 0) = false := by simp; omega
        have H1 : Hid ((1 ≤ 0 + 1 → n = m) ∧ (2 ≤ 0 + 1 → a = b)) := Lib.hid ⟨fun _ => h, by omega⟩
        clear h
        go_wp2_with fail
        refine wp_region_grow (by kernel_rfl) (by kernel_rfl) ?_
        repeat (go_big_quiet_step (((go_at_call 36; exact quiet_ext (lessLen_c CA n cc a BA m bc b hn hm ⟨ha1, ha2⟩ ⟨hb1, hb2⟩ _)))))
        refine wpQuiet_nil ?_
        intro W3 hW3
        have E3 : Ext wr W3 := by
          obtain ⟨x, rfl⟩ := hW3
          exact (Ext.refl _).grow x
        clear hW3
        obtain ⟨hcW3, hfW3, hzW3⟩ := ext_facts E3
        go_wp2_with fail
        go_roundw
        case rel => exact ⟨0 + 1, by omega, by go_num, H1, E.trans E3⟩
        case measure => simp only [intOf]; omega
      · have Hr : Hid (firstB n a m b = false) := Lib.hid (by simp [firstB]; omega)
        have t1 : (((n : Int) - m) != 0) = true := by simp; omega
        have t2 : decide (((n : Int) - m) < 0) = false := by simp; omega
        go_wp2_with fail
        refine wp_region_grow (by kernel_rfl) (by kernel_rfl) ?_
        repeat (go_big_quiet_step (((go_at_call 36; exact quiet_ext (lessLen_c CA n cc a BA m bc b hn hm ⟨ha1, ha2⟩ ⟨hb1, hb2⟩ _)))))
        refine wpQuiet_nil ?_
        intro W3 hW3
        have E3 : Ext wr W3 := by
          obtain ⟨x, rfl⟩ := hW3
          exact (Ext.refl _).grow x
        clear hW3
        obtain ⟨hcW3, hfW3, hzW3⟩ := ext_facts E3
        go_wp2_with fail
        go_ret
        exact ⟨by rw [Hr.out] <;> rfl, (E1.trans E).trans E3⟩
    · have hnm : n = m := HJ.out.1 (by omega)
      rcases Int.lt_trichotomy a b with h | h | h
      · have Hr : Hid (firstB n a m b = true) := Lib.hid (by simp [firstB, h, hnm])
        have t1 : ((a - b) != 0) = true := by simp; omega
        have t2 : decide ((a - b) < 0) = true := by simp; omega
        clear hnm
        go_wp2_with fail
        refine wp_region_grow (by kernel_rfl) (by kernel_rfl) ?_
        repeat (go_big_quiet_step (((go_at_call 37; exact quiet_ext (lessWeak_c CA n cc a BA m bc b hn hm ⟨ha1, ha2⟩ ⟨hb1, hb2⟩ _)))))
        refine wpQuiet_nil ?_
        intro W3 hW3
        have E3 : Ext wr W3 := by
          obtain ⟨x, rfl⟩ := hW3
          exact (Ext.refl _).grow x
        clear hW3
        obtain ⟨hcW3, hfW3, hzW3⟩ := ext_facts E3
        go_wp2_with fail
        go_ret
        exact ⟨by rw [Hr.out] <;> rfl, (E1.trans E).trans E3⟩
      · have t1 : ((a - b) != 0) = false := by simp; omega
        have H1 : Hid ((1 ≤ 1 + 1 → n = m) ∧ (2 ≤ 1 + 1 → a = b)) := Lib.hid ⟨fun _ => hnm, fun _ => h⟩
        clear h hnm
        go_wp2_with fail
        refine wp_region_grow (by kernel_rfl) (by kernel_rfl) ?_
        repeat (go_big_quiet_step (((go_at_call 37; exact quiet_ext (lessWeak_c CA n cc a BA m bc b hn hm ⟨ha1, ha2⟩ ⟨hb1, hb2⟩ _)))))
        refine wpQuiet_nil ?_
        intro W3 hW3
        have E3 : Ext wr W3 := by
          obtain ⟨x, rfl⟩ := hW3
          exact (Ext.refl _).grow x
        clear hW3
        obtain ⟨hcW3, hfW3, hzW3⟩ := ext_facts E3
        go_wp2_with fail
        go_roundw
        case rel => exact ⟨1 + 1, by omega, by go_num, H1, E.trans E3⟩
        case measure => simp only [intOf]; omega
      · have Hr : Hid (firstB n a m b = false) := Lib.hid (by simp [firstB, hnm]; omega)
        have t1 : ((a - b) != 0) = true := by simp; omega
        have t2 : decide ((a - b) < 0) = false := by simp; omega
        clear hnm
        go_wp2_with fail
        refine wp_region_grow (by kernel_rfl) (by kernel_rfl) ?_
        repeat (go_big_quiet_step (((go_at_call 37; exact quiet_ext (lessWeak_c CA n cc a BA m bc b hn hm ⟨ha1, ha2⟩ ⟨hb1, hb2⟩ _)))))
        refine wpQuiet_nil ?_
        intro W3 hW3
        have E3 : Ext wr W3 := by
          obtain ⟨x, rfl⟩ := hW3
          exact (Ext.refl _).grow x
        clear hW3
        obtain ⟨hcW3, hfW3, hzW3⟩ := ext_facts E3
        go_wp2_with fail
        go_ret
        exact ⟨by rw [Hr.out] <;> rfl, (E1.trans E).trans E3⟩
    · obtain ⟨hnm, hab⟩ := HJ.out
      have Hr : Hid (firstB n a m b = false) := Lib.hid (by simp [firstB, hnm (by omega), hab (by omega)])
      clear hnm hab
      go_wp2_with fail
      go_ret
      exact ⟨by rw [Hr.out] <;> rfl, E1.trans E⟩
end Go.Proofs.YtaaeapjnjjbglaaGreatDoor
