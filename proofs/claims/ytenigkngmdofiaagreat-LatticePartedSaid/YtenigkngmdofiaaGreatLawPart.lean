/- The given statement LatticePartedSaid: for every input the law returns true, and each argument reads behind the call as it did. No conditions. -/
import Derived.Test.YtenigkngmdofiaaGreatBLinkS
import Derived.Test.YtenigkngmdofiaaGreatBSort
import Derived.Test.YtenigkngmdofiaaGreatBAlive
import Derived.Test.YtenigkngmdofiaaGreatBApi
import Derived.Test.YtenigkngmdofiaaGreatBLib
import Derived.Test.YtenigkngmdofiaaGreatBOpen
namespace Go.Proofs.YtenigkngmdofiaaGreat
open Go.RowKit

section
variable {L : List Lnk} {n : Nat} {g : List Nat}
theorem part_le (h : isLeast L n g) {i : Nat} (hi : i < n) : g.getD i 0 ≤ i := (h.2 i hi).le i .refl
theorem part_self (h : isLeast L n g) {i : Nat} (hi : i < n) : g.getD (g.getD i 0) 0 = g.getD i 0 := by
  have h1 := h.2 i hi
  have h2 := h.2 (g.getD i 0) (by have := part_le h hi; omega)
  exact h2.unique ⟨.refl, fun j hj => h1.le j (h1.c.trans hj)⟩
theorem part_conn (h : isLeast L n g) {i j : Nat} (hi : i < n) (hj : j < n) (hc : Conn L i j) : g.getD i 0 = g.getD j 0 := by
  have h1 := h.2 i hi
  have h2 := h.2 j hj
  exact h1.unique ⟨hc.trans h2.c, fun k hk => h2.le k (hc.symm.trans hk)⟩
theorem part_link (h : isLeast L n g) (hw : Within L n) {x : Lnk} (hx : x ∈ L) : g.getD x.a 0 = g.getD x.b 0 :=
  part_conn h (hw x hx).1 (hw x hx).2 (Conn.one ⟨x, hx, Or.inl ⟨rfl, rfl⟩⟩)
end
/-! Marks that spread along the links. -/
def bAt (r : List Bool) (i : Nat) : Bool := r.getD i false
def mark (r : List Bool) (x : Lnk) : List Bool := if bAt r x.a || bAt r x.b then (r.set x.a true).set x.b true else r
def marks (L : List Lnk) (r : List Bool) (q : Nat) : List Bool := (L.take q).foldl mark r
def markR (L : List Lnk) (r : List Bool) : Nat → List Bool
  | 0 => r
  | m + 1 => marks L (markR L r m) L.length
theorem marks_succ {L : List Lnk} {r : List Bool} {q : Nat} {x : Lnk} (h : L[q]? = some x) : marks L r (q + 1) = mark (marks L r q) x := by
  unfold marks
  rw [List.take_add_one, h, List.foldl_append]
  rfl
theorem bAt_set {r : List Bool} {i j : Nat} {v : Bool} (hi : i < r.length) : bAt (r.set i v) j = if i = j then v else bAt r j := by
  unfold bAt
  rw [List.getD_eq_getElem?_getD, List.getD_eq_getElem?_getD, List.getElem?_set]
  by_cases h : i = j
  · subst h
    simp [hi]
  · simp [h]
theorem mark_len (r : List Bool) (x : Lnk) : (mark r x).length = r.length := by
  unfold mark
  split <;> simp
theorem folds_len (l : List Lnk) : ∀ r : List Bool, (l.foldl mark r).length = r.length := by
  induction l with
  | nil => exact fun _ => rfl
  | cons x l ih => exact fun r => by rw [List.foldl_cons, ih, mark_len]
theorem marks_len (L : List Lnk) (r : List Bool) (q : Nat) : (marks L r q).length = r.length := folds_len _ _
theorem markR_len (L : List Lnk) (r : List Bool) : ∀ m, (markR L r m).length = r.length
  | 0 => rfl
  | m + 1 => (marks_len _ _ _).trans (markR_len L r m)
theorem mark_mono {r : List Bool} {x : Lnk} (ha : x.a < r.length) (hb : x.b < r.length) {i : Nat} (h : bAt r i = true) : bAt (mark r x) i = true := by
  unfold mark
  split
  · rw [bAt_set (by simpa using hb), bAt_set ha]
    split
    · rfl
    · split
      · rfl
      · exact h
  · exact h
theorem mark_both {r : List Bool} {x : Lnk} (ha : x.a < r.length) (hb : x.b < r.length) (h : bAt r x.a = true ∨ bAt r x.b = true) : bAt (mark r x) x.a = true ∧ bAt (mark r x) x.b = true := by
  unfold mark
  rw [if_pos (by rcases h with h | h <;> simp [h])]
  have e := fun i => bAt_set (r := r.set x.a true) (i := x.b) (j := i) (v := true) (by simpa using hb)
  constructor
  · rw [e]
    split
    · rfl
    · rw [bAt_set ha, if_pos rfl]
  · rw [e, if_pos rfl]
theorem folds_mono {n : Nat} : ∀ {l : List Lnk} {r : List Bool}, r.length = n → (∀ x ∈ l, x.a < n ∧ x.b < n) → ∀ {i : Nat}, bAt r i = true → bAt (l.foldl mark r) i = true
  | [], _, _, _, _, h => h
  | x :: l, r, hr, hl, i, h => by
    rw [List.foldl_cons]
    have hx := hl x (List.mem_cons_self ..)
    exact folds_mono (l := l) (by rw [mark_len]; exact hr) (fun y hy => hl y (List.mem_cons_of_mem _ hy)) (mark_mono (by omega) (by omega) h)
theorem pass_both {L : List Lnk} {n : Nat} (hw : Within L n) {r : List Bool} (hr : r.length = n) {x : Lnk} (hx : x ∈ L) (h : bAt r x.a = true ∨ bAt r x.b = true) : bAt (marks L r L.length) x.a = true ∧ bAt (marks L r L.length) x.b = true := by
  unfold marks
  rw [List.take_length]
  obtain ⟨s, t, hst⟩ := List.append_of_mem hx
  have hs : ∀ y ∈ s, y.a < n ∧ y.b < n := fun y hy => hw y (by rw [hst]; exact List.mem_append.2 (Or.inl hy))
  have ht : ∀ y ∈ t, y.a < n ∧ y.b < n := fun y hy => hw y (by rw [hst]; exact List.mem_append.2 (Or.inr (List.mem_cons_of_mem _ hy)))
  have e : L.foldl mark r = t.foldl mark (mark (s.foldl mark r) x) := by rw [hst, List.foldl_append, List.foldl_cons]
  have hl := hw x hx
  have hsl : (s.foldl mark r).length = n := (folds_len s r).trans hr
  have h2 := mark_both (r := s.foldl mark r) (x := x) (by omega) (by omega) (by
    rcases h with h | h
    · exact Or.inl (folds_mono hr hs h)
    · exact Or.inr (folds_mono hr hs h))
  rw [e]
  exact ⟨folds_mono (by rw [mark_len]; exact hsl) ht h2.1, folds_mono (by rw [mark_len]; exact hsl) ht h2.2⟩
theorem pass_mono {L : List Lnk} {n : Nat} (hw : Within L n) {r : List Bool} (hr : r.length = n) {i : Nat} (h : bAt r i = true) : bAt (marks L r L.length) i = true := by
  unfold marks
  rw [List.take_length]
  exact folds_mono hr hw h
theorem leavesB {L : List Lnk} {r : List Bool} {g i : Nat} (h : Conn L g i) (h0 : bAt r g = true) (h1 : bAt r i = false) : ∃ j k, Conn L g j ∧ Nbr L j k ∧ bAt r j = true ∧ bAt r k = false := by
  induction h with
  | refl => rw [h0] at h1; cases h1
  | @step j k hj hn ih =>
    cases e : bAt r j
    · exact ih e
    · exact ⟨j, k, hj, hn, e, h1⟩
open Classical in
noncomputable def marked (L : List Lnk) (n g : Nat) (r : List Bool) : Nat := (List.range n).countP fun i => decide (Conn L g i ∧ bAt r i = true)
open Classical in
theorem mark_many {L : List Lnk} {n : Nat} (hw : Within L n) {g : Nat} (hg : g < n) {r : List Bool} (hr : r.length = n) (h0 : bAt r g = true) : ∀ m, bAt (markR L r m) g = true ∧ ((∀ i, Conn L g i → bAt (markR L r m) i = true) ∨ m < marked L n g (markR L r m))
  | 0 => by
    refine ⟨h0, Or.inr (List.countP_pos_iff.2 ⟨g, List.mem_range.2 hg, ?_⟩)⟩
    rw [decide_eq_true_eq]
    exact ⟨.refl, h0⟩
  | m + 1 => by
    obtain ⟨h1, h2⟩ := mark_many hw hg hr h0 m
    have hlen : (markR L r m).length = n := (markR_len L r m).trans hr
    have mono := fun i (h : bAt (markR L r m) i = true) => pass_mono hw hlen h
    refine ⟨mono g h1, ?_⟩
    rcases h2 with h | h
    · exact Or.inl fun i hi => mono i (h i hi)
    · by_cases hd : ∀ i, Conn L g i → bAt (markR L r m) i = true
      · exact Or.inl fun i hi => mono i (hd i hi)
      · right
        obtain ⟨i, hi⟩ := Classical.not_forall.1 hd
        obtain ⟨hi, hgi⟩ := Classical.not_imp.1 hi
        rw [Bool.not_eq_true] at hgi
        obtain ⟨j, k, hj, hn, e1, e2⟩ := leavesB hi h1 hgi
        have hk : bAt (markR L r (m + 1)) k = true := by
          obtain ⟨x, hx, hjk⟩ := hn
          rcases hjk with ⟨rfl, rfl⟩ | ⟨rfl, rfl⟩
          · exact (pass_both hw hlen hx (Or.inl e1)).2
          · exact (pass_both hw hlen hx (Or.inr e1)).1
        have : marked L n g (markR L r m) < marked L n g (markR L r (m + 1)) := by
          refine countP_lt (i := k) (fun y _ hy => ?_) (List.mem_range.2 (hn.lt hw).2) ?_ ?_
          · rw [decide_eq_true_eq] at hy ⊢
            exact ⟨hy.1, mono y hy.2⟩
          · rw [decide_eq_true_eq]
            exact ⟨hj.step hn, hk⟩
          · rw [decide_eq_false_iff_not]
            exact fun h => by rw [h.2] at e2; cases e2
        omega
/-- The first marks: each number that is its own least one; among the first j. -/
def partR (n : Nat) (g : List Nat) (j : Nat) : List Bool := (List.range n).map fun i => decide (i < j) && decide (g.getD i 0 = i)
theorem partR_len (n : Nat) (g : List Nat) (j : Nat) : (partR n g j).length = n := by simp [partR]
theorem partR_zero (n : Nat) (g : List Nat) : partR n g 0 = List.replicate n false := by
  refine List.ext_getElem (by simp [partR]) fun i h1 h2 => ?_
  simp [partR]
theorem partR_get {n : Nat} {g : List Nat} {j i : Nat} (hi : i < n) : (partR n g j)[i]? = some (decide (i < j) && decide (g.getD i 0 = i)) := by
  unfold partR
  rw [List.getElem?_map, List.getElem?_range hi]
  rfl
theorem partR_set {n : Nat} {g : List Nat} {j : Nat} (hj : j < n) : (partR n g j).set j (decide (g.getD j 0 = j)) = partR n g (j + 1) := by
  refine List.ext_getElem? fun i => ?_
  rw [List.getElem?_set]
  rcases Nat.lt_or_ge i n with hi | hi
  · rw [partR_get hi, partR_get hi]
    by_cases h : j = i
    · subst h
      rw [if_pos rfl, if_pos (by rw [partR_len]; exact hj), decide_eq_true (Nat.lt_succ_self j), Bool.true_and]
    · rw [if_neg h, show decide (i < j) = decide (i < j + 1) by rw [decide_eq_decide]; omega]
  · have h1 : (partR n g j)[i]? = none := List.getElem?_eq_none (by rw [partR_len]; exact hi)
    have h2 : (partR n g (j + 1))[i]? = none := List.getElem?_eq_none (by rw [partR_len]; exact hi)
    rw [h1, h2, if_neg (by omega)]
theorem partR_at {n : Nat} {g : List Nat} {i : Nat} (hi : i < n) : bAt (partR n g n) i = decide (g.getD i 0 = i) := by
  unfold bAt partR
  simp [hi]
theorem part_reached {L : List Lnk} {n : Nat} {g : List Nat} (h : isLeast L n g) (hw : Within L n) {i : Nat} (hi : i < n) : bAt (markR L (partR n g n) n) i = true := by
  have hr : g.getD i 0 < n := by have := part_le h hi; omega
  have h0 : bAt (partR n g n) (g.getD i 0) = true := by
    rw [partR_at hr, decide_eq_true_eq]
    exact part_self h hi
  obtain ⟨-, h2 | h2⟩ := mark_many hw hr (partR_len n g n) h0 n
  · exact h2 i (h.2 i hi).c.symm
  · have : marked L n (g.getD i 0) (markR L (partR n g n) n) ≤ n := by
      unfold marked
      refine Nat.le_trans List.countP_le_length ?_
      simp
    omega
end Go.Proofs.YtenigkngmdofiaaGreat
namespace Go.Proofs.YtenigkngmdofiaaGreat
open Go.RowKit

def bv (b : Bool) : Value := .bool b
def boolsA (xs : List Bool) : Array Value := (xs.map bv).toArray
theorem boolsA_get (xs : List Bool) (i : Nat) : (boolsA xs)[i]? = xs[i]?.map bv := by simp [boolsA]
theorem boolsA_set (xs : List Bool) (i : Nat) (v : Bool) : (boolsA xs).setIfInBounds i (.bool v) = boolsA (xs.set i v) := by
  unfold boolsA
  rw [List.setIfInBounds_toArray, List.map_set]
  rfl
theorem infoBool : (Tryz.prog.info? 4).map (fun i => (i.zero, i.size, i.bytes)) = some (some (.bool false), 1, 1) := by kernel_rfl
theorem make_bools (n : Nat) (hn : n ≤ 100000) (w : World) : (Instr.makeSlice 93 (.int .i64 (n : Int)) (.int .i64 (n : Int))).run Tryz.prog w = .ok (.slice (some ⟨w.heap.size, 0, none⟩) n n) (w.alloc (.cells (boolsA (List.replicate n false)) 4)) := by
  obtain ⟨i0, hi, hz0, hz1, hz2⟩ := info_parts infoBool
  have h := run_make (P := Tryz.prog) w 93 4 i0 (.bool false) Tryz.underlying93 hi hz0 .i64 .i64 (n : Int) (n : Int) (by omega) (Int.le_refl _) (by rw [hz2]; omega) (by omega)
  rw [h]
  have e : madeCells (Value.cells (.bool false)) ((n : Int).toNat * i0.size) = boolsA (List.replicate n false) := by
    rw [hz1, Int.toNat_natCast, Nat.mul_one]
    apply Array.ext
    · simp [size_madeCells, boolsA]
    · intro i h1 h2
      simp [madeCells, boolsA, Value.cells, bv, Nat.mod_one]
  rw [e]
  simp
/-- The block's bools. -/
def Bools (w : World) (g : Nat) (l : List Bool) : Prop := Blk w g 4 (boolsA l)
theorem Bools.ext {w w' : World} {g : Nat} {l : List Bool} (h : Bools w g l) (E : Ext w w') : Bools w' g l := Blk.ext h E
theorem Bools.cell {w : World} {g : Nat} {l : List Bool} (h : Bools w g l) {i : Nat} (hi : i < l.length) : w.cell? ⟨g, i, none⟩ = some (.bool (l.getD i false)) := by
  have := Blk.cell h i
  rw [this, boolsA_get, List.getD_eq_getElem?_getD, List.getElem?_eq_getElem hi]
  rfl
theorem Bools.set_ {w : World} {g : Nat} {l : List Bool} (h : Bools w g l) (i : Nat) (v : Bool) : Bools (w.setCell ⟨g, i, none⟩ (.bool v)) g (l.set i v) := by
  have := Blk.set_ h i (.bool v)
  rw [boolsA_set] at this
  exact this
theorem Bools.frozen {w : World} {g : Nat} {l : List Bool} (h : Bools w g l) (i : Nat) : w.frozen? ⟨g, i, none⟩ = false := Blk.frozen h i
theorem Bools.lt {w : World} {g : Nat} {l : List Bool} (h : Bools w g l) : g < w.heap.size := Blk.lt h
end Go.Proofs.YtenigkngmdofiaaGreat
namespace Go.Proofs.YtenigkngmdofiaaGreat
open Go.RowKit

theorem great_pl {qs : List (Knd × KAt)} {A : Option Addr} {cap : Nat} {B : Option Addr} {n cb : Nat} {r : Bool} (h : greatB (qs.map (·.1)) n = r) {w : World} (hk : Kinds w A cap qs) (hn : n ≤ maxLen) :
    Calls Tryz.prog 14 #[.slice A qs.length cap, .agg #[.slice B n cb]] w fun e w' => e = .returned (.bool r) ∧ Ext w w' := by
  subst h
  exact great_c _ _ _ _ _ _ _ hk hn
structure Pt26 (W0 : World) (R X nb xa xb : Nat) (l : List Bool) (lk : Array Value) (L : Nat → Bool) (us : Nat → Value) (w : World) : Prop where
  x : Ext W0 w
  g0 : Blk w X 76 lk
  g1 : L 7 = false → Bools w R l
  g2 : L 7 = true → L 9 = false → Bools w R (l.set xa true)
  g3 : L 9 = true → Bools w R ((l.set xa true).set xb true)
  f0 : L 0 = true → us 0 = .slice (some ⟨R, 0, none⟩) nb nb
  f1 : L 1 = true → us 1 = .pointer (some ⟨X, 0, none⟩)
  f2 : L 2 = true → us 2 = .int .i64 xa
  f3 : L 3 = true → us 3 = .slice (some ⟨R, 0, none⟩) nb nb
  f4 : L 4 = true → us 4 = .pointer (some ⟨X, 1, none⟩)
  f5 : L 5 = true → us 5 = .int .i64 xb
  f6 : L 6 = true → us 6 = .pointer (some ⟨R, xa, none⟩)
  f8 : L 8 = true → us 8 = .pointer (some ⟨R, xb, none⟩)
set_option maxRecDepth 100000 in
set_option maxHeartbeats 16000000 in
theorem parted_walk (qs : List (Knd × KAt)) (QA : Option Addr) (qc : Nat) (bs : List Brk) (B : Option Addr) (cb : Nat) (w : World) (hk : Kinds w QA qc qs) (hb : Bricks w B cb bs) (_ : B = none → cb = 0) :
    Calls Tryz.prog 10 #[.slice QA qs.length qc, .agg #[.slice B bs.length cb]] w fun e w' => e = .returned (.bool true) ∧ Ext w w' := by
  obtain ⟨W1, hW1, E1, B1, hz1⟩ := mk_ w #[.slice B bs.length cb] 25
  have b1 := B1.cell
  clear hz1
  obtain ⟨gr, hg⟩ : ∃ r, greatB (qs.map (·.1)) bs.length = r := ⟨_, rfl⟩
  have GR := Lib.hid (fun W (E : Ext w W) => great_pl (B := B) (cb := cb) hg (hk.ext E) hb.len)
  have hfew := fun h => links_few hk hb.2 h
  have LA := Lib.hid (fun W (E : Ext w W) => linksA_c qs QA qc bs B cb W (hk.ext E) (hb.ext E))
  have GO := Lib.hid (fun W (E : Ext w W) => groups_c qs QA qc bs B cb W (hk.ext E) (hb.ext E) hfew)
  cases gr
  rotate_left
  · clear hg hk hb hfew
    go_enter Tryz.func10, Tryz.ntmps10
    go_wp2_with fail
    refine (alive_c _).mono ?_
    rintro e W2 ⟨rfl, E2⟩
    have b2 := (B1.ext E2).cell
    clear b1 hW1
    go_wp2_with fail
    refine (GR.out _ (E1.trans E2)).mono ?_
    rintro e W3 ⟨rfl, E3⟩
    have E := (E1.trans E2).trans E3
    have BM := (B1.ext E2).ext E3
    clear b2 E1 E2 E3 B1 GR
    have b1 := BM.cell
    go_wp2_with fail
    go_ret
    exact ⟨rfl, E⟩
  by_cases hce : checkErr (qs.map (·.1)) bs = 0
  rotate_left
  · obtain ⟨ce, he⟩ : ∃ c, checkErr (qs.map (·.1)) bs = c := ⟨_, rfl⟩
    obtain ⟨gl, hgl⟩ : ∃ l, groupR (qs.map (·.1)) bs = l := ⟨_, rfl⟩
    obtain ⟨ll, hll⟩ : ∃ l, linkR (qs.map (·.1)) bs = l := ⟨_, rfl⟩
    rw [he, hgl] at GO
    rw [he, hll] at LA
    rw [he] at hce
    have h1 : (ce != 0) = true := by simpa using hce
    have h2 : (ce == ce) = true := by simp
    clear hg hk hb hfew he hgl hll
    go_enter Tryz.func10, Tryz.ntmps10
    go_wp2_with fail
    refine (alive_c _).mono ?_
    rintro e W2 ⟨rfl, E2⟩
    have b2 := (B1.ext E2).cell
    clear b1 hW1
    go_wp2_with fail
    refine (GR.out _ (E1.trans E2)).mono ?_
    rintro e W3 ⟨rfl, E3⟩
    have E := (E1.trans E2).trans E3
    have BM := (B1.ext E2).ext E3
    clear b2 E1 E2 E3 B1 GR
    have b1 := BM.cell
    go_wp2_with fail
    refine (GO.out _ E).mono ?_
    rintro e W4 ⟨GA, gc, rfl, hG, E4⟩
    replace E := E.trans E4
    replace BM := BM.ext E4
    clear b1 E4 GO
    have b1 := BM.cell
    go_wp2_with fail
    refine (LA.out _ E).mono ?_
    rintro e W5 ⟨A5, lc, rfl, hL, E5⟩
    replace E := E.trans E5
    replace BM := BM.ext E5
    replace hG := hG.ext E5
    clear b1 E5 LA
    go_wp2_with fail
    go_ret
    exact ⟨rfl, E⟩
  have hft := fit_of hk hb.2 hce
  have hgl : groupR (qs.map (·.1)) bs = natZ (groupL (linkL (qs.map (·.1)) bs) bs.length) := if_pos hce
  have hll : linkR (qs.map (·.1)) bs = linkL (qs.map (·.1)) bs := if_pos hce
  have hw := linkL_within (ks := qs.map (·.1)) (bs := bs)
  have hle := groupL_least hw
  have hfe := hfew hce
  have hnb := hft.n
  rw [hgl, hce] at GO
  rw [hll, hce] at LA
  obtain ⟨gl, hgg⟩ : ∃ l, groupL (linkL (qs.map (·.1)) bs) bs.length = l := ⟨_, rfl⟩
  rw [hgg] at GO hle
  obtain ⟨L, hLL⟩ : ∃ l, linkL (qs.map (·.1)) bs = l := ⟨_, rfl⟩
  rw [hLL] at LA hw hle hfe
  obtain ⟨nb, hnbe⟩ : ∃ n, bs.length = n := ⟨_, rfl⟩
  rw [hnbe] at B1 b1 hW1 GR GO LA hw hle hnb ⊢
  obtain ⟨nq, hnq⟩ : ∃ n, qs.length = n := ⟨_, rfl⟩
  rw [hnq] at GR GO LA ⊢
  obtain ⟨n, hn⟩ : ∃ n, L.length = n := ⟨_, rfl⟩
  rw [hn] at hfe
  have Hn := Lib.hid hn
  have Hle := Lib.hid hle
  have Hw := Lib.hid hw
  have Hgl := Lib.hid (show (natZ gl).length = nb by rw [natZ_len]; exact hle.1)
  have hmk := make_bools nb (by omega)
  clear hg hk hb hfew hce hft hgl hll hgg hLL hnbe hnq hn hle hw
  go_enter Tryz.func10, Tryz.ntmps10
  go_wp2_with fail
  refine (alive_c _).mono ?_
  rintro e W2 ⟨rfl, E2⟩
  have b2 := (B1.ext E2).cell
  clear b1 hW1
  go_wp2_with fail
  refine (GR.out _ (E1.trans E2)).mono ?_
  rintro e W3 ⟨rfl, E3⟩
  have E := (E1.trans E2).trans E3
  have BM := (B1.ext E2).ext E3
  clear b2 E1 E2 E3 B1 GR
  have b1 := BM.cell
  go_wp2_with fail
  refine (GO.out _ E).mono ?_
  rintro e W4 ⟨GA, gc, rfl, hG, E4⟩
  replace E := E.trans E4
  replace BM := BM.ext E4
  clear b1 E4 GO
  have b1 := BM.cell
  go_wp2_with fail
  refine (LA.out _ E).mono ?_
  rintro e W5 ⟨A5, lc, rfl, hL, E5⟩
  replace E := E.trans E5
  replace BM := BM.ext E5
  replace hG := hG.ext E5
  clear b1 E5 LA
  rw [Hgl.out, Hn.out]
  have b1 := BM.cell
  have HG := Lib.hid (fun W (E : Ext W5 W) (j : Nat) (hj : j < nb) => show ∃ b off, GA = some ⟨b, off, none⟩ ∧ W.cell? ⟨b, off + j, none⟩ = some (.int .i64 ((gl.getD j 0 : Nat) : Int)) by
    obtain ⟨b, off, p, h1, h2, -, h3⟩ := (hG.ext E).at_ (k := j) (by rw [Hgl.out]; exact hj)
    rw [natZ_at (by rw [← natZ_len, Hgl.out]; exact hj)] at h2
    cases h2
    exact ⟨b, off, h1, h3⟩)
  have hgc : nb ≤ gc := by have := SliceIs.le hG; rw [Hgl.out] at this; exact this
  have HLL := Lib.hid hL
  obtain ⟨W6, hW6, E6, B6, hz6⟩ := mk_ W5 (boolsA (List.replicate nb false)) 4
  obtain ⟨R, hR⟩ : ∃ R, W5.heap.size = R := ⟨_, rfl⟩
  rw [hR] at B6
  have HR := Lib.hid hR
  have R6 : Bools W6 R (partR nb gl 0) := by rw [partR_zero]; exact B6
  have HE := Lib.hid E
  clear hG hL hz6 hR B6 E
  go_upto_region 11 with (fail)
  rw [HR.out]
  clear b1 hmk hW6 BM
  go_wp2_with fail
  go_loopw [57] (fun ii wr => ∃ (j : Nat), j ≤ nb ∧ ii = .int .i64 j ∧ Ext W5 wr ∧ Bools wr R (partR nb gl j)) (fun ii _ => nb - (intOf ii).toNat)
  case atStart => exact ⟨0, by omega, rfl, E6, R6⟩
  case round =>
    clear E6 R6
    obtain ⟨j, hj, rfl, Er, RB⟩ := hrel
    by_cases hlt : j < nb
    · obtain ⟨gb, go, rfl, c0⟩ := HG.out wr Er j hlt
      have hv := part_le Hle.out hlt
      have hs := part_self Hle.out hlt
      have hset := partR_set (g := gl) hlt
      obtain ⟨v, hve⟩ : ∃ v, gl.getD j 0 = v := ⟨_, rfl⟩
      rw [hve] at c0 hv hs hset
      obtain ⟨gb', go', hgb, c1⟩ := HG.out wr Er v (by omega)
      simp only [Option.some.injEq, Addr.mk.injEq, and_true] at hgb
      obtain ⟨rfl, rfl⟩ := hgb
      rw [hs] at c1
      obtain ⟨d, hd⟩ : ∃ d : Bool, decide (v = j) = d := ⟨_, rfl⟩
      rw [hd] at hset
      have hd1 : ((v : Int) == (j : Int)) = d := by
        rw [← hd]
        by_cases e : v = j
        · simp [e]
        · have h1 : ¬ ((v : Int) = j) := by omega
          rw [beq_eq_false_iff_ne.2 h1, decide_eq_false e]
      have hne : ((v : Int) != (v : Int)) = false := by simp
      have fr := RB.frozen
      have cr : ∃ u, wr.cell? ⟨R, j, none⟩ = some (.bool u) := ⟨_, RB.cell (by rw [partR_len]; exact hlt)⟩
      obtain ⟨u, cr⟩ := cr
      have j0 : (0 : Int) ≤ j := by omega
      have j1 : (j : Int) < nb := by omega
      have v0 : (0 : Int) ≤ v := by omega
      have v1 : (v : Int) < nb := by omega
      have v2 : ¬ (v : Int) < 0 := by omega
      have v3 : ¬ (j : Int) < v := by omega
      have v4 : ¬ j < v := by omega
      have v5 : decide (j < v) = false := by simp; omega
      have Hset := Lib.hid hset
      clear hve hs hd hset
      go_wp2_with fail
      go_roundw
      case rel => exact ⟨j + 1, by omega, by go_num, Er.setCell (by have := HR.out; simp only; omega) _, by rw [← Hset.out]; exact RB.set_ j d⟩
      case measure => simp only [intOf]; omega
    · obtain rfl : j = nb := by omega
      go_wp2_with fail
      go_loopw [86] (fun ii wr' => ∃ (m : Nat), m ≤ j ∧ ii = .int .i64 m ∧ Ext W5 wr' ∧ Bools wr' R (markR L (partR j gl j) m)) (fun ii _ => j - (intOf ii).toNat)
      case atStart => exact ⟨0, by omega, rfl, Er, RB⟩
      case round =>
        clear Er RB
        obtain ⟨m, hm, rfl, Er, RB⟩ := hrel
        by_cases hmt : m < j
        · have hrl : (markR L (partR j gl j) m).length = j := by rw [markR_len, partR_len]
          have Hsu := Lib.hid (show markR L (partR j gl j) (m + 1) = marks L (markR L (partR j gl j) m) L.length from rfl)
          obtain ⟨r, hr⟩ : ∃ r, markR L (partR j gl j) m = r := ⟨_, rfl⟩
          rw [hr] at RB hrl Hsu
          clear hr
          go_wp2_with fail
          go_loopw [90] (fun ii wr' => ∃ (q : Nat), q ≤ n ∧ ii = .int .i64 q ∧ Ext W5 wr' ∧ Bools wr' R (marks L r q)) (fun ii _ => n - (intOf ii).toNat)
          case atStart => exact ⟨0, by omega, rfl, Er, RB⟩
          case round =>
            clear Er RB
            obtain ⟨q, hq, rfl, Er, RB⟩ := hrel
            by_cases hqt : q < n
            · obtain ⟨lg, loff, hLA⟩ : ∃ g off, A5 = some ⟨g, off, none⟩ := by
                obtain ⟨g, off, hA, -, -⟩ := SliceIs.cells HLL.out (by rw [Hn.out]; omega)
                exact ⟨g, off, hA⟩
              subst hLA
              have hlc : n ≤ lc := by have := HLL.out.le; rw [Hn.out] at this; exact this
              obtain ⟨c0, c1, c2, c3, c4⟩ := links_cell (HLL.out.ext Er) (k := q) (by rw [Hn.out]; exact hqt) rfl
              have hget := lnkAt_get (l := L) (k := q) (by rw [Hn.out]; exact hqt)
              have hmem := List.mem_of_getElem? hget
              have hws := Hw.out _ hmem
              have hpl := part_link Hle.out Hw.out hmem
              have hms := marks_succ (r := r) hget
              obtain ⟨⟨xa, xb, xk, xo, xs⟩, hx⟩ : ∃ x, lnkAt L q = x := ⟨_, rfl⟩
              rw [hx] at c0 c1 c2 c3 c4 hws hpl hms
              simp only at c0 c1 c2 c3 c4 hws hpl
              have hml : (marks L r q).length = j := by rw [marks_len, hrl]
              obtain ⟨l, hl⟩ : ∃ l, marks L r q = l := ⟨_, rfl⟩
              rw [hl] at RB hms hml
              unfold mark at hms
              simp only at hms
              obtain ⟨gb, go, rfl, d0⟩ := HG.out wr Er xa hws.1
              obtain ⟨gb', go', hgb, d1⟩ := HG.out wr Er xb hws.2
              simp only [Option.some.injEq, Addr.mk.injEq, and_true] at hgb
              obtain ⟨rfl, rfl⟩ := hgb
              rw [← hpl] at d1
              obtain ⟨v, hv⟩ : ∃ v, gl.getD xa 0 = v := ⟨_, rfl⟩
              rw [hv] at d0 d1
              obtain ⟨W8, hW8, E8, B8, -⟩ := mk_ wr #[.int .i64 xa, .int .i64 xb, .int .i64 xk, .int .i64 xo, .int .u8 xs] 76
              obtain ⟨X, hX⟩ : ∃ X, wr.heap.size = X := ⟨_, rfl⟩
              rw [hX] at B8
              have HX := Lib.hid hX
              have hXR : R ≠ X := by have := RB.lt; omega
              have q0 : (0 : Int) ≤ q := by omega
              have q1 : (q : Int) < n := by omega
              have q2 : (q : Int) < lc := by omega
              have a0 : (0 : Int) ≤ xa := by omega
              have a1 : (xa : Int) < j := by omega
              have b0 : (0 : Int) ≤ xb := by omega
              have b1 : (xb : Int) < j := by omega
              have hne : ((v : Int) != (v : Int)) = false := by simp
              have d0' := E8.cell d0
              have d1' := E8.cell d1
              have E58 := Er.trans E8
              have R8 := RB.ext E8
              have Hms := Lib.hid hms
              have Hml := Lib.hid hml
              have HXR := Lib.hid hXR
              have hws1 := hws.1
              have hws2 := hws.2
              clear hx hl hX hv hget hmem hws hpl hms Er RB E8 d0 d1 hXR
              go_upto_region 23 with (fail)
              rw [HX.out]
              clear c0 c1 c2 c3 c4 hW8
              have bx := B8.cell
              refine wp_region_grow (by kernel_rfl) (by kernel_rfl) ?_
              repeat (go_big_quiet_step (fail))
              refine wpQuiet_nil ?_
              intro W9 hW9
              have E9 : Ext W8 W9 := by
                obtain ⟨x, rfl⟩ := hW9
                exact (Ext.refl _).grow x
              clear hW9
              obtain ⟨hcW9, hfW9, hzW9⟩ := ext_facts E9
              clear hcW9 hfW9 hzW9 bx d0' d1'
              have E59 := E58.trans E9
              have R9 := R8.ext E9
              have B9 := B8.ext E9
              clear E58 E9 R8 B8
              have bx := B9.cell
              have ca := R9.cell (i := xa) (by rw [Hml.out]; exact hws1)
              have cb_ := R9.cell (i := xb) (by rw [Hml.out]; exact hws2)
              have Hma := Lib.hid (show bAt l xa = l.getD xa false from rfl)
              have Hmb := Lib.hid (show bAt l xb = l.getD xb false from rfl)
              obtain ⟨va, hva⟩ : ∃ v, l.getD xa false = v := ⟨_, rfl⟩
              obtain ⟨vb, hvb⟩ : ∃ v, l.getD xb false = v := ⟨_, rfl⟩
              rw [hva] at ca Hma
              rw [hvb] at cb_ Hmb
              have Hmm := Hms.out
              rw [Hma.out, Hmb.out] at Hmm
              have HM := Lib.hid Hmm
              clear hva hvb Hmm
              cases va
              · cases vb
                · go_wp2_with fail
                  go_roundw
                  case rel => exact ⟨q + 1, by omega, by go_num, E59, by rw [HM.out]; exact R9⟩
                  case measure => simp only [intOf]; omega
                · have HM1 := Lib.hid (show marks L r (q + 1) = (l.set xa true).set xb true by rw [HM.out]; rfl)
                  go_upto_region 26 with (fail)
                  clear ca cb_ bx
                  have hRW : W5.heap.size ≤ R := by have := HR.out; omega
                  have HRW := Lib.hid hRW
                  clear hRW
                  refine wp_region_by (Pt26 W5 R X j xa xb l #[.int .i64 xa, .int .i64 xb, .int .i64 xk, .int .i64 xo, .int .u8 xs]) (by kernel_rfl) (by kernel_rfl) (by kernel_rfl) (fun us => ⟨E59.drew, B9.drew, (fun _ => R9.ext (Ext.refl _).drew), (nofun), (nofun), (nofun), (nofun), (nofun), (nofun), (nofun), (nofun), (nofun), (nofun)⟩) ⟨?_, ?_, ?_, ?_, ?_, ?_, ?_, ?_, ?_, ?_, trivial⟩ ?_
                  all_goals clear E59 B9 R9
                  · intro L us wx K a ha hp hd hun hI hK
                    have HX := hI.x
                    clear hp HX
                    replace hd := Lib.hid hd
                    simp only [putAll, Act.put, List.setIfInBounds_toArray, List.set_cons_succ, List.set_cons_zero, Nat.reduceAdd] at ha
                    subst ha
                    simp only [Act.put, List.setIfInBounds_toArray, List.set_cons_succ, List.set_cons_zero] at hK
                    go_simp
                    refine hK _ _ ?_
                    first
                    | (refine ⟨hI.x, hI.g0, hI.g1, hI.g2, hI.g3, ?_, hI.f1, hI.f2, hI.f3, hI.f4, hI.f5, hI.f6, hI.f8⟩ <;> (first | exact fun _ => rfl | skip))
                    | (refine ⟨?_, ?_, ?_, ?_, ?_, ?_, ?_, ?_, ?_, ?_, ?_, ?_, ?_⟩ <;> (first | exact hI.x | exact hI.g0 | exact hI.g1 | exact hI.g2 | exact hI.g3 | exact hI.f0 | exact hI.f1 | exact hI.f2 | exact hI.f3 | exact hI.f4 | exact hI.f5 | exact hI.f6 | exact hI.f8 | exact fun _ => rfl | skip))
                  · intro L us wx K a ha hp hd hun hI hK
                    have HX := hI.x
                    clear hp HX
                    replace hd := Lib.hid hd
                    simp only [putAll, Act.put, List.setIfInBounds_toArray, List.set_cons_succ, List.set_cons_zero, Nat.reduceAdd] at ha
                    subst ha
                    simp only [Act.put, List.setIfInBounds_toArray, List.set_cons_succ, List.set_cons_zero] at hK
                    go_simp
                    refine hK _ _ ?_
                    first
                    | (refine ⟨hI.x, hI.g0, hI.g1, hI.g2, hI.g3, hI.f0, ?_, hI.f2, hI.f3, hI.f4, hI.f5, hI.f6, hI.f8⟩ <;> (first | exact fun _ => rfl | skip))
                    | (refine ⟨?_, ?_, ?_, ?_, ?_, ?_, ?_, ?_, ?_, ?_, ?_, ?_, ?_⟩ <;> (first | exact hI.x | exact hI.g0 | exact hI.g1 | exact hI.g2 | exact hI.g3 | exact hI.f0 | exact hI.f1 | exact hI.f2 | exact hI.f3 | exact hI.f4 | exact hI.f5 | exact hI.f6 | exact hI.f8 | exact fun _ => rfl | skip))
                  · intro L us wx K a ha hp hd hun hI hK
                    have HX := hI.x
                    have u1 := hI.f1 (hp 1 (by kernel_rfl))
                    have bb := hI.g0.cell
                    clear hp HX
                    replace hd := Lib.hid hd
                    simp only [putAll, Act.put, List.setIfInBounds_toArray, List.set_cons_succ, List.set_cons_zero, Nat.reduceAdd, u1] at ha
                    subst ha
                    simp only [Act.put, List.setIfInBounds_toArray, List.set_cons_succ, List.set_cons_zero] at hK
                    go_simp
                    refine hK _ _ ?_
                    first
                    | (refine ⟨hI.x, hI.g0, hI.g1, hI.g2, hI.g3, hI.f0, hI.f1, ?_, hI.f3, hI.f4, hI.f5, hI.f6, hI.f8⟩ <;> (first | exact fun _ => rfl | skip))
                    | (refine ⟨?_, ?_, ?_, ?_, ?_, ?_, ?_, ?_, ?_, ?_, ?_, ?_, ?_⟩ <;> (first | exact hI.x | exact hI.g0 | exact hI.g1 | exact hI.g2 | exact hI.g3 | exact hI.f0 | exact hI.f1 | exact hI.f2 | exact hI.f3 | exact hI.f4 | exact hI.f5 | exact hI.f6 | exact hI.f8 | exact fun _ => rfl | skip))
                  · intro L us wx K a ha hp hd hun hI hK
                    have HX := hI.x
                    clear hp HX
                    replace hd := Lib.hid hd
                    simp only [putAll, Act.put, List.setIfInBounds_toArray, List.set_cons_succ, List.set_cons_zero, Nat.reduceAdd] at ha
                    subst ha
                    simp only [Act.put, List.setIfInBounds_toArray, List.set_cons_succ, List.set_cons_zero] at hK
                    go_simp
                    refine hK _ _ ?_
                    first
                    | (refine ⟨hI.x, hI.g0, hI.g1, hI.g2, hI.g3, hI.f0, hI.f1, hI.f2, ?_, hI.f4, hI.f5, hI.f6, hI.f8⟩ <;> (first | exact fun _ => rfl | skip))
                    | (refine ⟨?_, ?_, ?_, ?_, ?_, ?_, ?_, ?_, ?_, ?_, ?_, ?_, ?_⟩ <;> (first | exact hI.x | exact hI.g0 | exact hI.g1 | exact hI.g2 | exact hI.g3 | exact hI.f0 | exact hI.f1 | exact hI.f2 | exact hI.f3 | exact hI.f4 | exact hI.f5 | exact hI.f6 | exact hI.f8 | exact fun _ => rfl | skip))
                  · intro L us wx K a ha hp hd hun hI hK
                    have HX := hI.x
                    clear hp HX
                    replace hd := Lib.hid hd
                    simp only [putAll, Act.put, List.setIfInBounds_toArray, List.set_cons_succ, List.set_cons_zero, Nat.reduceAdd] at ha
                    subst ha
                    simp only [Act.put, List.setIfInBounds_toArray, List.set_cons_succ, List.set_cons_zero] at hK
                    go_simp
                    refine hK _ _ ?_
                    first
                    | (refine ⟨hI.x, hI.g0, hI.g1, hI.g2, hI.g3, hI.f0, hI.f1, hI.f2, hI.f3, ?_, hI.f5, hI.f6, hI.f8⟩ <;> (first | exact fun _ => rfl | skip))
                    | (refine ⟨?_, ?_, ?_, ?_, ?_, ?_, ?_, ?_, ?_, ?_, ?_, ?_, ?_⟩ <;> (first | exact hI.x | exact hI.g0 | exact hI.g1 | exact hI.g2 | exact hI.g3 | exact hI.f0 | exact hI.f1 | exact hI.f2 | exact hI.f3 | exact hI.f4 | exact hI.f5 | exact hI.f6 | exact hI.f8 | exact fun _ => rfl | skip))
                  · intro L us wx K a ha hp hd hun hI hK
                    have HX := hI.x
                    have u4 := hI.f4 (hp 4 (by kernel_rfl))
                    have bb := hI.g0.cell
                    clear hp HX
                    replace hd := Lib.hid hd
                    simp only [putAll, Act.put, List.setIfInBounds_toArray, List.set_cons_succ, List.set_cons_zero, Nat.reduceAdd, u4] at ha
                    subst ha
                    simp only [Act.put, List.setIfInBounds_toArray, List.set_cons_succ, List.set_cons_zero] at hK
                    go_simp
                    refine hK _ _ ?_
                    first
                    | (refine ⟨hI.x, hI.g0, hI.g1, hI.g2, hI.g3, hI.f0, hI.f1, hI.f2, hI.f3, hI.f4, ?_, hI.f6, hI.f8⟩ <;> (first | exact fun _ => rfl | skip))
                    | (refine ⟨?_, ?_, ?_, ?_, ?_, ?_, ?_, ?_, ?_, ?_, ?_, ?_, ?_⟩ <;> (first | exact hI.x | exact hI.g0 | exact hI.g1 | exact hI.g2 | exact hI.g3 | exact hI.f0 | exact hI.f1 | exact hI.f2 | exact hI.f3 | exact hI.f4 | exact hI.f5 | exact hI.f6 | exact hI.f8 | exact fun _ => rfl | skip))
                  · intro L us wx K a ha hp hd hun hI hK
                    have HX := hI.x
                    have u0 := hI.f0 (hp 0 (by kernel_rfl))
                    have u2 := hI.f2 (hp 2 (by kernel_rfl))
                    clear hp HX
                    replace hd := Lib.hid hd
                    simp only [putAll, Act.put, List.setIfInBounds_toArray, List.set_cons_succ, List.set_cons_zero, Nat.reduceAdd, u0, u2] at ha
                    subst ha
                    simp only [Act.put, List.setIfInBounds_toArray, List.set_cons_succ, List.set_cons_zero] at hK
                    go_simp
                    refine hK _ _ ?_
                    first
                    | (refine ⟨hI.x, hI.g0, hI.g1, hI.g2, hI.g3, hI.f0, hI.f1, hI.f2, hI.f3, hI.f4, hI.f5, ?_, hI.f8⟩ <;> (first | exact fun _ => rfl | skip))
                    | (refine ⟨?_, ?_, ?_, ?_, ?_, ?_, ?_, ?_, ?_, ?_, ?_, ?_, ?_⟩ <;> (first | exact hI.x | exact hI.g0 | exact hI.g1 | exact hI.g2 | exact hI.g3 | exact hI.f0 | exact hI.f1 | exact hI.f2 | exact hI.f3 | exact hI.f4 | exact hI.f5 | exact hI.f6 | exact hI.f8 | exact fun _ => rfl | skip))
                  · intro L' us wx K a ha hp hd hun hI hK
                    have u6 := hI.f6 (hp 6 (by kernel_rfl))
                    have h9 : L' 9 = false := Bool.eq_false_iff.2 fun hl => absurd (hd 9 7 hl (by kernel_rfl)) (by rw [hun]; decide)
                    have hb := hI.g1 hun
                    have cc := hb.cell (i := xa) (by rw [Hml.out]; exact hws1)
                    have fb := hb.frozen
                    obtain ⟨V, hV⟩ : ∃ V, wx.setCell ⟨R, xa, none⟩ (.bool true) = V := ⟨_, rfl⟩
                    have BV := hb.set_ xa true
                    rw [hV] at BV
                    have EV := hI.x.setCell (p := ⟨R, xa, none⟩) HRW.out (.bool true)
                    rw [hV] at EV
                    have GV := hI.g0.far (p := ⟨R, xa, none⟩) (Ne.symm HXR.out) (.bool true)
                    rw [hV] at GV
                    replace hd := Lib.hid hd
                    simp only [putAll, Act.put, List.setIfInBounds_toArray, List.set_cons_succ, List.set_cons_zero, Nat.reduceAdd, u6] at ha
                    subst ha
                    simp only [Act.put] at hK
                    go_simp
                    exact hK undef _ ⟨EV, GV, (fun h => nomatch (show true = false from h)), (fun _ _ => BV), (fun h => absurd (show L' 9 = true from h) (by rw [h9]; decide)), hI.f0, hI.f1, hI.f2, hI.f3, hI.f4, hI.f5, hI.f6, hI.f8⟩
                  · intro L us wx K a ha hp hd hun hI hK
                    have HX := hI.x
                    have u3 := hI.f3 (hp 3 (by kernel_rfl))
                    have u5 := hI.f5 (hp 5 (by kernel_rfl))
                    clear hp HX
                    replace hd := Lib.hid hd
                    simp only [putAll, Act.put, List.setIfInBounds_toArray, List.set_cons_succ, List.set_cons_zero, Nat.reduceAdd, u3, u5] at ha
                    subst ha
                    simp only [Act.put, List.setIfInBounds_toArray, List.set_cons_succ, List.set_cons_zero] at hK
                    go_simp
                    refine hK _ _ ?_
                    first
                    | (refine ⟨hI.x, hI.g0, hI.g1, hI.g2, hI.g3, hI.f0, hI.f1, hI.f2, hI.f3, hI.f4, hI.f5, hI.f6, ?_⟩ <;> (first | exact fun _ => rfl | skip))
                    | (refine ⟨?_, ?_, ?_, ?_, ?_, ?_, ?_, ?_, ?_, ?_, ?_, ?_, ?_⟩ <;> (first | exact hI.x | exact hI.g0 | exact hI.g1 | exact hI.g2 | exact hI.g3 | exact hI.f0 | exact hI.f1 | exact hI.f2 | exact hI.f3 | exact hI.f4 | exact hI.f5 | exact hI.f6 | exact hI.f8 | exact fun _ => rfl | skip))
                  · intro L' us wx K a ha hp hd hun hI hK
                    have u8 := hI.f8 (hp 8 (by kernel_rfl))
                    have h7 := hp 7 (by kernel_rfl)
                    have hb := hI.g2 h7 hun
                    have cc := hb.cell (i := xb) (by rw [List.length_set, Hml.out]; exact hws2)
                    have fb := hb.frozen
                    obtain ⟨V, hV⟩ : ∃ V, wx.setCell ⟨R, xb, none⟩ (.bool true) = V := ⟨_, rfl⟩
                    have BV := hb.set_ xb true
                    rw [hV] at BV
                    have EV := hI.x.setCell (p := ⟨R, xb, none⟩) HRW.out (.bool true)
                    rw [hV] at EV
                    have GV := hI.g0.far (p := ⟨R, xb, none⟩) (Ne.symm HXR.out) (.bool true)
                    rw [hV] at GV
                    replace hd := Lib.hid hd
                    simp only [putAll, Act.put, List.setIfInBounds_toArray, List.set_cons_succ, List.set_cons_zero, Nat.reduceAdd, u8] at ha
                    subst ha
                    simp only [Act.put] at hK
                    go_simp
                    exact hK undef _ ⟨EV, GV, (fun h => absurd (show L' 7 = false from h) (by rw [h7]; decide)), (fun _ h => nomatch (show true = false from h)), (fun _ => BV), hI.f0, hI.f1, hI.f2, hI.f3, hI.f4, hI.f5, hI.f6, hI.f8⟩
                  intro L' us wx hall hI
                  have RX := hI.g3 (hall 9 (by simp))
                  have EX := hI.x
                  simp only [putAll, Act.put, List.setIfInBounds_toArray, List.set_cons_succ, List.set_cons_zero, Nat.reduceAdd]
                  clear hall hI
                  go_wp2_with fail
                  go_roundw
                  case rel => exact ⟨q + 1, by omega, by go_num, EX, by rw [HM1.out]; exact RX⟩
                  case measure => simp only [intOf]; omega
              · have HM1 := Lib.hid (show marks L r (q + 1) = (l.set xa true).set xb true by rw [HM.out]; rfl)
                go_upto_region 26 with (fail)
                clear ca cb_ bx
                have hRW : W5.heap.size ≤ R := by have := HR.out; omega
                have HRW := Lib.hid hRW
                clear hRW
                refine wp_region_by (Pt26 W5 R X j xa xb l #[.int .i64 xa, .int .i64 xb, .int .i64 xk, .int .i64 xo, .int .u8 xs]) (by kernel_rfl) (by kernel_rfl) (by kernel_rfl) (fun us => ⟨E59.drew, B9.drew, (fun _ => R9.ext (Ext.refl _).drew), (nofun), (nofun), (nofun), (nofun), (nofun), (nofun), (nofun), (nofun), (nofun), (nofun)⟩) ⟨?_, ?_, ?_, ?_, ?_, ?_, ?_, ?_, ?_, ?_, trivial⟩ ?_
                all_goals clear E59 B9 R9
                · intro L us wx K a ha hp hd hun hI hK
                  have HX := hI.x
                  clear hp HX
                  replace hd := Lib.hid hd
                  simp only [putAll, Act.put, List.setIfInBounds_toArray, List.set_cons_succ, List.set_cons_zero, Nat.reduceAdd] at ha
                  subst ha
                  simp only [Act.put, List.setIfInBounds_toArray, List.set_cons_succ, List.set_cons_zero] at hK
                  go_simp
                  refine hK _ _ ?_
                  first
                  | (refine ⟨hI.x, hI.g0, hI.g1, hI.g2, hI.g3, ?_, hI.f1, hI.f2, hI.f3, hI.f4, hI.f5, hI.f6, hI.f8⟩ <;> (first | exact fun _ => rfl | skip))
                  | (refine ⟨?_, ?_, ?_, ?_, ?_, ?_, ?_, ?_, ?_, ?_, ?_, ?_, ?_⟩ <;> (first | exact hI.x | exact hI.g0 | exact hI.g1 | exact hI.g2 | exact hI.g3 | exact hI.f0 | exact hI.f1 | exact hI.f2 | exact hI.f3 | exact hI.f4 | exact hI.f5 | exact hI.f6 | exact hI.f8 | exact fun _ => rfl | skip))
                · intro L us wx K a ha hp hd hun hI hK
                  have HX := hI.x
                  clear hp HX
                  replace hd := Lib.hid hd
                  simp only [putAll, Act.put, List.setIfInBounds_toArray, List.set_cons_succ, List.set_cons_zero, Nat.reduceAdd] at ha
                  subst ha
                  simp only [Act.put, List.setIfInBounds_toArray, List.set_cons_succ, List.set_cons_zero] at hK
                  go_simp
                  refine hK _ _ ?_
                  first
                  | (refine ⟨hI.x, hI.g0, hI.g1, hI.g2, hI.g3, hI.f0, ?_, hI.f2, hI.f3, hI.f4, hI.f5, hI.f6, hI.f8⟩ <;> (first | exact fun _ => rfl | skip))
                  | (refine ⟨?_, ?_, ?_, ?_, ?_, ?_, ?_, ?_, ?_, ?_, ?_, ?_, ?_⟩ <;> (first | exact hI.x | exact hI.g0 | exact hI.g1 | exact hI.g2 | exact hI.g3 | exact hI.f0 | exact hI.f1 | exact hI.f2 | exact hI.f3 | exact hI.f4 | exact hI.f5 | exact hI.f6 | exact hI.f8 | exact fun _ => rfl | skip))
                · intro L us wx K a ha hp hd hun hI hK
                  have HX := hI.x
                  have u1 := hI.f1 (hp 1 (by kernel_rfl))
                  have bb := hI.g0.cell
                  clear hp HX
                  replace hd := Lib.hid hd
                  simp only [putAll, Act.put, List.setIfInBounds_toArray, List.set_cons_succ, List.set_cons_zero, Nat.reduceAdd, u1] at ha
                  subst ha
                  simp only [Act.put, List.setIfInBounds_toArray, List.set_cons_succ, List.set_cons_zero] at hK
                  go_simp
                  refine hK _ _ ?_
                  first
                  | (refine ⟨hI.x, hI.g0, hI.g1, hI.g2, hI.g3, hI.f0, hI.f1, ?_, hI.f3, hI.f4, hI.f5, hI.f6, hI.f8⟩ <;> (first | exact fun _ => rfl | skip))
                  | (refine ⟨?_, ?_, ?_, ?_, ?_, ?_, ?_, ?_, ?_, ?_, ?_, ?_, ?_⟩ <;> (first | exact hI.x | exact hI.g0 | exact hI.g1 | exact hI.g2 | exact hI.g3 | exact hI.f0 | exact hI.f1 | exact hI.f2 | exact hI.f3 | exact hI.f4 | exact hI.f5 | exact hI.f6 | exact hI.f8 | exact fun _ => rfl | skip))
                · intro L us wx K a ha hp hd hun hI hK
                  have HX := hI.x
                  clear hp HX
                  replace hd := Lib.hid hd
                  simp only [putAll, Act.put, List.setIfInBounds_toArray, List.set_cons_succ, List.set_cons_zero, Nat.reduceAdd] at ha
                  subst ha
                  simp only [Act.put, List.setIfInBounds_toArray, List.set_cons_succ, List.set_cons_zero] at hK
                  go_simp
                  refine hK _ _ ?_
                  first
                  | (refine ⟨hI.x, hI.g0, hI.g1, hI.g2, hI.g3, hI.f0, hI.f1, hI.f2, ?_, hI.f4, hI.f5, hI.f6, hI.f8⟩ <;> (first | exact fun _ => rfl | skip))
                  | (refine ⟨?_, ?_, ?_, ?_, ?_, ?_, ?_, ?_, ?_, ?_, ?_, ?_, ?_⟩ <;> (first | exact hI.x | exact hI.g0 | exact hI.g1 | exact hI.g2 | exact hI.g3 | exact hI.f0 | exact hI.f1 | exact hI.f2 | exact hI.f3 | exact hI.f4 | exact hI.f5 | exact hI.f6 | exact hI.f8 | exact fun _ => rfl | skip))
                · intro L us wx K a ha hp hd hun hI hK
                  have HX := hI.x
                  clear hp HX
                  replace hd := Lib.hid hd
                  simp only [putAll, Act.put, List.setIfInBounds_toArray, List.set_cons_succ, List.set_cons_zero, Nat.reduceAdd] at ha
                  subst ha
                  simp only [Act.put, List.setIfInBounds_toArray, List.set_cons_succ, List.set_cons_zero] at hK
                  go_simp
                  refine hK _ _ ?_
                  first
                  | (refine ⟨hI.x, hI.g0, hI.g1, hI.g2, hI.g3, hI.f0, hI.f1, hI.f2, hI.f3, ?_, hI.f5, hI.f6, hI.f8⟩ <;> (first | exact fun _ => rfl | skip))
                  | (refine ⟨?_, ?_, ?_, ?_, ?_, ?_, ?_, ?_, ?_, ?_, ?_, ?_, ?_⟩ <;> (first | exact hI.x | exact hI.g0 | exact hI.g1 | exact hI.g2 | exact hI.g3 | exact hI.f0 | exact hI.f1 | exact hI.f2 | exact hI.f3 | exact hI.f4 | exact hI.f5 | exact hI.f6 | exact hI.f8 | exact fun _ => rfl | skip))
                · intro L us wx K a ha hp hd hun hI hK
                  have HX := hI.x
                  have u4 := hI.f4 (hp 4 (by kernel_rfl))
                  have bb := hI.g0.cell
                  clear hp HX
                  replace hd := Lib.hid hd
                  simp only [putAll, Act.put, List.setIfInBounds_toArray, List.set_cons_succ, List.set_cons_zero, Nat.reduceAdd, u4] at ha
                  subst ha
                  simp only [Act.put, List.setIfInBounds_toArray, List.set_cons_succ, List.set_cons_zero] at hK
                  go_simp
                  refine hK _ _ ?_
                  first
                  | (refine ⟨hI.x, hI.g0, hI.g1, hI.g2, hI.g3, hI.f0, hI.f1, hI.f2, hI.f3, hI.f4, ?_, hI.f6, hI.f8⟩ <;> (first | exact fun _ => rfl | skip))
                  | (refine ⟨?_, ?_, ?_, ?_, ?_, ?_, ?_, ?_, ?_, ?_, ?_, ?_, ?_⟩ <;> (first | exact hI.x | exact hI.g0 | exact hI.g1 | exact hI.g2 | exact hI.g3 | exact hI.f0 | exact hI.f1 | exact hI.f2 | exact hI.f3 | exact hI.f4 | exact hI.f5 | exact hI.f6 | exact hI.f8 | exact fun _ => rfl | skip))
                · intro L us wx K a ha hp hd hun hI hK
                  have HX := hI.x
                  have u0 := hI.f0 (hp 0 (by kernel_rfl))
                  have u2 := hI.f2 (hp 2 (by kernel_rfl))
                  clear hp HX
                  replace hd := Lib.hid hd
                  simp only [putAll, Act.put, List.setIfInBounds_toArray, List.set_cons_succ, List.set_cons_zero, Nat.reduceAdd, u0, u2] at ha
                  subst ha
                  simp only [Act.put, List.setIfInBounds_toArray, List.set_cons_succ, List.set_cons_zero] at hK
                  go_simp
                  refine hK _ _ ?_
                  first
                  | (refine ⟨hI.x, hI.g0, hI.g1, hI.g2, hI.g3, hI.f0, hI.f1, hI.f2, hI.f3, hI.f4, hI.f5, ?_, hI.f8⟩ <;> (first | exact fun _ => rfl | skip))
                  | (refine ⟨?_, ?_, ?_, ?_, ?_, ?_, ?_, ?_, ?_, ?_, ?_, ?_, ?_⟩ <;> (first | exact hI.x | exact hI.g0 | exact hI.g1 | exact hI.g2 | exact hI.g3 | exact hI.f0 | exact hI.f1 | exact hI.f2 | exact hI.f3 | exact hI.f4 | exact hI.f5 | exact hI.f6 | exact hI.f8 | exact fun _ => rfl | skip))
                · intro L' us wx K a ha hp hd hun hI hK
                  have u6 := hI.f6 (hp 6 (by kernel_rfl))
                  have h9 : L' 9 = false := Bool.eq_false_iff.2 fun hl => absurd (hd 9 7 hl (by kernel_rfl)) (by rw [hun]; decide)
                  have hb := hI.g1 hun
                  have cc := hb.cell (i := xa) (by rw [Hml.out]; exact hws1)
                  have fb := hb.frozen
                  obtain ⟨V, hV⟩ : ∃ V, wx.setCell ⟨R, xa, none⟩ (.bool true) = V := ⟨_, rfl⟩
                  have BV := hb.set_ xa true
                  rw [hV] at BV
                  have EV := hI.x.setCell (p := ⟨R, xa, none⟩) HRW.out (.bool true)
                  rw [hV] at EV
                  have GV := hI.g0.far (p := ⟨R, xa, none⟩) (Ne.symm HXR.out) (.bool true)
                  rw [hV] at GV
                  replace hd := Lib.hid hd
                  simp only [putAll, Act.put, List.setIfInBounds_toArray, List.set_cons_succ, List.set_cons_zero, Nat.reduceAdd, u6] at ha
                  subst ha
                  simp only [Act.put] at hK
                  go_simp
                  exact hK undef _ ⟨EV, GV, (fun h => nomatch (show true = false from h)), (fun _ _ => BV), (fun h => absurd (show L' 9 = true from h) (by rw [h9]; decide)), hI.f0, hI.f1, hI.f2, hI.f3, hI.f4, hI.f5, hI.f6, hI.f8⟩
                · intro L us wx K a ha hp hd hun hI hK
                  have HX := hI.x
                  have u3 := hI.f3 (hp 3 (by kernel_rfl))
                  have u5 := hI.f5 (hp 5 (by kernel_rfl))
                  clear hp HX
                  replace hd := Lib.hid hd
                  simp only [putAll, Act.put, List.setIfInBounds_toArray, List.set_cons_succ, List.set_cons_zero, Nat.reduceAdd, u3, u5] at ha
                  subst ha
                  simp only [Act.put, List.setIfInBounds_toArray, List.set_cons_succ, List.set_cons_zero] at hK
                  go_simp
                  refine hK _ _ ?_
                  first
                  | (refine ⟨hI.x, hI.g0, hI.g1, hI.g2, hI.g3, hI.f0, hI.f1, hI.f2, hI.f3, hI.f4, hI.f5, hI.f6, ?_⟩ <;> (first | exact fun _ => rfl | skip))
                  | (refine ⟨?_, ?_, ?_, ?_, ?_, ?_, ?_, ?_, ?_, ?_, ?_, ?_, ?_⟩ <;> (first | exact hI.x | exact hI.g0 | exact hI.g1 | exact hI.g2 | exact hI.g3 | exact hI.f0 | exact hI.f1 | exact hI.f2 | exact hI.f3 | exact hI.f4 | exact hI.f5 | exact hI.f6 | exact hI.f8 | exact fun _ => rfl | skip))
                · intro L' us wx K a ha hp hd hun hI hK
                  have u8 := hI.f8 (hp 8 (by kernel_rfl))
                  have h7 := hp 7 (by kernel_rfl)
                  have hb := hI.g2 h7 hun
                  have cc := hb.cell (i := xb) (by rw [List.length_set, Hml.out]; exact hws2)
                  have fb := hb.frozen
                  obtain ⟨V, hV⟩ : ∃ V, wx.setCell ⟨R, xb, none⟩ (.bool true) = V := ⟨_, rfl⟩
                  have BV := hb.set_ xb true
                  rw [hV] at BV
                  have EV := hI.x.setCell (p := ⟨R, xb, none⟩) HRW.out (.bool true)
                  rw [hV] at EV
                  have GV := hI.g0.far (p := ⟨R, xb, none⟩) (Ne.symm HXR.out) (.bool true)
                  rw [hV] at GV
                  replace hd := Lib.hid hd
                  simp only [putAll, Act.put, List.setIfInBounds_toArray, List.set_cons_succ, List.set_cons_zero, Nat.reduceAdd, u8] at ha
                  subst ha
                  simp only [Act.put] at hK
                  go_simp
                  exact hK undef _ ⟨EV, GV, (fun h => absurd (show L' 7 = false from h) (by rw [h7]; decide)), (fun _ h => nomatch (show true = false from h)), (fun _ => BV), hI.f0, hI.f1, hI.f2, hI.f3, hI.f4, hI.f5, hI.f6, hI.f8⟩
                intro L' us wx hall hI
                have RX := hI.g3 (hall 9 (by simp))
                have EX := hI.x
                simp only [putAll, Act.put, List.setIfInBounds_toArray, List.set_cons_succ, List.set_cons_zero, Nat.reduceAdd]
                clear hall hI
                go_wp2_with fail
                go_roundw
                case rel => exact ⟨q + 1, by omega, by go_num, EX, by rw [HM1.out]; exact RX⟩
                case measure => simp only [intOf]; omega
            · obtain rfl : q = n := by omega
              go_wp2_with fail
              go_roundw
              case rel => exact ⟨m + 1, by omega, by go_num, Er, by rw [Hsu.out, Hn.out]; exact RB⟩
              case measure => simp only [intOf]; omega
        · obtain rfl : m = j := by omega
          go_wp2_with fail
          go_loopw [129] (fun ii wr' => ∃ (k : Nat), k ≤ m ∧ ii = .int .i64 k ∧ Ext W5 wr' ∧ Bools wr' R (markR L (partR m gl m) m)) (fun ii _ => m - (intOf ii).toNat)
          case atStart => exact ⟨0, by omega, rfl, Er, RB⟩
          case round =>
            clear Er RB
            obtain ⟨k, hk', rfl, Er, RB⟩ := hrel
            by_cases hkt : k < m
            · have cc := RB.cell (i := k) (by rw [markR_len, partR_len]; exact hkt)
              have hpr : (markR L (partR m gl m) m).getD k false = true := part_reached Hle.out Hw.out hkt
              rw [hpr] at cc
              have k0 : (0 : Int) ≤ k := by omega
              have k1 : (k : Int) < m := by omega
              clear hpr
              go_wp2_with fail
              go_roundw
              case rel => exact ⟨k + 1, by omega, by go_num, Er, RB⟩
              case measure => simp only [intOf]; omega
            · obtain rfl : k = m := by omega
              go_wp2_with fail
              go_ret
              exact ⟨rfl, HE.out.trans Er⟩
end Go.Proofs.YtenigkngmdofiaaGreat
namespace Go.Proofs.YtenigkngmdofiaaGreat
open Go.RowKit Go.ChangeShapes Go.WideShapes Go.ChangeAt Go.Deep Go.Joins

set_option maxRecDepth 100000 in
theorem latticeParted_lifted (os : Os) (started : os.Started) (H : Type) (enc : TypeId × Value → H) :
    ReturnsInHanded {} Tryz.checked os 10 .any (Rows.latticePartedSpec.pre6 enc Tryz.prog Tryz.f10 Rows.latticePartedRow.domain false) (Rows.latticePartedSpec.post enc Tryz.prog Tryz.f10 false true false false) := by
  refine returnsInHanded_of_change (C := Tryz.checked) Tryz.own started (by kernel_rfl) Tryz.func10
    (ChangeSpec.witness6 (enc := enc) (C := Tryz.checked) false ⟨#[], #[.slice none 0 0, .agg #[.slice none 0 0]], []⟩ 8 (by kernel_rfl) (by kernel_rfl) (by kernel_rfl) (by kernel_rfl)) ?_
  intro W base args ds gs before hval0 hW hcnd _
  have hval : ∀ (j : Nat) t v, Tryz.f10.params[j]? = some t → args[j]? = some v → Value.okWide Tryz.prog W .any base t v := hval0
  have hW' := hW
  obtain ⟨p, q, hA0, hV, rfl, hfz, hnd⟩ := hW
  have hA : DataW.TrodAll enc Tryz.prog W 0 (fun _ => true) true Tryz.f10.params.toList args.toList ds p := hA0
  rw [Tryz.params10] at hA hval
  have hAll := hA
  obtain ⟨v0, v1, d0, d1, p0, p1, rfl, rfl, rfl, h0, h1⟩ := trodAll_two hA
  obtain ⟨rfl, rfl⟩ := trodVars_none hV
  obtain ⟨C, n1, cc, rfl⟩ := okWide_slice Tryz.underlying22 (hval 0 22 v0 rfl rfl)
  obtain ⟨fu0, hf0⟩ := h0
  obtain ⟨qs, rfl, hk, -⟩ := kinds_of_trod (by simpa [Value.cells] using hf0)
  obtain ⟨D, cd, bs, rfl, hb, hnil⟩ := model_open (hval 1 25 v1 rfl rfl) h1
  clear hA0 hval0
  simp only [List.append_nil] at hW' hAll
  have hlt : ∀ q ∈ p0 ++ p1, q.block < W.heap.size := fun q hq => hW'.lt q hq
  refine (parted_walk qs C cc bs D cd W hk hb hnil).mono fun e W' ⟨he, hE⟩ => ?_
  subst he
  refine ⟨_, rfl, ?_⟩
  refine ⟨_, _, _, [], p0 ++ p1, [], hW', ?_, ?_, rfl, hE.frame _, fun h => by cases h⟩
  · exact trodAll_mk1 (shut_bool Tryz.underlying4 true)
  · exact trodAll_ext (ts := [22, 25]) Tryz.laidOut hE (by
      intro t ht
      simp only [List.mem_cons, List.not_mem_nil, or_false] at ht
      rcases ht with rfl | rfl <;> exact ⟨by kernel_rfl, of_decide_eq_true (by kernel_rfl)⟩) hAll hlt

theorem latticeParted_holds : Rows.LatticePartedSaid :=
  OpenClaim.holds_of_wide 10 Tryz.f10 rfl rfl rfl rfl rfl rfl rfl ⟨rfl, rfl, rfl, rfl, rfl⟩ rfl rfl rfl rfl rfl (by kernel_rfl) Tryz.func10 (by kernel_rfl)
    (of_decide_eq_true (by kernel_rfl)) (by unfold Func.isWrapper; rw [if_neg (of_decide_eq_false (by kernel_rfl))]; exact ⟨rfl, rfl⟩)
    (fun os started H enc _ => latticeParted_lifted os started H enc)
#print axioms latticeParted_holds
end Go.Proofs.YtenigkngmdofiaaGreat
