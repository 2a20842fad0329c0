/- Kinds of the program. -/
import Derived.Test.YtaaeapjnjjbglaaGreatDoorCd13

namespace Go.Proofs.YtaaeapjnjjbglaaGreatDoor
open Go.RowKit

/-! ### what kinds are -/
def areaP (p : Plate) : Nat := (p.W * p.D).toNat
def kcell (p : Plate) (i : Nat) : List Value := [.int .i64 ((i : Int) % p.W), .int .i64 ((i : Int) / p.W), .int .i64 0]
def kknob (p : Plate) (i : Nat) (d s : Int) : List Value := [.int .i64 ((i : Int) % p.W), .int .i64 ((i : Int) / p.W), .int .i64 0, .int .u8 d, .int .u8 s]
def cellRows (p : Plate) (n : Nat) : List (List Value) := (List.range n).map (kcell p)
def knobRows (p : Plate) : Nat → List (List Value)
  | 0 => []
  | n + 1 => knobRows p n ++ [kknob p n 4 1, kknob p n 5 2]
theorem cellRows_succ (p : Plate) (n : Nat) : (cellRows p (n + 1)).flatten = (cellRows p n).flatten ++ kcell p n := by
  unfold cellRows
  rw [List.range_succ, List.map_append, List.flatten_append]
  simp
theorem knobRows_succ (p : Plate) (n : Nat) : (knobRows p (n + 1)).flatten = (knobRows p n).flatten ++ (kknob p n 4 1 ++ kknob p n 5 2) := by
  show (knobRows p n ++ [kknob p n 4 1, kknob p n 5 2]).flatten = _
  rw [List.flatten_append]
  simp
theorem cellRows_len (p : Plate) (n : Nat) : (cellRows p n).length = n := by simp [cellRows]
theorem knobRows_len (p : Plate) (n : Nat) : (knobRows p n).length = 2 * n := by
  induction n with
  | zero => rfl
  | succ n ih =>
    show (knobRows p n ++ [kknob p n 4 1, kknob p n 5 2]).length = _
    rw [List.length_append, ih]
    simp
    omega
theorem cellRows_row (p : Plate) (n : Nat) : ∀ r ∈ cellRows p n, CellRow r := by
  intro r hr
  obtain ⟨i, _, rfl⟩ := List.mem_map.1 hr
  exact ⟨_, _, _, rfl⟩
theorem knobRows_row (p : Plate) (n : Nat) : ∀ r ∈ knobRows p n, KnobRow r := by
  induction n with
  | zero => intro r hr; cases hr
  | succ n ih =>
    intro r hr
    have hr : r ∈ knobRows p n ++ [kknob p n 4 1, kknob p n 5 2] := hr
    rw [List.mem_append] at hr
    rcases hr with hr | hr
    · exact ih r hr
    · simp only [List.mem_cons, List.not_mem_nil, or_false] at hr
      rcases hr with rfl | rfl
      · exact ⟨_, _, _, _, _, rfl⟩
      · exact ⟨_, _, _, _, _, rfl⟩
/-- A kind in memory, its rows the call's own. -/
def KindOwn (w : World) (T : Nat) (r : List Value) (p : Plate) : Prop :=
  ∃ CA cc KA kc, r = [.slice CA (areaP p) cc, .slice KA (2 * areaP p) kc, .int .i64 (p.W * p.D)] ∧ w.ownsRow T 53 3 (.slice CA (areaP p) cc) (areaP p) (cellRows p (areaP p)).flatten ∧
    w.ownsRow T 76 5 (.slice KA (2 * areaP p) kc) (2 * areaP p) (knobRows p (areaP p)).flatten
theorem KindOwn.ext {w w' : World} {T : Nat} {r : List Value} {p : Plate} (h : KindOwn w T r p) (E : Ext w w') : KindOwn w' T r p := by
  obtain ⟨CA, cc, KA, kc, h1, h2, h3⟩ := h
  exact ⟨CA, cc, KA, kc, h1, own_ext h2 E, own_ext h3 E⟩
/-- The kinds of the first k plates. -/
def KindsOwn (w : World) (T : Nat) (l : List Plate) (k : Nat) (rows : List (List Value)) : Prop :=
  rows.length = k ∧ ∀ (j : Nat) (r : List Value) (p : Plate), rows[j]? = some r → l[j]? = some p → KindOwn w T r p ∧ r.length = 3
theorem infoCell : (Tryz.prog.info? 53).map (fun i => (i.zero, i.size, i.bytes)) = some (some (.agg #[.int .i64 0, .int .i64 0, .int .i64 0]), 3, 24) := by kernel_rfl
theorem infoKnob : (Tryz.prog.info? 76).map (fun i => (i.zero, i.size, i.bytes)) = some (some (.agg #[.int .i64 0, .int .i64 0, .int .i64 0, .int .u8 0, .int .u8 0]), 5, 32) := by kernel_rfl
theorem infoKind : (Tryz.prog.info? 74).map (fun i => (i.zero, i.size, i.bytes)) = some (some (.agg #[.slice none 0 0, .slice none 0 0, .int .i64 0]), 3, 56) := by kernel_rfl
def tooBig (l : List Plate) : Bool := l.any fun p => decide (24 < p.W * p.D)
def kindsErr (l : List Plate) : Int := if platesB l = true then (if tooBig l = true then 2 else 0) else 71

theorem own_but {G B : Nat} {w w' : World} {base : Nat} {e : TypeId} {size : Nat} {v : Value} {n : Nat} {xs : List Value} (h : w.ownsRow base e size v n xs) (k : But G B w w') (h1 : ∀ r, v.ownBlock = some r → r < B ∧ r ≠ G) : w'.ownsRow base e size v n xs := by
  obtain ⟨h2, h3⟩ := h
  refine ⟨h2, ?_⟩
  rcases h3 with h3 | ⟨g, cap, cur, hv, hg, hh, r⟩
  · exact Or.inl h3
  · obtain ⟨q1, q2⟩ := h1 g (by rw [hv]; rfl)
    exact Or.inr ⟨g, cap, cur, hv, hg, (k.block g q1 q2).trans hh, r⟩
/-- append(s, x, y, ..) where the m new elements have just been laid as a new block's cells. -/
theorem wpList_append_many {P : Program} {ops : Array Oper} {o : Oper} {a : Act} {Q : Exit → Act → World → Prop} {w : World} {rest : List Oper} (cs : Array Value) (m : Nat) (hm : 0 < m) (hgd : o.guard = none) (s x : Operand) (t : TypeId) (ho : o.op = .call { callee := .builtin .append, args := #[s, x], argTypes := #[t, t] })
    (base : Nat) (e te : TypeId) (i : TypeInfo) (z : Value) (size bytes : Nat) (ht : P.underlying t = some (.slice e)) (hi : P.info? e = some i) (hz : i.zero = some z)
    (hsize : i.size = size) (hby : i.bytes = bytes) (hzs : z.cells.size = size) (hsz : 0 < size)
    (v : Value) (n c : Nat) (xs : List Value) (hs : a.eval s = v) (hown : w.ownsRow base e size v n xs)
    (hx : a.eval x = .slice (some ⟨w.heap.size, 0, none⟩) m c) (hl : cs.size = m * size) (h1 : ∀ u ∈ cs.toList, u.oneCell' = true)
    (h63 : n + m ≤ maxLen) (hbytes : (n + m) * bytes ≤ 140737488355328) (hbase : base ≤ w.heap.size)
    (h : ∀ g' cap' w', w'.ownsRow base e size (.slice (some ⟨g', 0, none⟩) (n + m) cap') (n + m) (xs ++ cs.toList) → (w.alloc (.cells cs te)).grownBy w' v.ownBlock → wpList P ops Q rest (a.put o.dst (.slice (some ⟨g', 0, none⟩) (n + m) cap')) w') :
    wpList P ops Q (o :: rest) a (w.alloc (.cells cs te)) :=
  wpList_plain hgd fun _ hK => by
    have := step_append_new (P := P) (w := w.alloc (.cells cs te)) (ops := ops) (o := o) (a := a) (Q := Q) (F := True) hgd s x t ho base e i z size bytes ht hi hz hsize hby hzs hsz v n xs hs (hown.alloc _) w.heap.size m c cs.toList hx (by simp [hl]) (fun j => by rw [cell_new]; simp) h1 h63 hbytes (by simp; omega) (fun v' w' h2 h3 => hK _ _ (by
      obtain ⟨g', cap', rfl⟩ := own_form h2 (by omega)
      exact h g' cap' w' h2 h3))
    rwa [if_pos (by simp [Region.wanted, hgd])] at this

/-- A new block of a type in a world that has only grown. -/
def NewBlk (t : TypeId) (cs : Array Value) (w0 : World) (v : Value) (w : World) : Prop := ∃ g, v = .pointer (some ⟨g, 0, none⟩) ∧ w0.heap.size ≤ g ∧ Blk w g t cs ∧ Ext w0 w
def KindsRes (l : List Plate) (w : World) (e : Ending) (w' : World) : Prop :=
  (∃ OA oc rows, e = .returned (.tuple #[.slice OA l.length oc, .int .i64 0]) ∧ w'.ownsRow w.heap.size 74 3 (.slice OA l.length oc) l.length rows.flatten ∧ KindsOwn w' w.heap.size l l.length rows) ∧ Ext w w'
theorem KindOwn.but {G B T : Nat} {w0 W3 w : World} {r : List Value} {p : Plate} (h : KindOwn w0 T r p) (E : Ext w0 W3) (k : But G B W3 w) (h1 : w0.heap.size ≤ G) (h2 : G < B) : KindOwn w T r p := by
  obtain ⟨CA, cc, KA, kc, e, c1, c2⟩ := h
  refine ⟨CA, cc, KA, kc, e, own_but (own_ext c1 E) k (fun q hq => ?_), own_but (own_ext c2 E) k (fun q hq => ?_)⟩
  · have := (c1.lt q hq).2
    omega
  · have := (c2.lt q hq).2
    omega
theorem KindOwn.grown {T : Nat} {w w' : World} {r : List Value} {p : Plate} {v : Value} {n : Nat} {xs : List Value} {b : Nat} (h : KindOwn w T r p) (own : w.ownsRow b 74 3 v n xs) (hg : w.grownBy w' v.ownBlock) : KindOwn w' T r p := by
  obtain ⟨CA, cc, KA, kc, e, c1, c2⟩ := h
  exact ⟨CA, cc, KA, kc, e, own_grown c1 hg (own_apart c1 own (by decide)), own_grown c2 hg (own_apart c2 own (by decide))⟩
theorem KindsOwn.snoc {T : Nat} {w : World} {l : List Plate} {k : Nat} {rows : List (List Value)} {r : List Value} {p : Plate} (h : KindsOwn w T l k rows) (hp : l[k]? = some p) (hr : KindOwn w T r p) (h3 : r.length = 3) : KindsOwn w T l (k + 1) (rows ++ [r]) := by
  obtain ⟨h1, h2⟩ := h
  refine ⟨by simp [h1], fun j q p' hj hp' => ?_⟩
  rcases Nat.lt_or_ge j rows.length with hlt | hge
  · rw [List.getElem?_append_left hlt] at hj
    exact h2 j q p' hj hp'
  · rw [List.getElem?_append_right hge] at hj
    have hj0 : j - rows.length = 0 := by
      have := (List.getElem?_eq_some_iff.1 hj).1
      simp at this
      omega
    rw [hj0] at hj
    simp only [List.getElem?_cons_zero, Option.some.injEq] at hj
    subst hj
    obtain rfl : j = k := by omega
    rw [hp] at hp'
    cases hp'
    exact ⟨hr, h3⟩
def KindsPost (l : List Plate) (w : World) (e : Ending) (w' : World) : Prop :=
  (tooBig l = false → KindsRes l w e w') ∧ (tooBig l = true → e = .returned (.tuple #[.slice none 0 0, .int .i64 2]) ∧ Ext w w')

set_option maxRecDepth 100000 in
set_option maxHeartbeats 8000000 in
theorem kinds_c (l : List Plate) (PA : Option Addr) (pcap : Nat) (okl : platesB l = true) (w : World) (hl : Plates w PA pcap l) :
    Calls Tryz.prog 8 #[.slice PA l.length pcap] w (KindsPost l w) := by
  have hl8 := plates_len okl
  have Hpe := Lib.hid (platesErr_ok okl)
  go_enter Tryz.func8, Tryz.ntmps8
  go_wp2_with fail
  refine (checkPlates_c PA pcap l _ hl).mono ?_
  rintro e W1 ⟨rfl, E1⟩
  rw [Hpe.out]
  go_wp2_with fail
  obtain ⟨T, hT⟩ : ∃ T, W1.heap.size = T := ⟨_, rfl⟩
  have hwT : w.heap.size ≤ T := by have := E1.size; omega
  have HT := Lib.hid hT
  clear hT
  go_loopw [5, 19] (fun ov i wr => ∃ (k : Nat) (rows : List (List Value)), k ≤ l.length ∧ i = .int .i64 k ∧ Ext w wr ∧ T ≤ wr.heap.size ∧ wr.ownsRow T 74 3 ov k rows.flatten ∧ KindsOwn wr T l k rows ∧
    ∀ (j : Nat) (p : Plate), j < k → l[j]? = some p → p.W * p.D ≤ 24) (fun _ i _ => l.length - (intOf i).toNat)
  case atStart => exact ⟨0, [], by omega, rfl, E1, by rw [HT.out]; exact Nat.le_refl _, World.ownsRow_nil _ _ _ _, ⟨rfl, fun j r p hj => by simp at hj⟩, fun j p hj => by omega⟩
  case round =>
    obtain ⟨k, rows, hk, rfl, E, hTr, own, hko, hsm⟩ := hrel
    have Hko := Lib.hid hko
    have Hsm := Lib.hid hsm
    clear hko hsm
    by_cases hlt : k < l.length
    · obtain ⟨pb, poff, p, hPA, hp, hpb, p0, p1, p2, p3⟩ := (hl.ext E).at_ hlt
      subst hPA
      have okp := plate_ok okl hp
      obtain ⟨pw1, pw2⟩ := okp.w
      have pd := okp.d
      clear okp
      have Hp := Lib.hid hp
      clear hp
      have e1 := mul_bd (A := 8) (B := 8) pw1 (by omega : p.W ≤ (8 : Nat)) (by omega : 1 ≤ p.D) (by omega : p.D ≤ (8 : Nat))
      obtain ⟨n, hn⟩ : ∃ n : Nat, p.W * p.D = n := Int.eq_ofNat_of_zero_le (by omega)
      have Hn := Lib.hid hn
      have hw1 : IntKind.i64.wrap (p.W * p.D) = n := by rw [hn]; exact IntWalk.i64_in _ (by omega)
      obtain ⟨W2, hW2, E2, B2, hz2⟩ := box_ wr #[.int .i64 p.W, .int .i64 p.D, .int .i64 p.N, .int .u8 p.color] 64
      clear hz2
      have b2 := B2.cell
      have E02 := E.trans E2
      by_cases hbig : 24 < n
      · have hd : decide (24 < (n : Int)) = true := by simp; omega
        have Htb : Hid (tooBig l = true) := Lib.hid (by
          unfold tooBig
          rw [List.any_eq_true]
          exact ⟨p, List.mem_of_getElem? Hp.out, by rw [Hn.out]; exact hd⟩)
        clear hbig
        go_wp2_with fail
        go_ret2
        exact ⟨fun h => (by rw [Htb.out] at h; cases h), fun _ => ⟨rfl, E02⟩⟩
      · have hd : decide (24 < (n : Int)) = false := by simp; omega
        obtain ⟨W3, hW3, E3, B3, hz3⟩ := box_ W2 #[.slice none 0 0, .slice none 0 0, .int .i64 n] 74
        obtain ⟨PB, hPB⟩ : ∃ PB, wr.heap.size = PB := ⟨_, rfl⟩
        obtain ⟨KB, hKB⟩ : ∃ KB, W2.heap.size = KB := ⟨_, rfl⟩
        obtain ⟨T3, hT3⟩ : ∃ T3, W3.heap.size = T3 := ⟨_, rfl⟩
        rw [hPB] at B2 b2
        rw [hKB] at B3
        have hKT : KB < T3 := by omega
        have hPK : PB < KB := by have := B2.lt; omega
        have hTP : T ≤ PB := by omega
        have B23 := B2.ext E3
        have E03 := E02.trans E3
        have E23 := E2.trans E3
        clear hn hz3
        go_wp2_with fail
        have HPB := Lib.hid hPB
        have HKB := Lib.hid hKB
        have HT3 := Lib.hid hT3
        clear hPB hKB hT3 hw1 hW2 hW3 b2 hd
        obtain ⟨wo, rfl⟩ : ∃ wo : World, wo = wr := ⟨_, rfl⟩
        go_loopw [33] (fun i wr => ∃ (j : Nat) (cv kv : Value), j ≤ n ∧ i = .int .i64 j ∧ But KB T3 W3 wr ∧ T3 ≤ wr.heap.size ∧ Blk wr KB 74 #[cv, kv, .int .i64 n] ∧
          wr.ownsRow T3 53 3 cv j (cellRows p j).flatten ∧ wr.ownsRow T3 76 5 kv (2 * j) (knobRows p j).flatten) (fun i _ => n - (intOf i).toNat)
        case atStart => exact ⟨0, _, _, by omega, rfl, But.refl _ _ _, by rw [HT3.out]; exact Nat.le_refl _, B3, World.ownsRow_nil _ _ _ _, World.ownsRow_nil _ _ _ _⟩
        case round =>
          obtain ⟨j, cv, kv, hj, rfl, but, hTr3, BK, oc, ok⟩ := hrel
          have BP := B23.but but (by omega) (by omega)
          by_cases hltj : j < n
          · have p0' := BP.cell 0
            have c0 : 0 ≤ (j : Int) / p.W := Int.ediv_nonneg (by omega) (by omega)
            have c2 : (j : Int) / p.W ≤ j := Int.ediv_le_self _ (by omega)
            have b3 := Int.emod_nonneg (j : Int) (show p.W ≠ 0 by omega)
            have b4 := Int.emod_lt_of_pos (j : Int) (show 0 < p.W by omega)
            obtain ⟨x, hx⟩ : ∃ x, (j : Int) % p.W = x := ⟨_, rfl⟩
            obtain ⟨y, hy⟩ : ∃ y, (j : Int) / p.W = y := ⟨_, rfl⟩
            rw [hx] at b3 b4
            rw [hy] at c0 c2
            have f1 : (j : Int).tmod p.W = x := by rw [Int.tmod_eq_emod_of_nonneg (by omega)]; exact hx
            have f2 : (j : Int).tdiv p.W = y := by rw [Int.tdiv_eq_ediv_of_nonneg (by omega)]; exact hy
            have f3 : IntKind.i64.wrap x = x := IntWalk.i64_in _ (by omega)
            have f4 : IntKind.i64.wrap y = y := IntWalk.i64_in _ (by omega)
            have n1 : (p.W == 0) = false := by simp; omega
            have n3 : ¬ p.W = 0 := by omega
            have hPr : PB < wr.heap.size := by omega
            have np1 : PB ≠ wr.heap.size := by omega
            have np2 : wr.heap.size ≠ PB := by omega
            go_upto_region 15 with (fail)
            go_cut [11, 33] from 33 to 60 (fun s11 s33 wx => NewBlk 53 #[.int .i64 x, .int .i64 y, .int .i64 0] wr s11 wx ∧ s33 = .int .i64 j)
            case first =>
              go_region_held3 (fun w' => w'.cell? ⟨PB, 0, none⟩ = some (.int .i64 p.W)) (go_keep) (first | fail)
              all_goals
                go_wp2_with fail
                go_meet
                exact ⟨⟨_, rfl, Nat.le_refl _, (Blk.new _ _ _).drew, ((Ext.refl _).alloc _).drew⟩, rfl⟩
            case rest =>
              clear f1 f2 f3 f4 n1 n3 p0' np1 np2
              have Hx := Lib.hid hx
              have Hy := Lib.hid hy
              clear hx hy
              obtain ⟨⟨g, rfl, hg, BC, E6⟩, rfl⟩ := hcut
              have BK6 := BK.ext E6
              have bk6 := BK6.cell
              have fk6 := BK6.frozen
              have bc6 := BC.cell
              have oc6 := own_ext oc E6
              have ok6 := own_ext ok E6
              have but6 := but.ext E6 hTr3
              have hT6 : T3 ≤ wc.heap.size := Nat.le_trans hTr3 E6.size
              obtain ⟨iC, hi, hz0, hz1', hz2'⟩ := info_parts infoCell
              obtain ⟨iK, ki, kz0, kz1, kz2⟩ := info_parts infoKnob
              have hml : j + 1 ≤ maxLen := by unfold maxLen; omega
              have hml2 : 2 * j + 2 ≤ maxLen := by unfold maxLen; omega
              have Hcs : Hid ((cellRows p (j + 1)).flatten = (cellRows p j).flatten ++ [.int .i64 x, .int .i64 y, .int .i64 0]) := Lib.hid (by rw [cellRows_succ, kcell, Hx.out, Hy.out])
              have Hks : Hid ((knobRows p (j + 1)).flatten = (knobRows p j).flatten ++ [.int .i64 x, .int .i64 y, .int .i64 0, .int .u8 4, .int .u8 1, .int .i64 x, .int .i64 y, .int .i64 0, .int .u8 5, .int .u8 2]) := Lib.hid (by rw [knobRows_succ, kknob, kknob, Hx.out, Hy.out]; rfl)
              have hgK : g ≠ KB := by omega
              go_upto_region 17 with (at_builtin; refine wpList_append_one #[.int .i64 x, .int .i64 y, .int .i64 0] rfl (.tmp 46) (.tmp 48) 71 rfl T3 53 53 iC _ 3 24 Tryz.underlying71 hi hz0 hz1' hz2' rfl (by decide) cv j _ _ rfl oc6 rfl rfl (by simp [Value.oneCell']) hml (by omega) hT6 ?_; intro g7 cap7 w7 own7 hg7; have BK7 := (BK6.alloc (.cells #[.int .i64 x, .int .i64 y, .int .i64 0] 53)).grown hg7 (own_ne oc6 hKT); have bk7 := BK7.cell; have fk7 := BK7.frozen)
              obtain ⟨W8, hW8, BK8, keep8, ext8, hz8⟩ := BK7.store1 0 (.slice (some ⟨g7, 0, none⟩) (j + 1) cap7)
              rw [hW8]
              have BK8 : Blk W8 KB 74 #[.slice (some ⟨g7, 0, none⟩) (j + 1) cap7, kv, .int .i64 n] := BK8
              have BC8 := keep8 _ _ _ hgK ((BC.alloc (.cells #[.int .i64 x, .int .i64 y, .int .i64 0] 53)).grown hg7 (fun e => by have := (oc.lt g e.symm).2; omega))
              have oc8 : W8.ownsRow T3 53 3 (.slice (some ⟨g7, 0, none⟩) (j + 1) cap7) (j + 1) ((cellRows p j).flatten ++ [.int .i64 x, .int .i64 y, .int .i64 0]) := by
                rw [← hW8]
                exact own_setCell own7 hKT _
              have ok8 : W8.ownsRow T3 76 5 kv (2 * j) (knobRows p j).flatten := by
                rw [← hW8]
                exact own_setCell (own_grown (own_ext ok6 (ext_alloc _ _)) hg7 (own_apart (own_ext ok6 (ext_alloc wc (.cells #[.int .i64 x, .int .i64 y, .int .i64 0] 53))) (own_ext oc6 (ext_alloc wc (.cells #[.int .i64 x, .int .i64 y, .int .i64 0] 53))) (by decide))) hKT _
              have hs7 := hg7.size
              have hs6 := (ext_alloc wc (.cells #[.int .i64 x, .int .i64 y, .int .i64 0] 53)).size
              have hT8 : T3 ≤ W8.heap.size := by omega
              have but8 : But KB T3 W3 W8 := by
                rw [← hW8]
                exact ((but6.alloc hT6 _).grown hg7 (by omega) (fun q hq => (oc6.lt q hq).1)).setG _ _
              have bk8 := BK8.cell
              have fk8 := BK8.frozen
              have bc8 := BC8.cell
              clear bk6 fk6 bc6 bk7 fk7 hW8 hz8 hs7 hs6
              go_wp2_with (at_builtin; refine wpList_append_many #[.int .i64 x, .int .i64 y, .int .i64 0, .int .u8 4, .int .u8 1, .int .i64 x, .int .i64 y, .int .i64 0, .int .u8 5, .int .u8 2] 2 (by omega) rfl (.tmp 52) (.tmp 57) 72 rfl T3 76 76 iK _ 5 32 Tryz.underlying72 ki kz0 kz1 kz2 rfl (by decide) kv (2 * j) _ _ rfl ok8 rfl rfl (by simp [Value.oneCell']) hml2 (by omega) hT8 ?_; intro g9 cap9 w9 own9 hg9; have BK9 := (BK8.alloc (.cells #[.int .i64 x, .int .i64 y, .int .i64 0, .int .u8 4, .int .u8 1, .int .i64 x, .int .i64 y, .int .i64 0, .int .u8 5, .int .u8 2] 76)).grown hg9 (own_ne ok8 hKT); have bk9 := BK9.cell; have fk9 := BK9.frozen)
              go_roundw
              case rel =>
                have hs9 := hg9.size
                have hs8 := (ext_alloc W8 (.cells #[.int .i64 x, .int .i64 y, .int .i64 0, .int .u8 4, .int .u8 1, .int .i64 x, .int .i64 y, .int .i64 0, .int .u8 5, .int .u8 2] 76)).size
                have oc9 := own_grown (own_ext oc8 (ext_alloc W8 (.cells #[.int .i64 x, .int .i64 y, .int .i64 0, .int .u8 4, .int .u8 1, .int .i64 x, .int .i64 y, .int .i64 0, .int .u8 5, .int .u8 2] 76))) hg9 (own_apart (own_ext oc8 (ext_alloc W8 (.cells #[.int .i64 x, .int .i64 y, .int .i64 0, .int .u8 4, .int .u8 1, .int .i64 x, .int .i64 y, .int .i64 0, .int .u8 5, .int .u8 2] 76))) (own_ext ok8 (ext_alloc W8 (.cells #[.int .i64 x, .int .i64 y, .int .i64 0, .int .u8 4, .int .u8 1, .int .i64 x, .int .i64 y, .int .i64 0, .int .u8 5, .int .u8 2] 76))) (by decide))
                refine ⟨j + 1, .slice (some ⟨g7, 0, none⟩) (j + 1) cap7, .slice (some ⟨g9, 0, none⟩) (2 * j + 2) cap9, by omega, by go_num, ((but8.alloc hT8 _).grown hg9 (by omega) (fun q hq => (ok8.lt q hq).1)).setG _ _, by rw [set_size]; omega, BK9.set_ 1 _, own_setCell ?_ hKT _, own_setCell ?_ hKT _⟩
                · rw [Hcs.out]
                  exact oc9
                · rw [Hks.out]
                  exact own9
              case measure => simp only [intOf]; omega
          · obtain rfl : j = n := by omega
            obtain ⟨CA, cc, rfl⟩ := own_forms oc
            obtain ⟨KA, kc, rfl⟩ := own_forms ok
            have bk := BK.cell
            have own3 := own_but (own_ext own E23) but (fun q hq => by have := (own.lt q hq).2; have := HPB.out; omega)
            have hTw : T ≤ wr.heap.size := by omega
            have Harea : areaP p = j := by unfold areaP; rw [Hn.out]; rfl
            have HA := Lib.hid Harea
            clear Harea
            obtain ⟨iD, hi, hz0, hz1', hz2'⟩ := info_parts infoKind
            have hml : k + 1 ≤ maxLen := by unfold maxLen; omega
            go_wp2_with (at_builtin; refine wpList_append_one #[.slice CA j cc, .slice KA (2 * j) kc, .int .i64 j] rfl (.tmp 61) (.tmp 63) 37 rfl T 74 74 iD _ 3 56 Tryz.underlying37 hi hz0 hz1' hz2' rfl (by decide) _ k _ _ rfl own3 rfl rfl (by simp [Value.oneCell']) hml (by omega) hTw ?_; intro g7 cap7 w7 own7 hg7)
            go_roundw
            case rel =>
              have hs7 := hg7.size
              have hs6 := (ext_alloc wr (.cells #[.slice CA j cc, .slice KA (2 * j) kc, .int .i64 j] 74)).size
              have own3' := own_ext own3 (ext_alloc wr (.cells #[.slice CA j cc, .slice KA (2 * j) kc, .int .i64 j] 74))
              have hkw : KindOwn wr T [.slice CA j cc, .slice KA (2 * j) kc, .int .i64 j] p := by
                refine ⟨CA, cc, KA, kc, by rw [HA.out, Hn.out], ?_, ?_⟩
                · rw [HA.out]; exact own_base oc (by omega)
                · rw [HA.out]; exact own_base ok (by omega)
              have hk7 : KindOwn w7 T [.slice CA j cc, .slice KA (2 * j) kc, .int .i64 j] p := (hkw.ext (ext_alloc wr (.cells #[.slice CA j cc, .slice KA (2 * j) kc, .int .i64 j] 74))).grown own3' hg7
              have hko7 : KindsOwn w7 T l k rows := ⟨Hko.out.1, fun a r q h1 h2 => by
                obtain ⟨h3, h4⟩ := Hko.out.2 a r q h1 h2
                exact ⟨(((h3.but E23 but (by rw [HPB.out]; omega) hKT).ext (ext_alloc wr (.cells #[.slice CA j cc, .slice KA (2 * j) kc, .int .i64 j] 74))).grown own3' hg7), h4⟩⟩
              refine ⟨k + 1, rows ++ [[.slice CA j cc, .slice KA (2 * j) kc, .int .i64 j]], by omega, by go_num, ?_, by omega, ?_, hko7.snoc Hp.out hk7 rfl, fun a q ha hq => ?_⟩
              · exact ((but.below E03 (by omega) (by omega)).alloc _).grown hg7 (fun q hq => by have := (own3.lt q hq).1; omega)
              · rw [List.flatten_append]
                exact own7
              · rcases Nat.lt_or_ge a k with h | h
                · exact Hsm.out a q h hq
                · obtain rfl : a = k := by omega
                  rw [Hp.out] at hq
                  cases hq
                  rw [Hn.out]
                  omega
            case measure => simp only [intOf]; omega
    · obtain rfl : k = l.length := by omega
      have Htb : Hid (tooBig l = false) := Lib.hid (by
        unfold tooBig
        rw [List.any_eq_false]
        intro p hp
        obtain ⟨i, hi⟩ := List.getElem?_of_mem hp
        have := Hsm.out i p (List.getElem?_eq_some_iff.1 hi).1 hi
        simpa using this)
      obtain ⟨OA, oc, rfl⟩ := own_forms own
      go_wp2_with fail
      go_ret2
      refine ⟨fun _ => ⟨⟨OA, oc, rows, rfl, own_base own hwT, ⟨Hko.out.1, fun a r q h1 h2 => ?_⟩⟩, E⟩, fun h => (by rw [Htb.out] at h; cases h)⟩
      obtain ⟨⟨CA, cc, KA, kc, h3, h5, h6⟩, h4⟩ := Hko.out.2 a r q h1 h2
      exact ⟨⟨CA, cc, KA, kc, h3, own_base h5 hwT, own_base h6 hwT⟩, h4⟩
end Go.Proofs.YtaaeapjnjjbglaaGreatDoor
