/- fits of the reference: whether one more plate can be laid. Worlds in which some blocks have turned; append of one element, and whether it grew. cell: where the full cell with a number is. What a search stands on: its boxes, what is left of the plates, what its two functions say. cells: the iterator over the bits of a set. A range over an iterator that keeps its state in a box of its own; the body of a round only falls through. cells$1: the iterator over the bits of a set that lies in a box. -/
import Derived.Test.YtaaeapjnjjbglaaDoorCm7
import Derived.Deep.CutRange
import Derived.RangeFuncNested
import Derived.RangeFuncBound
import Derived.RangeFuncCalls
import Derived.RangeFuncLeaves
import Derived.Shelf.Abstract
import Derived.Shelf.RegionOpen
import Derived.OwnWalkIn
import Derived.TacticsInMore
import Derived.LoopNIn
import Derived.LoopIn

namespace Go.Proofs.YtaaeapjnjjbglaaDoor
open Go.RowKit

/-- No laid plate has a cell of the first v rows, or of the first u of the row v. -/
def clearTo (l : List Plate) (c : List Laid) (x : Laid) (v u : Nat) : Bool := ((List.range v).all fun i => (List.range (sizeW l x).toNat).all fun j => decide (byI l c (x.x + j) (x.y + i) x.z = -1)) && (List.range u).all fun j => decide (byI l c (x.x + j) (x.y + v) x.z = -1)
def fitsB (s : Shape) (l : List Plate) (c : List Laid) (x : Laid) : Bool := liesB s l x && (clearTo l c x (sizeD l x).toNat 0 && decide ((usedN c c.length x.plate : Int) < (plateAt l x.plate.toNat).N))
theorem clearTo_next (l : List Plate) (c : List Laid) (x : Laid) (v u : Nat) : clearTo l c x v (u + 1) = (clearTo l c x v u && decide (byI l c (x.x + u) (x.y + v) x.z = -1)) := by
  unfold clearTo
  rw [List.range_succ, List.all_append, Bool.and_assoc]
  simp
theorem clearTo_row (l : List Plate) (c : List Laid) (x : Laid) (v : Nat) : clearTo l c x (v + 1) 0 = clearTo l c x v (sizeW l x).toNat := by
  unfold clearTo
  rw [List.range_succ, List.all_append]
  simp
theorem clearTo_bad {l : List Plate} {c : List Laid} {x : Laid} {v u : Nat} (hv : v < (sizeD l x).toNat) (hu : u < (sizeW l x).toNat) (h : byI l c (x.x + u) (x.y + v) x.z ≠ -1) : clearTo l c x (sizeD l x).toNat 0 = false := by
  cases hh : clearTo l c x (sizeD l x).toNat 0
  · rfl
  · unfold clearTo at hh
    rw [Bool.and_eq_true, List.all_eq_true] at hh
    have := hh.1 v (List.mem_range.2 hv)
    rw [List.all_eq_true] at this
    have := this u (List.mem_range.2 hu)
    rw [decide_eq_true_eq] at this
    exact absurd this h
set_option maxRecDepth 100000 in
set_option maxHeartbeats 8000000 in
theorem fits_c (s : Shape) (A : Option Addr) (cap : Nat) (l : List Plate) (PA : Option Addr) (pcap : Nat) (c : List Laid) (CA : Option Addr) (ccap : Nat) (x : Laid) (ok : s.Ok) (okl : platesB l = true) (hc : ∀ (k : Nat) (a : Laid), c[k]? = some a → a.Ok l) (hlen : c.length ≤ 1000) (w : World)
    (hs : Bytes w A cap s.cells) (hl : Plates w PA pcap l) (hcs : Laids w CA ccap c) :
    Calls Tryd.prog 77 #[.agg #[.int .i64 s.W, .int .i64 s.D, .int .i64 s.H, .slice A s.cells.length cap], .slice PA l.length pcap, .slice CA c.length ccap, .agg #[.int .i64 x.plate, .int .i64 x.x, .int .i64 x.y, .int .i64 x.z, .bool x.turned]] w fun e w' =>
      e = .returned (.bool (fitsB s l c x)) ∧ Ext w w' := by
  obtain ⟨W1, hW1, E1, B1, hz1⟩ := box_ w #[.int .i64 s.W, .int .i64 s.D, .int .i64 s.H, .slice A s.cells.length cap] 24
  obtain ⟨W2, hW2, E2, B2, hz2⟩ := box_ W1 #[.int .i64 x.plate, .int .i64 x.x, .int .i64 x.y, .int .i64 x.z, .bool x.turned] 64
  rw [hz1] at B2
  have B1 := B1.ext E2
  have b1 := B1.cell
  have b2 := B2.cell
  have E12 := E1.trans E2
  have Hc := Lib.hid hc
  clear hc hz2
  obtain ⟨lv, hlv⟩ : ∃ lv, liesB s l x = lv := ⟨_, rfl⟩
  have Hlv := Lib.hid hlv
  clear hlv
  go_enter Tryd.func77, Tryd.ntmps77
  go_wp2_with fail
  clear hW1 hW2 hz1
  refine (lies_is Hlv.out ok okl _ (hs.ext E12) (hl.ext E12)).mono ?_
  rintro e W3 ⟨rfl, E3⟩
  cases lv
  · have Hr : Hid (fitsB s l c x = false) := Lib.hid (by unfold fitsB; rw [Hlv.out]; rfl)
    go_wp2_with fail
    go_ret
    exact ⟨by rw [Hr.out] <;> rfl, E12.trans E3⟩
  · have hok := laid_ok ok Hlv.out
    obtain ⟨hp1, hp2⟩ := hok.p
    have hx := hok.x
    have hy := hok.y
    have hz := hok.z
    clear hok
    obtain ⟨pb, poff, p, rfl, hpl, hpb, p0, p1, p2, p3⟩ := hl.at_ (k := x.plate.toNat) (by omega)
    have okp := (plate_ok okl hpl).n
    have hpa := plateAt_eq hpl
    have sw : 1 ≤ sizeW l x ∧ sizeW l x ≤ 8 ∧ 1 ≤ sizeD l x ∧ sizeD l x ≤ 8 := by
      have h1 := (plate_ok okl hpl).w
      have h2 := (plate_ok okl hpl).d
      unfold sizeW sizeD
      rw [hpa]
      split <;> omega
    obtain ⟨w1, w2, d1, d2⟩ := sw
    have Hp := Lib.hid hpa
    clear hpl hpa
    have hpt : ((x.plate.toNat : Nat) : Int) = x.plate := by omega
    replace E12 := E12.trans E3
    replace B1 := B1.ext E3
    replace B2 := B2.ext E3
    clear E1 E2 E3 b1 b2
    obtain ⟨S, hS⟩ : ∃ S, w.heap.size = S := ⟨_, rfl⟩
    rw [hS] at B1 B2 ⊢
    have HS := Lib.hid hS
    clear hS
    go_upto_region 5 with (fail)
    go_loopw [9, 10] (fun u i wr => ∃ k : Nat, k ≤ c.length ∧ i = .int .i64 k ∧ u = .int .i64 (usedN c k x.plate) ∧ Ext w wr ∧ Blk wr S 24 #[.int .i64 s.W, .int .i64 s.D, .int .i64 s.H, .slice A s.cells.length cap] ∧
        Blk wr (S + 1) 64 #[.int .i64 x.plate, .int .i64 x.x, .int .i64 x.y, .int .i64 x.z, .bool x.turned]) (fun _ i _ => c.length - (intOf i).toNat)
    case atStart => exact ⟨0, by omega, rfl, rfl, E12, B1, B2⟩
    case round =>
      obtain ⟨k, hk, rfl, rfl, E, BS, BX⟩ := hrel
      clear B1 B2 E12
      have hun : usedN c k x.plate ≤ 1000 := by have := usedN_le c k x.plate; omega
      by_cases hlt : k < c.length
      · obtain ⟨b, off, a, rfl, ha, hb, a0, a1, a2, a3, a4⟩ := hcs.at_ hlt
        obtain ⟨q0, q1, q2, q3, q4⟩ := E.five a0 a1 a2 a3 a4
        have hsucc := usedN_succ ha x.plate
        have bx := BX.cell
        clear ha
        have i1 : (0 : Int) ≤ k := by omega
        have i2 : (k : Int) < c.length := by omega
        go_upto_region 7 with (fail)
        refine wp_region_grow (by kernel_rfl) (by kernel_rfl) ?_
        repeat (go_big_quiet_step (fail))
        refine wpQuiet_nil ?_
        intro W9 hW9
        have E9 : Ext wr W9 := by
          obtain ⟨x, rfl⟩ := hW9
          exact (Ext.refl _).grow x
        clear hW9
        obtain ⟨hcW9, hfW9, hzW9⟩ := ext_facts E9
        replace E := E.trans E9
        replace BS := BS.ext E9
        replace BX := BX.ext E9
        clear hcW9 hfW9 hzW9 E9 q0 q1 q2 q3 q4 bx a0 a1 a2 a3 a4
        by_cases hpp : a.plate = x.plate
        · have hpb : (a.plate == x.plate) = true := by simpa using hpp
          rw [if_pos hpp] at hsucc
          have Hsucc := Lib.hid hsucc
          clear hpp hsucc
          go_wp2_with fail
          go_roundw
          case rel => exact ⟨k + 1, by omega, by go_num, by rw [Hsucc.out] <;> go_num, E, BS, BX⟩
          case measure => simp only [intOf]; omega
        · have hpb : (a.plate == x.plate) = false := by simpa using hpp
          rw [if_neg hpp] at hsucc
          have Hsucc := Lib.hid hsucc
          clear hpp hsucc
          go_wp2_with fail
          go_roundw
          case rel => exact ⟨k + 1, by omega, by go_num, by rw [Hsucc.out] <;> rfl, E, BS, BX⟩
          case measure => simp only [intOf]; omega
      · obtain rfl : k = c.length := by omega
        clear hk
        have bx := BX.cell
        obtain ⟨used, hused⟩ : ∃ used, usedN c c.length x.plate = used := ⟨_, rfl⟩
        rw [hused] at hun ⊢
        have Hused := Lib.hid hused
        clear hused
        go_wp2_with fail
        refine (size_c _ pcap l x ⟨hp1, hp2⟩ _ (hl.ext E)).mono ?_
        rintro e W4 ⟨rfl, E4⟩
        obtain ⟨sw, hsw⟩ : ∃ sw, sizeW l x = sw := ⟨_, rfl⟩
        obtain ⟨sd, hsd⟩ : ∃ sd, sizeD l x = sd := ⟨_, rfl⟩
        rw [hsw] at w1 w2 ⊢
        rw [hsd] at d1 d2 ⊢
        have Hsw := Lib.hid hsw
        have Hsd := Lib.hid hsd
        clear hsw hsd
        replace E := E.trans E4
        replace BX := BX.ext E4
        clear BS bx E4
        have bx := BX.cell
        go_upto_region 11 with (fail)
        go_loopw [13] (fun v wr => ∃ i : Nat, (i : Int) ≤ sd ∧ v = .int .i64 (x.y + i) ∧ Ext w wr ∧ Blk wr (S + 1) 64 #[.int .i64 x.plate, .int .i64 x.x, .int .i64 x.y, .int .i64 x.z, .bool x.turned] ∧ clearTo l c x i 0 = true) (fun v _ => (x.y + sd - intOf v).toNat)
        case atStart => exact ⟨0, by omega, by simp, E, BX, rfl⟩
        case round =>
          clear E BX bx
          obtain ⟨i, hi, rfl, E, BX, hcl⟩ := hrel
          have bx := BX.cell
          have Hcl := Lib.hid hcl
          clear hcl
          by_cases hil : (i : Int) < sd
          · have hlt2 : x.y + i < x.y + sd := by omega
            go_upto_region 14 with (fail)
            obtain ⟨wo, hwo⟩ : ∃ wo : World, wo = wr := ⟨_, rfl⟩
            rw [← hwo]
            go_loopw [14] (fun u w' => ∃ j : Nat, (j : Int) ≤ sw ∧ u = .int .i64 (x.x + j) ∧ Ext wo w' ∧ clearTo l c x i j = true) (fun u _ => (x.x + sw - intOf u).toNat)
            case atStart => exact ⟨0, by omega, by simp, Ext.refl _, Hcl.out⟩
            case round =>
              subst hwo
              obtain ⟨j, hj, rfl, E5, hcj⟩ := hrel
              have BX' := BX.ext E5
              clear bx
              have bx := BX'.cell
              have Hcj := Lib.hid hcj
              clear hcj
              by_cases hjl : (j : Int) < sw
              · have hlt3 : x.x + j < x.x + sw := by omega
                obtain ⟨r, hr⟩ : ∃ r, byI l c (x.x + j) (x.y + i) x.z = r := ⟨_, rfl⟩
                by_cases hr1 : r = -1
                · have hd : (r != -1) = false := by simpa using hr1
                  have Hnext : Hid (clearTo l c x i (j + 1) = true) := Lib.hid (by rw [clearTo_next, Hcj.out, hr, decide_eq_true hr1]; rfl)
                  have Hr := Lib.hid hr
                  clear hr hr1
                  go_wp2_with fail
                  refine (by_is Hr.out okl Hc.out hlen _ (hl.ext (E.trans E5)) (hcs.ext (E.trans E5))).mono ?_
                  rintro e W6 ⟨rfl, E6⟩
                  go_wp2_with fail
                  go_roundw
                  case rel => exact ⟨j + 1, by omega, by push_cast; rw [Int.add_assoc] <;> rfl, E5.trans E6, Hnext.out⟩
                  case measure => simp only [intOf]; omega
                · have hd : (r != -1) = true := by simpa using hr1
                  have Hbad : Hid (fitsB s l c x = false) := Lib.hid (by
                    have := clearTo_bad (l := l) (c := c) (x := x) (v := i) (u := j) (by rw [Hsd.out]; omega) (by rw [Hsw.out]; omega) (by rw [hr]; exact hr1)
                    unfold fitsB
                    rw [this, Bool.false_and, Bool.and_false])
                  have Hr := Lib.hid hr
                  clear hr hr1
                  go_wp2_with fail
                  refine (by_is Hr.out okl Hc.out hlen _ (hl.ext (E.trans E5)) (hcs.ext (E.trans E5))).mono ?_
                  rintro e W6 ⟨rfl, E6⟩
                  go_wp2_with fail
                  go_ret
                  exact ⟨by rw [Hbad.out] <;> rfl, (E.trans E5).trans E6⟩
              · have hjs : (j : Int) = sw := by omega
                have Hnext : Hid (clearTo l c x (i + 1) 0 = true) := Lib.hid (by
                  rw [clearTo_row, Hsw.out, show sw.toNat = j by omega]
                  exact Hcj.out)
                have hge : ¬ (x.x + j < x.x + sw) := by omega
                go_wp2_with fail
                go_roundw
                case rel => exact ⟨i + 1, by omega, by push_cast; rw [Int.add_assoc] <;> rfl, E.trans E5, BX', Hnext.out⟩
                case measure => simp only [intOf]; omega
          · have hge : ¬ (x.y + i < x.y + sd) := by omega
            have Hfin : Hid (fitsB s l c x = decide ((used : Int) < p.N)) := Lib.hid (by
              unfold fitsB
              rw [Hlv.out, Hsd.out, show sd.toNat = i by omega, Hcl.out, Hused.out, Hp.out]
              rfl)
            have n2 := E.cell p2
            go_wp2_with fail
            go_ret
            exact ⟨by rw [Hfin.out] <;> rfl, E⟩
end Go.Proofs.YtaaeapjnjjbglaaDoor

namespace Go.Proofs.YtaaeapjnjjbglaaDoor
open Go.RowKit

/-- Of what was there in w, at most the blocks of K have turned in w'. -/
structure Only (K : Nat → Prop) (w w' : World) : Prop where
  os : w'.os = w.os
  tape : w'.tape = w.tape
  output : w'.output = w.output
  size : w.heap.size ≤ w'.heap.size
  block : ∀ k, k < w.heap.size → ¬ K k → w'.heap[k]? = w.heap[k]?
theorem Only.refl (K : Nat → Prop) (w : World) : Only K w w := ⟨rfl, rfl, rfl, Nat.le_refl _, fun _ _ _ => rfl⟩
theorem Only.trans {K K' : Nat → Prop} {a b c : World} (h : Only K a b) (k : Only K' b c) (hk : ∀ i, i < a.heap.size → K' i → K i) : Only K a c :=
  ⟨k.os.trans h.os, k.tape.trans h.tape, k.output.trans h.output, Nat.le_trans h.size k.size, fun i hi hK =>
    (k.block i (Nat.lt_of_lt_of_le hi h.size) (fun e => hK (hk i hi e))).trans (h.block i hi hK)⟩
theorem Only.mono {K K' : Nat → Prop} {a b : World} (h : Only K a b) (hk : ∀ i, i < a.heap.size → K i → K' i) : Only K' a b :=
  ⟨h.os, h.tape, h.output, h.size, fun i hi hK => h.block i hi (fun e => hK (hk i hi e))⟩
theorem Only.of_ext (K : Nat → Prop) {a b : World} (h : Ext a b) : Only K a b := ⟨h.1, h.2, h.3, h.size, fun k hk _ => h.block k hk⟩
theorem Only.ext {K : Nat → Prop} {a b c : World} (h : Only K a b) (k : Ext b c) : Only K a c := h.trans (Only.of_ext (fun _ => False) k) (fun _ _ e => e.elim)
theorem Only.alloc {K : Nat → Prop} {a b : World} (h : Only K a b) (o : Obj) : Only K a (b.alloc o) := h.ext ((Ext.refl b).alloc o)
theorem Only.of_grown {K : Nat → Prop} {a b : World} {row : Option Nat} (h : a.grownBy b row) (hk : ∀ r, row = some r → K r) : Only K a b :=
  ⟨h.os, h.tape, h.output, h.size, fun k hk' hK => h.block k hk' (fun e => hK (hk k e.symm))⟩
theorem Only.grown {K : Nat → Prop} {a b c : World} {row : Option Nat} (h : Only K a b) (g : b.grownBy c row) (hk : ∀ r, row = some r → r < a.heap.size → K r) : Only K a c :=
  h.trans (Only.of_grown (K := fun r => row = some r) g (fun _ e => e)) (fun i hi e => hk i e hi)
theorem Only.setCell {K : Nat → Prop} {a b : World} (h : Only K a b) {p : Addr} (hp : p.block < a.heap.size → K p.block) (u : Value) : Only K a (b.setCell p u) :=
  ⟨h.os, h.tape, h.output, by rw [show (b.setCell p u).heap.size = b.heap.size by simp [World.setCell]]; exact h.size, fun k hk hK => by
    have hne : k ≠ p.block := fun e => hK (by rw [e]; exact hp (by rw [← e]; exact hk))
    rw [Below.heap_setCell _ _ _ _ hne]
    exact h.block k hk hK⟩
theorem Only.below {K : Nat → Prop} {t a b : World} (h0 : Ext t a) (h : Only K a b) (hk : ∀ k, K k → t.heap.size ≤ k) : Ext t b :=
  ⟨h.os.trans h0.1, h.tape.trans h0.2, h.output.trans h0.3, Nat.le_trans h0.size h.size, fun k hk' =>
    (h.block k (Nat.lt_of_lt_of_le hk' h0.size) (fun e => by have := hk k e; omega)).trans (h0.block k hk')⟩
theorem Only.ext_of {K : Nat → Prop} {a b : World} (h : Only K a b) (hk : ∀ k, k < a.heap.size → ¬ K k) : Ext a b :=
  ⟨h.os, h.tape, h.output, h.size, fun k hk' => h.block k hk' (hk k hk')⟩
theorem Blk.only {K : Nat → Prop} {a b : World} {g : Nat} {t : TypeId} {cs : Array Value} (h : Blk a g t cs) (k : Only K a b) (hg : ¬ K g) : Blk b g t cs := (k.block g h.lt hg).trans h
theorem own_only {K : Nat → Prop} {a b : World} {base : Nat} {e : TypeId} {size : Nat} {v : Value} {n : Nat} {xs : List Value} (h : a.ownsRow base e size v n xs) (k : Only K a b) (hv : ∀ r, v.ownBlock = some r → ¬ K r) : b.ownsRow base e size v n xs := by
  obtain ⟨h1, h2⟩ := h
  refine ⟨h1, ?_⟩
  rcases h2 with h2 | ⟨g, cap, cur, hv', hg, hh, r⟩
  · exact Or.inl h2
  · refine Or.inr ⟨g, cap, cur, hv', hg, ?_, r⟩
    rw [k.block g (Array.getElem?_eq_some_iff.1 hh).1 (hv g (by rw [hv']; rfl))]
    exact hh
theorem SliceIs.only {K : Nat → Prop} {a b : World} {A : Option Addr} {n cap sz : Nat} {rows : List (List Value)} (h : SliceIs a A n cap sz rows) (k : Only K a b) (hA : ∀ q, A = some q → ¬ K q.block) : SliceIs b A n cap sz rows := by
  obtain ⟨h1, h2, h3, h4, h5⟩ := h
  refine ⟨h1, h2, h3, h4, fun hn => ?_⟩
  obtain ⟨g, off, rfl, hb, hc⟩ := h5 hn
  refine ⟨g, off, rfl, Nat.lt_of_lt_of_le hb k.size, fun i r hr j u hu => ?_⟩
  have := hc i r hr j u hu
  rw [← this]
  exact World.cell?_of_block (k.block g hb (hA _ rfl))

/-- The row's block is of the row's type. -/
theorem own_typed {w : World} {base : Nat} {e : TypeId} {size : Nat} {v : Value} {n : Nat} {xs : List Value} (h : w.ownsRow base e size v n xs) {r : Nat} (hr : v.ownBlock = some r) : ∃ cs, Blk w r e cs := by
  rcases h.2 with ⟨rfl, _⟩ | ⟨g, cap, cur, rfl, hg, hh, _⟩
  · cases hr
  · cases hr
    exact ⟨cur, hh⟩
theorem Blk.types {w : World} {g : Nat} {t t' : TypeId} {cs cs' : Array Value} (h : Blk w g t cs) (h' : Blk w g t' cs') : t = t' := by
  have := h.symm.trans h'
  cases this
  rfl
/-- A beginning of an owned row is owned. -/
theorem own_prefix {w : World} {base : Nat} {e : TypeId} {size g n m cap : Nat} {xs ys : List Value} (h : w.ownsRow base e size (.slice (some ⟨g, 0, none⟩) (n + m) cap) (n + m) (xs ++ ys)) (hl : xs.length = n * size) :
    w.ownsRow base e size (.slice (some ⟨g, 0, none⟩) n cap) n xs := by
  refine ⟨hl, Or.inr ?_⟩
  rcases h.2 with ⟨h0, _⟩ | ⟨g', cap', cur, hv, hg, hh, h1, h2, h3, h4⟩
  · cases h0
  · cases hv
    refine ⟨g, cap, cur, rfl, hg, hh, by omega, h2, h3, ?_⟩
    have := congrArg (List.take (n * size)) h4
    rw [List.take_take, List.take_left' hl] at this
    rw [← this]
    congr 1
    have : n * size ≤ (n + m) * size := Nat.mul_le_mul_right _ (by omega)
    omega

/-- What became of a row by an append: it is longer in its own block, or it lies in a new one. -/
def Fate (W w' : World) (base : Nat) (e : TypeId) (size : Nat) (v v' : Value) (n : Nat) (xs news : List Value) : Prop :=
  w'.ownsRow base e size v' (n + 1) (xs ++ news) ∧ ∃ g cap, v' = .slice (some ⟨g, 0, none⟩) (n + 1) cap ∧ ((v = .slice (some ⟨g, 0, none⟩) n cap ∧ W.grownBy w' (some g)) ∨ (W.heap.size ≤ g ∧ W.grownBy w' none))
section
variable {P : Program}
theorem run_append_fate (w : World) (base : Nat) (t ty e : TypeId) (i : TypeInfo) (z : Value) (size bytes : Nat) (ht : P.underlying t = some (.slice e)) (hi : P.info? e = some i) (hz : i.zero = some z)
    (hsize : i.size = size) (hby : i.bytes = bytes) (hzs : z.cells.size = size) (hsz : 0 < size)
    (v : Value) (n : Nat) (xs : List Value) (hown : w.ownsRow base e size v n xs)
    (g c : Nat) (news : List Value) (hl : news.length = size) (hnews : ∀ j, w.cell? ⟨g, j, none⟩ = news[j]?) (h1 : ∀ u ∈ news, u.oneCell' = true)
    (h63 : n + 1 ≤ maxLen) (hbytes : (n + 1) * bytes ≤ 140737488355328) (hbase : base ≤ w.heap.size) :
    ∃ v' w', (Builtin.append_ #[t, t] ty #[v, .slice (some ⟨g, 0, none⟩) 1 c]).run P w = .ok v' w' ∧ Fate w w' base e size v v' n xs news := by
  have hl' : news.length = 1 * size := by omega
  have hn' : ∀ j u, news[j]? = some u → w.cell? ((⟨g, 0, none⟩ : Addr).add j) = some u := fun j u hu => by rw [add_zero_addr, hnews j]; exact hu
  obtain ⟨v', w', hr, h2, h3, h4⟩ := run_append_own (P := P) w base t ty e i z size bytes ht hi hz hsize hby hzs hsz v n xs hown ⟨g, 0, none⟩ 1 c news hl' hn' h1 h63 hbytes hbase
  refine ⟨v', w', hr, h2, ?_⟩
  rcases hown.2 with ⟨rfl, rfl⟩ | ⟨b, cap, cur, rfl, hbg, hg, hnc, hcm, hcs, htake⟩
  · have hx : xs = [] := List.eq_nil_of_length_eq_zero (by simpa using hown.1)
    subst hx
    obtain ⟨v2, w2, hr2, h5, h6, _⟩ := run_append_own (P := P) w w.heap.size t ty e i z size bytes ht hi hz hsize hby hzs hsz (.slice none 0 0) 0 [] (World.ownsRow_nil w _ e size) ⟨g, 0, none⟩ 1 c news hl' hn' h1 h63 hbytes (Nat.le_refl _)
    rw [hr] at hr2
    cases hr2
    obtain ⟨b, cap, rfl⟩ := own_form h5 (by omega)
    exact ⟨b, cap, rfl, Or.inr ⟨(h5.lt b rfl).1, h6⟩⟩
  · by_cases hroom : n + 1 ≤ cap
    · have hr2 := run_append_room (P := P) w t ty e i ht hi b n cap cur hg ⟨g, 0, none⟩ 1 c news (by rw [hsize]; exact hl') hn' h1 hroom (by rw [hsize, hl', hcs, ← Nat.add_mul]; exact Nat.mul_le_mul_right _ hroom)
      rw [hr] at hr2
      injection hr2 with e1 e2
      exact ⟨b, cap, e1, Or.inl ⟨rfl, h3⟩⟩
    · have hx : ∀ j u, xs[j]? = some u → w.cell? ((⟨b, 0, none⟩ : Addr).add j) = some u := hown.cells (g := b) rfl
      obtain ⟨v2, w2, hr2, h5, h6⟩ := run_append_arg_grows (P := P) w t ty e i z size bytes ht hi hz hsize hby hzs hsz ⟨b, 0, none⟩ n cap xs hown.1 hx ⟨g, 0, none⟩ 1 c news hl' hn' (by omega) h63 hbytes
      rw [hr] at hr2
      cases hr2
      obtain ⟨b2, cap2, rfl⟩ := own_form h5 (by omega)
      exact ⟨b2, cap2, rfl, Or.inr ⟨(h5.lt b2 rfl).1, h6⟩⟩
/-- The same as a step of a region. -/
theorem step_append_fate {w : World} {ops : Array Oper} {o : Oper} {a : Act} {K : Act → World → Prop} {Q : Exit → Act → World → Prop} {F : Prop} (hgd : o.guard = none) (s x : Operand) (t : TypeId) (ho : o.op = .call { callee := .builtin .append, args := #[s, x], argTypes := #[t, t] })
    (base : Nat) (e : TypeId) (i : TypeInfo) (z : Value) (size bytes : Nat) (ht : P.underlying t = some (.slice e)) (hi : P.info? e = some i) (hz : i.zero = some z)
    (hsize : i.size = size) (hby : i.bytes = bytes) (hzs : z.cells.size = size) (hsz : 0 < size)
    (v : Value) (n : Nat) (xs : List Value) (hs : a.eval s = v) (hown : w.ownsRow base e size v n xs)
    (g c : Nat) (news : List Value) (hx : a.eval x = .slice (some ⟨g, 0, none⟩) 1 c) (hl : news.length = size) (hnews : ∀ j, w.cell? ⟨g, j, none⟩ = news[j]?) (h1 : ∀ u ∈ news, u.oneCell' = true)
    (h63 : n + 1 ≤ maxLen) (hbytes : (n + 1) * bytes ≤ 140737488355328) (hbase : base ≤ w.heap.size)
    (h : ∀ v' w', Fate w w' base e size v v' n xs news → K (a.put o.dst v') w') : if Region.wanted o (yielded ops a.tmps) = true then o.wp P a w K Q else F := by
  rw [if_pos (by simp [Region.wanted, hgd])]
  obtain ⟨v', w', hr, hf⟩ := run_append_fate (P := P) w base t o.type e i z size bytes ht hi hz hsize hby hzs hsz v n xs hown g c news hl hnews h1 h63 hbytes hbase
  unfold Oper.wp execOp
  simp only [ho, resolve, invoke, builtin, Sem.run_bind, Sem.run_pure, Result.andThen_ok, List.map_toArray, List.map_cons, List.map_nil, hs, hx, hr]
  exact h v' w' hf
end
end Go.Proofs.YtaaeapjnjjbglaaDoor

namespace Go.Proofs.YtaaeapjnjjbglaaDoor
open Go.RowKit

set_option maxHeartbeats 1000000 in
theorem indexInt_c (A : Option Addr) (cap : Nat) (xs : List Int) (v : Int) (i : Nat) (hi : xs[i]? = some v) (hno : ∀ j, j < i → xs[j]? ≠ some v) (w : World) (hs : Ints w A cap xs) :
    Calls Tryd.prog 99 #[.slice A xs.length cap, .int .i64 v] w fun e w' => e = .returned (.int .i64 (i : Int)) ∧ w = w' := by
  have hl := hs.len
  unfold maxLen at hl
  have hil : i < xs.length := (List.getElem?_eq_some_iff.1 hi).1
  have Hi := Lib.hid hi
  have Hno := Lib.hid hno
  clear hi hno
  go_enter Tryd.func99, Tryd.ntmps99
  go_wp2
  go_loop [8] (fun iv => ∃ k : Nat, k ≤ i ∧ iv = .int .i64 k) (fun iv => i + 1 - (intOf iv).toNat)
  case atStart => exact ⟨0, by omega, rfl⟩
  case round =>
    obtain ⟨k, hk, rfl⟩ := hrel
    have hkl : k < xs.length := by omega
    obtain ⟨b, off, rfl, hb, hc⟩ := hs.at_ (List.getElem?_eq_getElem hkl)
    obtain ⟨u, hu⟩ : ∃ u, xs[k] = u := ⟨_, rfl⟩
    rw [hu] at hc
    by_cases he : k = i
    · subst he
      have hv : u = v := by
        have := Hi.out
        rw [List.getElem?_eq_getElem hkl, hu] at this
        exact Option.some.inj this
      subst hv
      clear hu
      go_wp2
      go_ret
      exact ⟨rfl, rfl⟩
    · have hne : (v == u) = false := by
        have h1 := Hno.out k (by omega)
        rw [List.getElem?_eq_getElem hkl, hu] at h1
        simp
        exact fun e => h1 (by rw [e])
      clear hu
      go_wp2
      go_round
      case rel => exact ⟨k + 1, by omega, by go_num⟩
      case measure => simp only [intOf]; omega

set_option maxRecDepth 100000 in
set_option maxHeartbeats 4000000 in
theorem cell_c (g : Nat) (s : Shape) (A : Option Addr) (cap : Nat) (NA : Option Addr) (ncap : Nat) (ok : s.Ok) (n : Nat) (hn : n < fullN s.cells) (w : World) (hB : Base w g s A cap NA ncap) :
    Calls Tryd.prog 67 #[.pointer (some ⟨g, 0, none⟩), .int .i64 (n : Int)] w fun e w' => e = .returned (.agg #[.int .i64 (s.px (placeN s n)), .int .i64 (s.py (placeN s n)), .int .i64 (s.pz (placeN s n))]) ∧ Ext w w' := by
  obtain ⟨h1, h2, h3, _⟩ := place_num ok hn
  obtain ⟨k, hk⟩ : ∃ k, placeN s n = k := ⟨_, rfl⟩
  rw [hk] at h1 h2 ⊢
  obtain ⟨px, hpx⟩ : ∃ px, s.px k = px := ⟨_, rfl⟩
  obtain ⟨py, hpy⟩ : ∃ py, s.py k = py := ⟨_, rfl⟩
  obtain ⟨pz, hpz⟩ : ∃ pz, s.pz k = pz := ⟨_, rfl⟩
  rw [hpx, hpy, hpz]
  have hget : (numsOf s.cells)[k]? = some (n : Int) := by rw [numsOf_get h1, h2]
  have hno : ∀ j, j < k → (numsOf s.cells)[j]? ≠ some (n : Int) := fun j hj e => by
    rw [numsOf_get (by omega)] at e
    have e := Option.some.inj e
    have := numOf_inj (by omega) (e.trans h2.symm)
    omega
  have hidx := fun W (E : Ext w W) => indexInt_c NA ncap (numsOf s.cells) n k hget hno W (hB.nums.ext E)
  rw [numsOf_len] at hidx
  have Hidx := Lib.hid hidx
  have hlen := s.len_le ok
  have w1 := ok.w
  have d1 := ok.d
  obtain ⟨w1, w2⟩ := w1
  obtain ⟨d1, d2⟩ := d1
  have b3 := Int.emod_nonneg (k : Int) (show s.W ≠ 0 by omega)
  have b4 := Int.emod_lt_of_pos (k : Int) (show 0 < s.W by omega)
  have c0 : 0 ≤ (k : Int) / s.W := Int.ediv_nonneg (by omega) (by omega)
  have c2 : (k : Int) / s.W ≤ k := Int.ediv_le_self _ (by omega)
  have e1 : (k : Int).tmod s.W = px := by rw [← hpx]; exact Int.tmod_eq_emod_of_nonneg (by omega)
  have e2 : (k : Int).tdiv s.W = (k : Int) / s.W := Int.tdiv_eq_ediv_of_nonneg (by omega)
  have f1 : (k : Int) % s.W = px := hpx
  have f2 : (k : Int) / s.W % s.D = py := hpy
  have f3 : (k : Int) / s.W / s.D = pz := hpz
  obtain ⟨q, hq⟩ : ∃ q, (k : Int) / s.W = q := ⟨_, rfl⟩
  rw [hq] at c0 c2 e2 f2 f3
  have b5 := Int.emod_nonneg q (show s.D ≠ 0 by omega)
  have b6 := Int.emod_lt_of_pos q (show 0 < s.D by omega)
  have c1 : 0 ≤ q / s.D := Int.ediv_nonneg c0 (by omega)
  have c3 : q / s.D ≤ q := Int.ediv_le_self _ c0
  have e3 : q.tmod s.D = py := by rw [← f2]; exact Int.tmod_eq_emod_of_nonneg c0
  have e4 : q.tdiv s.D = pz := by rw [← f3]; exact Int.tdiv_eq_ediv_of_nonneg c0
  rw [f1] at b3 b4
  rw [f2] at b5 b6
  rw [f3] at c1 c3
  have g1 : wrap64 q = q := by unfold wrap64; omega
  have g2 : wrap64 pz = pz := by unfold wrap64; omega
  clear h1 h2 h3 hk hget hno hidx hpx hpy hpz
  obtain ⟨W1, hW1, E1, B1, hz1⟩ := box_ w #[.int .i64 0, .int .i64 0, .int .i64 0] 56
  have base := hB.ext E1
  have a0 := base.c0
  have a1 := base.c1
  have a5 := base.c5
  go_enter Tryd.func67, Tryd.ntmps67
  go_wp2_with fail
  refine (Hidx.out _ E1).mono ?_
  rintro e w2 ⟨rfl, rfl⟩
  go_wp2_with fail
  refine wp_region_tail 34 (by kernel_rfl) (by kernel_rfl) ?_
  simp only [List.take_succ_cons, List.take_zero, List.drop_succ_cons, List.drop_zero]
  repeat (go_big_quiet_step (fail))
  refine wpQuiet_nil ?_
  intro W10 hW10
  have E10 : Ext W1 W10 := by
    obtain ⟨x, rfl⟩ := hW10
    exact (Ext.refl _).grow x
  clear hW10
  obtain ⟨hcW10, hfW10, hzW10⟩ := ext_facts E10
  have B10 := B1.ext E10
  have b10 := B10.cell
  have f10 := B10.frozen
  go_wp2_with fail
  have hW3 := ((B10.set_ 0 (.int .i64 px)).set_ 1 (.int .i64 py)).set_ 2 (.int .i64 pz)
  have c10 := hW3.cell
  refine bodyPost_ret (v := .agg #[.int .i64 px, .int .i64 py, .int .i64 pz]) (by simp [results, Tryd.results67, go_sem, c10]) rfl ⟨rfl, ?_⟩
  exact (((E1.trans E10).setCell (Nat.le_refl _) _).setCell (Nat.le_refl _) _).setCell (Nat.le_refl _) _
end Go.Proofs.YtaaeapjnjjbglaaDoor

namespace Go.Proofs.YtaaeapjnjjbglaaDoor
open Go.RowKit

/-- The boxes of a search: of the function 'long', the board, the function 'see', what is left, the slice of that, the search itself. -/
structure Spots where
  L : Nat
  Bd : Nat
  Se : Nat
  La : Nat
  Lf : Nat
  Gr : Nat
def Spots.has (k : Spots) (r : Nat) : Prop := r = k.L ∨ r = k.Bd ∨ r = k.Se ∨ r = k.La ∨ r = k.Lf ∨ r = k.Gr
def growV (k : Spots) : Value := .func (.func 65) #[] #[.pointer (some ⟨k.L, 0, none⟩), .pointer (some ⟨k.Bd, 0, none⟩), .pointer (some ⟨k.Se, 0, none⟩), .pointer (some ⟨k.Lf, 0, none⟩), .pointer (some ⟨k.Gr, 0, none⟩)]

/-! ### what is left of the plates -/
def leftN (l : List Plate) (c : List Laid) (i : Nat) : Int := (plateAt l i).N - (usedN c c.length (i : Int) : Int)
def leftL (l : List Plate) (c : List Laid) : List Int := (List.range l.length).map (leftN l c)
theorem leftL_len (l : List Plate) (c : List Laid) : (leftL l c).length = l.length := by simp [leftL]
theorem leftL_get {l : List Plate} {c : List Laid} {i : Nat} (h : i < l.length) : (leftL l c)[i]? = some (leftN l c i) := by simp [leftL, h]
theorem leftN_snoc (l : List Plate) (c : List Laid) (x : Laid) (i : Nat) : leftN l (c ++ [x]) i = leftN l c i - if x.plate = i then 1 else 0 := by
  unfold leftN
  have h : (c ++ [x])[c.length]? = some x := by
    rw [List.getElem?_append_right (Nat.le_refl _), Nat.sub_self]
    rfl
  have := usedN_succ h (i : Int)
  rw [List.length_append, List.length_singleton, this, usedN_append (Nat.le_refl _)]
  split <;> omega
theorem leftL_add {l : List Plate} {c : List Laid} {x : Laid} {i : Nat} (hp : x.plate = i) : (leftL l c).set i (leftN l c i - 1) = leftL l (c ++ [x]) := by
  apply List.ext_getElem?
  intro j
  rw [List.getElem?_set]
  rcases Nat.lt_or_ge j l.length with hj | hj
  · rw [leftL_get hj, leftL_get hj, leftL_len, leftN_snoc]
    by_cases hij : i = j
    · subst hij
      rw [if_pos rfl, if_pos hj, if_pos hp]
    · rw [if_neg hij, if_neg (by omega), Int.sub_zero]
  · rw [List.getElem?_eq_none (l := leftL l (c ++ [x])) (by rw [leftL_len]; exact hj), List.getElem?_eq_none (l := leftL l c) (by rw [leftL_len]; exact hj), leftL_len]
    by_cases hij : i = j
    · rw [if_pos hij, if_neg (by omega)]
    · rw [if_neg hij]
theorem leftL_back {l : List Plate} {c : List Laid} {x : Laid} {i : Nat} (hp : x.plate = i) : (leftL l (c ++ [x])).set i (leftN l (c ++ [x]) i + 1) = leftL l c := by
  rw [leftN_snoc, if_pos hp, ← leftL_add hp, List.set_set]
  apply List.ext_getElem?
  intro j
  rw [List.getElem?_set]
  by_cases hij : i = j
  · subst hij
    rw [if_pos rfl, leftL_len]
    split
    · rename_i h
      rw [leftL_get h]
      congr 1
      omega
    · rw [List.getElem?_eq_none (by rw [leftL_len]; omega)]
  · rw [if_neg hij]

/-! ### the boxes -/
structure Env (w : World) (k : Spots) (g : Nat) (lv sv : Value) (left : List Int) : Prop where
  long : Blk w k.L 84 #[lv]
  brd : Blk w k.Bd 78 #[.pointer (some ⟨g, 0, none⟩)]
  see : Blk w k.Se 92 #[sv]
  rest : Blk w k.La 3 (intsA left)
  lft : Blk w k.Lf 97 #[.slice (some ⟨k.La, 0, none⟩) left.length left.length]
  grow : Blk w k.Gr 129 #[growV k]
variable {w w' : World} {k : Spots} {g : Nat} {lv sv : Value} {left : List Int}
theorem Env.only {K : Nat → Prop} (h : Env w k g lv sv left) (o : Only K w w') (hk : ∀ r, k.has r → ¬ K r) : Env w' k g lv sv left :=
  ⟨h.long.only o (hk _ (Or.inl rfl)), h.brd.only o (hk _ (Or.inr (Or.inl rfl))), h.see.only o (hk _ (Or.inr (Or.inr (Or.inl rfl)))), h.rest.only o (hk _ (Or.inr (Or.inr (Or.inr (Or.inl rfl))))),
    h.lft.only o (hk _ (Or.inr (Or.inr (Or.inr (Or.inr (Or.inl rfl)))))), h.grow.only o (hk _ (Or.inr (Or.inr (Or.inr (Or.inr (Or.inr rfl))))))⟩
theorem Env.ext (h : Env w k g lv sv left) (E : Ext w w') : Env w' k g lv sv left := h.only (Only.of_ext (fun _ => False) E) (fun _ _ e => e)
theorem Env.typed (h : Env w k g lv sv left) {r : Nat} (hr : k.has r) : ∃ t cs, Blk w r t cs ∧ t ≠ 64 ∧ t ≠ 130 ∧ t ≠ 56 ∧ t ≠ 4 := by
  rcases hr with rfl | rfl | rfl | rfl | rfl | rfl
  · exact ⟨_, _, h.long, by decide, by decide, by decide, by decide⟩
  · exact ⟨_, _, h.brd, by decide, by decide, by decide, by decide⟩
  · exact ⟨_, _, h.see, by decide, by decide, by decide, by decide⟩
  · exact ⟨_, _, h.rest, by decide, by decide, by decide, by decide⟩
  · exact ⟨_, _, h.lft, by decide, by decide, by decide, by decide⟩
  · exact ⟨_, _, h.grow, by decide, by decide, by decide, by decide⟩
theorem Env.lt (h : Env w k g lv sv left) {r : Nat} (hr : k.has r) : r < w.heap.size := by
  obtain ⟨t, cs, hb, _⟩ := h.typed hr
  exact hb.lt
/-- A spot is in no row. -/
theorem Env.row_ne (h : Env w k g lv sv left) {r : Nat} (hr : k.has r) {base sz n : Nat} {e : TypeId} {v : Value} {xs : List Value} (ho : w.ownsRow base e sz v n xs) (he : e = 64 ∨ e = 130) : v.ownBlock ≠ some r := fun hv => by
  obtain ⟨t, cs, hb, h1, h2, _⟩ := h.typed hr
  obtain ⟨cs', hb'⟩ := own_typed ho hv
  have := hb.types hb'
  rcases he with he | he
  · exact h1 (this.trans he)
  · exact h2 (this.trans he)
/-- What is left is written. -/
theorem Env.set (h : Env w k g lv sv left) (i : Nat) (v : Int) : Env (w.setCell ⟨k.La, i, none⟩ (.int .i64 v)) k g lv sv (left.set i v) := by
  have ne : ∀ {r : Nat} {t : TypeId} {cs : Array Value}, Blk w r t cs → t ≠ 3 → r ≠ k.La := fun hb ht e => by
    subst e
    exact ht (hb.types h.rest)
  refine ⟨h.long.far (ne h.long (by decide)) _, h.brd.far (ne h.brd (by decide)) _, h.see.far (ne h.see (by decide)) _, ?_, ?_, h.grow.far (ne h.grow (by decide)) _⟩
  · have := h.rest.set_ i (.int .i64 v)
    rw [intsA_set] at this
    exact this
  · rw [List.length_set]
    exact h.lft.far (ne h.lft (by decide)) _

/-! ### what its two functions say -/
/-- The caller's word st, which speaks of the blocks Fp alone; what 'long' answers, and what 'see' makes of it. -/
structure Client (s : Shape) (l : List Plate) {σ : Type} (J : σ → (Nat → Prop) → World → Prop) (wT : World) (flong : Nat) (lbl : Array Value) (fsee : Nat) (lbs : Array Value) (longF : σ → Nat → Bool) (seeF : σ → List Laid → List Nat → σ) : Prop where
  keep : ∀ (st : σ) Fp (w w' : World), J st Fp w → (∀ r, Fp r → w'.heap[r]? = w.heap[r]?) → J st Fp w'
  long : ∀ (st : σ) Fp (w : World) (n : Nat), n ≤ 100 → Ext wT w → J st Fp w → Calls Tryd.prog flong (#[.int .i64 (n : Int)] ++ lbl) w fun e w' => e = .returned (.bool (longF st n)) ∧ Ext w w'
  see : ∀ (st : σ) Fp (w : World) (c : List Laid) (out : List Nat) CA cc SA sc, c.length ≤ 100 → out.length = c.length → setRun s l c c.length = some (out, 2 ^ fullN s.cells - 1) → Ext wT w → J st Fp w → (∀ r, Fp r → r < w.heap.size) → Laids w CA cc c → SliceIs w SA out.length sc 1 (out.map fun m => [uv m]) →
    Calls Tryd.prog fsee (#[.slice CA c.length cc, .slice SA out.length sc] ++ lbs) w fun e w' => (∃ v, e = .returned v) ∧ ∃ Fp', J (seeF st c out) Fp' w' ∧ (∀ r, Fp' r → Fp r ∨ w.heap.size ≤ r) ∧ (∀ r, Fp' r → r < w'.heap.size) ∧ Only Fp w w'

/-! ### where the search is -/
structure Here {σ : Type} (J : σ → (Nat → Prop) → World → Prop) (wT : World) (B : Nat) (k : Spots) (g : Nat) (lv sv : Value) (left : List Int) (w : World) (c : List Laid) (all : List Nat) (CV SV : Value) (st : σ) (Fp : Nat → Prop) : Prop where
  ext : Ext wT w
  low : wT.heap.size ≤ B ∧ B ≤ w.heap.size
  env : Env w k g lv sv left
  rc : w.ownsRow B 64 5 CV c.length (c.map Laid.cells).flatten
  rs : w.ownsRow B 130 1 SV all.length (all.map uv)
  j : J st Fp w
  fp : ∀ r, Fp r → wT.heap.size ≤ r ∧ r < w.heap.size ∧ ¬ k.has r ∧ CV.ownBlock ≠ some r ∧ SV.ownBlock ≠ some r
  spots : ∀ r, k.has r → wT.heap.size ≤ r
/-- The blocks that a search may turn. -/
def Turns (k : Spots) (CV SV : Value) (Fp : Nat → Prop) (r : Nat) : Prop := Fp r ∨ CV.ownBlock = some r ∨ SV.ownBlock = some r ∨ r = k.La
section
variable {s : Shape} {l : List Plate} {σ : Type} {J : σ → (Nat → Prop) → World → Prop} {wT : World} {B : Nat} {c : List Laid} {all : List Nat} {CV SV : Value} {st : σ} {Fp : Nat → Prop}
  {flong : Nat} {lbl : Array Value} {fsee : Nat} {lbs : Array Value} {longF : σ → Nat → Bool} {seeF : σ → List Laid → List Nat → σ}
theorem Here.mono (cl : Client s l J wT flong lbl fsee lbs longF seeF) (h : Here J wT B k g lv sv left w c all CV SV st Fp) (E : Ext w w') : Here J wT B k g lv sv left w' c all CV SV st Fp :=
  ⟨h.ext.trans E, ⟨h.low.1, Nat.le_trans h.low.2 E.size⟩, h.env.ext E, own_ext h.rc E, own_ext h.rs E, cl.keep _ _ _ _ h.j (fun r hr => E.block r (h.fp r hr).2.1), fun r hr => by
    obtain ⟨h1, h2, h3⟩ := h.fp r hr
    exact ⟨h1, Nat.lt_of_lt_of_le h2 E.size, h3⟩, h.spots⟩
theorem Here.turns_low (h : Here J wT B k g lv sv left w c all CV SV st Fp) {r : Nat} (hr : Turns k CV SV Fp r) : wT.heap.size ≤ r := by
  rcases hr with hr | hr | hr | hr
  · exact (h.fp r hr).1
  · exact Nat.le_trans h.low.1 (h.rc.lt r hr).1
  · exact Nat.le_trans h.low.1 (h.rs.lt r hr).1
  · rw [hr]
    exact h.spots _ (Or.inr (Or.inr (Or.inr (Or.inl rfl))))
theorem Here.rows_ne (h : Here J wT B k g lv sv left w c all CV SV st Fp) {r : Nat} (hr : CV.ownBlock = some r) : SV.ownBlock ≠ some r := fun e => by
  rcases own_apart h.rc h.rs (by decide) with h' | h'
  · rw [h'] at hr
    cases hr
  · rw [hr, e] at h'
    exact h' rfl
/-- 'see' has been called. -/
theorem Here.seen (_cl : Client s l J wT flong lbl fsee lbs longF seeF) (h : Here J wT B k g lv sv left w c all CV SV st Fp) {st' : σ} {Fp' : Nat → Prop} (hj : J st' Fp' w') (h1 : ∀ r, Fp' r → Fp r ∨ w.heap.size ≤ r) (h2 : ∀ r, Fp' r → r < w'.heap.size) (o : Only Fp w w') :
    Here J wT B k g lv sv left w' c all CV SV st' Fp' := by
  have hlt := h.env
  refine ⟨Only.below h.ext o fun r hr => (h.fp r hr).1, ⟨h.low.1, Nat.le_trans h.low.2 o.size⟩, h.env.only o fun r hr hF => (h.fp r hF).2.2.1 hr, own_only h.rc o fun r hr hF => (h.fp r hF).2.2.2.1 hr, own_only h.rs o fun r hr hF => (h.fp r hF).2.2.2.2 hr, hj, fun r hr => ?_, h.spots⟩
  rcases h1 r hr with h' | h'
  · obtain ⟨a, b, c⟩ := h.fp r h'
    exact ⟨a, h2 r hr, c⟩
  · have hB := h.ext.size
    refine ⟨by omega, h2 r hr, fun e => ?_, fun e => ?_, fun e => ?_⟩
    · have := h.env.lt e
      omega
    · have := (h.rc.lt r e).2
      omega
    · have := (h.rs.lt r e).2
      omega
/-- What is left of a plate is written. -/
theorem Here.write (cl : Client s l J wT flong lbl fsee lbs longF seeF) (h : Here J wT B k g lv sv left w c all CV SV st Fp) (i : Nat) (v : Int) : Here J wT B k g lv sv (left.set i v) (w.setCell ⟨k.La, i, none⟩ (.int .i64 v)) c all CV SV st Fp := by
  have hla : k.has k.La := Or.inr (Or.inr (Or.inr (Or.inl rfl)))
  have o : Only (fun r => r = k.La) w (w.setCell ⟨k.La, i, none⟩ (.int .i64 v)) := (Only.refl (fun r => r = k.La) w).setCell (p := ⟨k.La, i, none⟩) (fun _ => rfl) _
  have hsz : (w.setCell ⟨k.La, i, none⟩ (.int .i64 v)).heap.size = w.heap.size := by simp [World.setCell]
  refine ⟨Only.below h.ext o fun r hr => by rw [hr]; exact h.spots _ hla, ⟨h.low.1, by rw [hsz]; exact h.low.2⟩, h.env.set i v, own_only h.rc o fun r hr e => ?_, own_only h.rs o fun r hr e => ?_, cl.keep _ _ _ _ h.j fun r hr => ?_, fun r hr => ?_, h.spots⟩
  · rw [e] at hr
    exact h.env.row_ne hla h.rc (Or.inl rfl) hr
  · rw [e] at hr
    exact h.env.row_ne hla h.rs (Or.inr rfl) hr
  · refine Below.heap_setCell _ _ _ _ fun e => ?_
    exact (h.fp r hr).2.2.1 (by rw [e]; exact hla)
  · obtain ⟨a, b, c⟩ := h.fp r hr
    exact ⟨a, by rw [hsz]; exact b, c⟩

/-! ### a row that has become longer -/
structure RowTo (w w' : World) (B : Nat) (e : TypeId) (sz : Nat) (V V' : Value) (n : Nat) (ys : List Value) : Prop where
  own : w'.ownsRow B e sz V' (n + 1) ys
  blk : ∃ g cap, V' = .slice (some ⟨g, 0, none⟩) (n + 1) cap ∧ (V = .slice (some ⟨g, 0, none⟩) n cap ∨ w.heap.size ≤ g)
  old : ∀ r, V.ownBlock = some r → V'.ownBlock ≠ some r → w'.heap[r]? = w.heap[r]?
theorem Fate.only {W : World} {base : Nat} {e : TypeId} {sz : Nat} {v v' : Value} {n : Nat} {xs news : List Value} (h : Fate W w' base e sz v v' n xs news) : Only (fun r => v.ownBlock = some r) W w' := by
  obtain ⟨_, b, cap, _, h | h⟩ := h
  · exact Only.of_grown h.2 fun r e => by
      cases e
      rw [h.1]
      rfl
  · exact Only.of_grown h.2 fun r e => by cases e
theorem Fate.cell {W : World} {base : Nat} {e : TypeId} {sz : Nat} {v v' : Value} {n : Nat} {xs news : List Value} (h : Fate W w' base e sz v v' n xs news) {p : Addr} {u : Value} (hc : W.cell? p = some u) (hp : v.ownBlock ≠ some p.block) : w'.cell? p = some u := by
  rw [← hc]
  exact World.cell?_of_block (h.only.block _ (World.block_lt_of_cell? W p hc) hp)
theorem Fate.rowTo {K : Nat → Prop} {W : World} {base : Nat} {e : TypeId} {sz : Nat} {v v' : Value} {n : Nat} {xs news : List Value} (h : Fate W w' base e sz v v' n xs news) (fr : Only K w W) (hv : ∀ r, v.ownBlock = some r → r < w.heap.size ∧ ¬ K r) : RowTo w w' base e sz v v' n (xs ++ news) := by
  obtain ⟨h1, b, cap, h2, h3⟩ := h
  refine ⟨h1, ⟨b, cap, h2, ?_⟩, fun r hr hne => ?_⟩
  · rcases h3 with h3 | h3
    · exact Or.inl h3.1
    · exact Or.inr (Nat.le_trans fr.size h3.1)
  · obtain ⟨a1, a2⟩ := hv r hr
    rw [← fr.block r a1 a2]
    rcases h3 with h3 | h3
    · exfalso
      apply hne
      rw [h2, ← hr, h3.1]
      rfl
    · exact h3.2.block r (Nat.lt_of_lt_of_le a1 fr.size) (fun e => by cases e)
theorem RowTo.only {K : Nat → Prop} {W : World} {e : TypeId} {sz : Nat} {V V' : Value} {n : Nat} {ys : List Value} (h : RowTo w W B e sz V V' n ys) (o : Only K W w') (hk : ∀ r, V'.ownBlock = some r → ¬ K r) (hv : ∀ r, V.ownBlock = some r → r < W.heap.size ∧ ¬ K r) : RowTo w w' B e sz V V' n ys :=
  ⟨own_only h.own o hk, h.blk, fun r hr hne => (o.block r (hv r hr).1 (hv r hr).2).trans (h.old r hr hne)⟩
/-- The block of the longer row. -/
theorem RowTo.new {e : TypeId} {sz : Nat} {V V' : Value} {n : Nat} {ys : List Value} (h : RowTo w w' B e sz V V' n ys) {r : Nat} (hr : V'.ownBlock = some r) : V.ownBlock = some r ∨ w.heap.size ≤ r := by
  obtain ⟨b, cap, rfl, h1⟩ := h.blk
  cases hr
  rcases h1 with rfl | h1
  · exact Or.inl rfl
  · exact Or.inr h1

theorem blk_new_at {w : World} {cs : Array Value} {t : TypeId} {n : Nat} (h : n = w.heap.size) : Blk (w.alloc (.cells cs t)) n t cs := by
  subst h
  exact Blk.new _ _ _
theorem Fate.blk {W : World} {base : Nat} {e : TypeId} {sz : Nat} {v v' : Value} {n : Nat} {xs news : List Value} (h : Fate W w' base e sz v v' n xs news) (ho : W.ownsRow base e sz v n xs) {r : Nat} {t : TypeId} {cs : Array Value} (hb : Blk W r t cs) (ht : t ≠ e) : Blk w' r t cs :=
  hb.only h.only fun e' => by
    obtain ⟨cs', hb'⟩ := own_typed ho e'
    exact ht (hb.types hb')
/-- A row of another type keeps while a row is made longer. -/
theorem own_two {W : World} {e e' : TypeId} {sz sz' : Nat} {V V' : Value} {n n' : Nat} {xs xs' : List Value} (h' : W.ownsRow B e' sz' V' n' xs') (h : W.ownsRow B e sz V n xs) (he : e' ≠ e) (o : Only (fun r => V.ownBlock = some r) W w') : w'.ownsRow B e' sz' V' n' xs' :=
  own_only h' o fun r hr e1 => by
    rcases own_apart h' h he with h2 | h2
    · rw [h2] at hr
      cases hr
    · rw [hr, e1] at h2
      exact h2 rfl
/-- Two rows are made longer, one after the other, with new blocks between. -/
theorem two_rows {W1 W2 W3 : World} {e1 e2 : TypeId} {s1 s2 : Nat} {V1 V1' V2 V2' : Value} {n1 n2 : Nat} {x1 x2 y1 y2 : List Value} (he : e1 ≠ e2) (h1 : w.ownsRow B e1 s1 V1 n1 x1) (h2 : w.ownsRow B e2 s2 V2 n2 x2) (E1 : Ext w W1) (f1 : Fate W1 W2 B e1 s1 V1 V1' n1 x1 y1) (E2 : Ext W2 W3) (f2 : Fate W3 w' B e2 s2 V2 V2' n2 x2 y2) :
    Only (fun r => V1.ownBlock = some r ∨ V2.ownBlock = some r) w w' ∧ RowTo w w' B e1 s1 V1 V1' n1 (x1 ++ y1) ∧ RowTo w w' B e2 s2 V2 V2' n2 (x2 ++ y2) := by
  have ne : ∀ r, V1.ownBlock = some r → V2.ownBlock ≠ some r := fun r hr hr2 => by
    rcases own_apart h1 h2 he with h | h
    · rw [h] at hr
      cases hr
    · rw [hr, hr2] at h
      exact h rfl
  have o1 : Only (fun r => V1.ownBlock = some r) w W3 := ((Only.of_ext _ E1).trans f1.only fun _ _ e => e).ext E2
  have a1 : W1.ownsRow B e1 s1 V1 n1 x1 := own_ext h1 E1
  have a2 : W3.ownsRow B e2 s2 V2 n2 x2 := own_ext (own_two (own_ext h2 E1) a1 (fun e => he e.symm) f1.only) E2
  have r1 : RowTo w W2 B e1 s1 V1 V1' n1 (x1 ++ y1) := f1.rowTo (Only.of_ext (fun _ => False) E1) fun r hr => ⟨(h1.lt r hr).2, fun e => e⟩
  have r2 : RowTo w w' B e2 s2 V2 V2' n2 (x2 ++ y2) := f2.rowTo o1 fun r hr => ⟨(h2.lt r hr).2, fun e => ne r e hr⟩
  refine ⟨(o1.mono fun r _ e => Or.inl e).trans f2.only fun r _ e => Or.inr e, ?_, r2⟩
  have b1 : W3.ownsRow B e1 s1 V1' (n1 + 1) (x1 ++ y1) := own_ext r1.own E2
  have o2 : Only (fun r => V2.ownBlock = some r) W2 w' := (Only.of_ext _ E2).trans f2.only fun _ _ e => e
  exact ⟨own_two b1 a2 he f2.only, r1.blk, fun r hr hne => (o2.block r (Nat.lt_of_lt_of_le (h1.lt r hr).2 (Nat.le_trans E1.size f1.only.size)) (ne r hr)).trans (r1.old r hr hne)⟩
/-- One plate more is laid: what the search is asked with. -/
theorem Here.deeper (cl : Client s l J wT flong lbl fsee lbs longF seeF) (h : Here J wT B k g lv sv left w c all CV SV st Fp) {x : Laid} {m : Nat} {CV' SV' : Value} (o : Only (fun r => CV.ownBlock = some r ∨ SV.ownBlock = some r) w w')
    (hc : RowTo w w' B 64 5 CV CV' c.length ((c.map Laid.cells).flatten ++ x.cells)) (hs : RowTo w w' B 130 1 SV SV' all.length (all.map uv ++ [uv m])) :
    Here J wT B k g lv sv left w' (c ++ [x]) (all ++ [m]) CV' SV' st Fp := by
  refine ⟨Only.below h.ext o fun r hr => ?_, ⟨h.low.1, Nat.le_trans h.low.2 o.size⟩, h.env.only o fun r hr e => ?_, ?_, ?_, cl.keep _ _ _ _ h.j fun r hr => ?_, fun r hr => ?_, h.spots⟩
  · exact h.turns_low (hr.elim (fun e => Or.inr (Or.inl e)) (fun e => Or.inr (Or.inr (Or.inl e))))
  · rcases e with e | e
    · exact h.env.row_ne hr h.rc (Or.inl rfl) e
    · exact h.env.row_ne hr h.rs (Or.inr rfl) e
  · have := hc.own
    rw [List.length_append, List.map_append, List.flatten_append]
    simpa using this
  · have := hs.own
    rw [List.length_append, List.map_append]
    exact this
  · obtain ⟨_, h2, _, h4, h5⟩ := h.fp r hr
    exact o.block r h2 (fun e => e.elim (fun e => h4 e) (fun e => h5 e))
  · obtain ⟨h1, h2, h3, h4, h5⟩ := h.fp r hr
    refine ⟨h1, Nat.lt_of_lt_of_le h2 o.size, h3, fun e => ?_, fun e => ?_⟩
    · rcases hc.new e with e' | e'
      · exact h4 e'
      · omega
    · rcases hs.new e with e' | e'
      · exact h5 e'
      · omega
/-- A row keeps while the longer one has been used, as long as its own cells stay. -/
theorem row_back {W : World} {K K' : Nat → Prop} {e : TypeId} {sz : Nat} {V V' : Value} {n : Nat} {xs ys : List Value} (h0 : w.ownsRow B e sz V n xs) (o : Only K' w w') (ht : RowTo w w' B e sz V V' n (xs ++ ys)) (h1 : W.ownsRow B e sz V' (n + 1) (xs ++ ys)) (o2 : Only K w' W)
    (hk : ∀ r, V.ownBlock = some r → V'.ownBlock ≠ some r → ¬ K r) : W.ownsRow B e sz V n xs := by
  obtain ⟨b, cap, rfl, h2⟩ := ht.blk
  rcases h2 with rfl | h2
  · exact own_prefix h1 h0.1
  · obtain ⟨a1, a2⟩ := h0
    refine ⟨a1, ?_⟩
    rcases a2 with a2 | ⟨r, cap', cur, hv, hg, hh, rest⟩
    · exact Or.inl a2
    · refine Or.inr ⟨r, cap', cur, hv, hg, ?_, rest⟩
      have hlt : r < w.heap.size := (Array.getElem?_eq_some_iff.1 hh).1
      have hr : V.ownBlock = some r := by rw [hv]; rfl
      have hne : (Value.slice (some ⟨b, 0, none⟩) (n + 1) cap).ownBlock ≠ some r := fun e => by
        simp only [Value.ownBlock, Option.some.injEq] at e
        omega
      rw [o2.block r (Nat.lt_of_lt_of_le hlt o.size) (hk r hr hne), ht.old r hr hne]
      exact hh
/-! ### within one search -/
/-- Between two sorts: the place's box is there too. -/
structure Stay {σ : Type} (J : σ → (Nat → Prop) → World → Prop) (wT : World) (B : Nat) (k : Spots) (g : Nat) (lv sv : Value) (l : List Plate) (w : World) (AT : Nat) (pc : Array Value) (wr : World) (c : List Laid) (all : List Nat) (CV SV : Value) (st : σ) (Fp0 Fp : Nat → Prop) : Prop where
  here : Here J wT B k g lv sv (leftL l c) wr c all CV SV st Fp
  sub : ∀ r, Fp r → Fp0 r ∨ w.heap.size ≤ r
  only : Only (Turns k CV SV Fp0) w wr
  box : Blk wr AT 56 pc
  free : ¬ Fp AT
variable {w0 : World} {AT : Nat} {pc : Array Value} {Fp0 : Nat → Prop}
theorem Stay.mono (cl : Client s l J wT flong lbl fsee lbs longF seeF) (h : Stay J wT B k g lv sv l w0 AT pc w c all CV SV st Fp0 Fp) (E : Ext w w') : Stay J wT B k g lv sv l w0 AT pc w' c all CV SV st Fp0 Fp :=
  ⟨h.here.mono cl E, h.sub, h.only.ext E, h.box.ext E, h.free⟩
/-- A block of cells or of bools that is no spot is turned by no search. -/
theorem Here.no_turn (h : Here J wT B k g lv sv left w c all CV SV st Fp) {r : Nat} {t : TypeId} {cs : Array Value} (hb : Blk w r t cs) (ht : t = 56 ∨ t = 4) (hF : ¬ Fp r) : ¬ Turns k CV SV Fp r := by
  rintro (e | e | e | e)
  · exact hF e
  · obtain ⟨cs', hb'⟩ := own_typed h.rc e
    have := hb.types hb'
    rcases ht with ht | ht <;> rw [ht] at this <;> revert this <;> decide
  · obtain ⟨cs', hb'⟩ := own_typed h.rs e
    have := hb.types hb'
    rcases ht with ht | ht <;> rw [ht] at this <;> revert this <;> decide
  · subst e
    have := hb.types h.env.rest
    rcases ht with ht | ht <;> rw [ht] at this <;> revert this <;> decide
theorem Here.spot_turn (h : Here J wT B k g lv sv left w c all CV SV st Fp) : ¬ Turns k CV SV Fp k.Gr := by
  have hgr : k.has k.Gr := Or.inr (Or.inr (Or.inr (Or.inr (Or.inr rfl))))
  rintro (e | e | e | e)
  · exact (h.fp _ e).2.2.1 hgr
  · exact h.env.row_ne hgr h.rc (Or.inl rfl) e
  · exact h.env.row_ne hgr h.rs (Or.inr rfl) e
  · have h1 := h.env.grow
    rw [e] at h1
    have := h1.types h.env.rest
    revert this
    decide
theorem Only.cell {K : Nat → Prop} (o : Only K w w') {p : Addr} {v : Value} (hc : w.cell? p = some v) (hp : ¬ K p.block) : w'.cell? p = some v := by
  rw [← hc]
  exact World.cell?_of_block (o.block _ (World.block_lt_of_cell? w p hc) hp)
/-- One plate more has been looked into; what is left of it has been given back. -/
def Deep {σ : Type} (J : σ → (Nat → Prop) → World → Prop) (wT : World) (B : Nat) (k : Spots) (g : Nat) (lv sv : Value) (left : List Int) (w : World) (c : List Laid) (all : List Nat) (CV SV : Value) (st' : σ) (Fp : Nat → Prop) (w' : World) : Prop :=
  ∃ Fp', Here J wT B k g lv sv left w' c all CV SV st' Fp' ∧ (∀ r, Fp' r → Fp r ∨ w.heap.size ≤ r) ∧ Only (Turns k CV SV Fp) w w'
def GrowPost {σ : Type} (J : σ → (Nat → Prop) → World → Prop) (wT : World) (B : Nat) (k : Spots) (g : Nat) (lv sv : Value) (l : List Plate) (w : World) (c : List Laid) (all : List Nat) (CV SV : Value) (st' : σ) (Fp : Nat → Prop) (e : Ending) (w' : World) : Prop :=
  (∃ v, e = .returned v) ∧ Deep J wT B k g lv sv (leftL l c) w c all CV SV st' Fp w'
theorem Here.dug (h : Here J wT B k g lv sv left w c all CV SV st Fp) {x : Laid} {m : Nat} {CV' SV' : Value} {W : World} {st' : σ} {e : Ending} (o : Only (fun r => CV.ownBlock = some r ∨ SV.ownBlock = some r) w w')
    (hc : RowTo w w' B 64 5 CV CV' c.length ((c.map Laid.cells).flatten ++ x.cells)) (hs : RowTo w w' B 130 1 SV SV' all.length (all.map uv ++ [uv m]))
    (post : GrowPost J wT B k g lv sv l w' (c ++ [x]) (all ++ [m]) CV' SV' st' Fp e W) : Deep J wT B k g lv sv (leftL l (c ++ [x])) w c all CV SV st' Fp W := by
  obtain ⟨_, Fp', h1, h2, h3⟩ := post
  have hla : k.has k.La := Or.inr (Or.inr (Or.inr (Or.inl rfl)))
  have cc : W.ownsRow B 64 5 CV' (c.length + 1) ((c.map Laid.cells).flatten ++ x.cells) := by
    have := h1.rc
    rw [List.length_append, List.map_append, List.flatten_append] at this
    simpa using this
  have cs : W.ownsRow B 130 1 SV' (all.length + 1) (all.map uv ++ [uv m]) := by
    have := h1.rs
    rw [List.length_append, List.map_append] at this
    exact this
  have kc : ∀ r, CV.ownBlock = some r → CV'.ownBlock ≠ some r → ¬ Turns k CV' SV' Fp r := fun r hr hne e => by
    have hlt := (h.rc.lt r hr).2
    rcases e with e | e | e | e
    · exact (h.fp r e).2.2.2.1 hr
    · exact hne e
    · rcases hs.new e with e' | e'
      · exact h.rows_ne hr e'
      · omega
    · subst e
      exact h.env.row_ne hla h.rc (Or.inl rfl) hr
  have ks : ∀ r, SV.ownBlock = some r → SV'.ownBlock ≠ some r → ¬ Turns k CV' SV' Fp r := fun r hr hne e => by
    have hlt := (h.rs.lt r hr).2
    rcases e with e | e | e | e
    · exact (h.fp r e).2.2.2.2 hr
    · rcases hc.new e with e' | e'
      · exact h.rows_ne e' hr
      · omega
    · exact hne e
    · subst e
      exact h.env.row_ne hla h.rs (Or.inr rfl) hr
  have sub : ∀ r, Fp' r → Fp r ∨ w.heap.size ≤ r := fun r hr => by
    rcases h2 r hr with e | e
    · exact Or.inl e
    · exact Or.inr (Nat.le_trans o.size e)
  refine ⟨Fp', ⟨h1.ext, h1.low, h1.env, row_back h.rc o hc cc h3 kc, row_back h.rs o hs cs h3 ks, h1.j, fun r hr => ?_, h.spots⟩, sub, ?_⟩
  · obtain ⟨a1, a2, a3, _, _⟩ := h1.fp r hr
    refine ⟨a1, a2, a3, fun e => ?_, fun e => ?_⟩
    · rcases sub r hr with e' | e'
      · exact (h.fp r e').2.2.2.1 e
      · have := (h.rc.lt r e).2
        omega
    · rcases sub r hr with e' | e'
      · exact (h.fp r e').2.2.2.2 e
      · have := (h.rs.lt r e).2
        omega
  · refine (o.mono fun r _ e => e.elim (fun e => Or.inr (Or.inl e)) (fun e => Or.inr (Or.inr (Or.inl e)))).trans h3 fun r hr e => ?_
    rcases e with e | e | e | e
    · exact Or.inl e
    · rcases hc.new e with e' | e'
      · exact Or.inr (Or.inl e')
      · omega
    · rcases hs.new e with e' | e'
      · exact Or.inr (Or.inr (Or.inl e'))
      · omega
    · exact Or.inr (Or.inr (Or.inr e))
theorem Stay.after (cl : Client s l J wT flong lbl fsee lbs longF seeF) (h : Stay J wT B k g lv sv l w0 AT pc w c all CV SV st Fp0 Fp) {x : Laid} {i : Nat} (hx : x.plate = i) {st' : σ} {TB : Nat} {tc : Array Value} (hTB : Blk w TB 4 tc) (hTF : ¬ Fp TB)
    (hd : Deep J wT B k g lv sv (leftL l (c ++ [x])) (w.setCell ⟨k.La, i, none⟩ (.int .i64 (leftN l c i - 1))) c all CV SV st' Fp w') :
    ∃ Fp', Stay J wT B k g lv sv l w0 AT pc (w'.setCell ⟨k.La, i, none⟩ (.int .i64 (leftN l (c ++ [x]) i + 1))) c all CV SV st' Fp0 Fp' ∧ Blk (w'.setCell ⟨k.La, i, none⟩ (.int .i64 (leftN l (c ++ [x]) i + 1))) TB 4 tc ∧ ¬ Fp' TB := by
  obtain ⟨Fp', h1, h2, h3⟩ := hd
  have hsz : (w.setCell ⟨k.La, i, none⟩ (.int .i64 (leftN l c i - 1))).heap.size = w.heap.size := by simp [World.setCell]
  have t1 := h.here.no_turn h.box (Or.inl rfl) h.free
  have t2 := h.here.no_turn hTB (Or.inr rfl) hTF
  have o : Only (Turns k CV SV Fp) w (w'.setCell ⟨k.La, i, none⟩ (.int .i64 (leftN l (c ++ [x]) i + 1))) :=
    (((Only.refl (Turns k CV SV Fp) w).setCell (p := ⟨k.La, i, none⟩) (fun _ => Or.inr (Or.inr (Or.inr rfl))) _).trans h3 fun _ _ e => e).setCell (p := ⟨k.La, i, none⟩) (fun _ => Or.inr (Or.inr (Or.inr rfl))) _
  have hw := h1.write cl i (leftN l (c ++ [x]) i + 1)
  rw [leftL_back hx] at hw
  have hsub : ∀ r, Fp' r → Fp r ∨ w.heap.size ≤ r := fun r hr => by
    rw [← hsz]
    exact h2 r hr
  refine ⟨Fp', ⟨hw, fun r hr => ?_, h.only.trans o fun r hr e => ?_, h.box.only o t1, fun e => ?_⟩, hTB.only o t2, fun e => ?_⟩
  · rcases hsub r hr with e | e
    · exact h.sub r e
    · exact Or.inr (Nat.le_trans h.only.size e)
  · rcases e with e | e
    · rcases h.sub r e with e' | e'
      · exact Or.inl e'
      · omega
    · exact Or.inr e
  · rcases hsub _ e with e' | e'
    · exact h.free e'
    · have := h.box.lt
      omega
  · rcases hsub _ e with e' | e'
    · exact hTF e'
    · have := hTB.lt
      omega
end
end Go.Proofs.YtaaeapjnjjbglaaDoor

namespace Go.Proofs.YtaaeapjnjjbglaaDoor
open Go.RowKit

set_option maxHeartbeats 1000000 in
theorem cells_c (m : Nat) (w : World) :
    Calls Tryd.prog 100 #[.int .u32 m] w fun e w' =>
      e = .returned (.func (.func 127) #[] #[.pointer (some ⟨w.heap.size, 0, none⟩)]) ∧ Ext w w' ∧ Blk w' w.heap.size 130 #[.int .u32 m] ∧ w'.heap.size = w.heap.size + 1 := by
  obtain ⟨W1, hW1, E1, B1, hz1⟩ := box_ w #[.int .u32 m] 130
  have Hz := Lib.hid hz1
  clear hz1
  go_enter Tryd.func100, Tryd.ntmps100
  go_wp2_with fail
  go_ret
  exact ⟨rfl, E1, B1, Hz.out⟩
end Go.Proofs.YtaaeapjnjjbglaaDoor

namespace Go.Proofs.YtaaeapjnjjbglaaDoor
open Go.RowKit

/-- What the caller's word J must abide: growth, and stores into the iterator's box. -/
structure Lets {α : Type} (b : Nat) (G : World → Prop) (J : List α → World → Prop) : Prop where
  ext : ∀ s A B, J s A → Ext A B → J s B
  box : ∀ s A v, J s A → J s (A.setCell ⟨b, 0, none⟩ v)
  good : ∀ s A, J s A → G A

/-- The iterator hands out ys; block b is its box, which holds v0 at the start. -/
def BoxSeq {α : Type} (n : Nat) (P : Program) (gf : Nat) (lb : Array Value) (encs : α → Array Value) (ys : List α) (b : Nat) (t : TypeId) (v0 : Value) (G : World → Prop) : Prop :=
  ∀ (l : Nat) (J : List α → World → Prop) (W : World), Lets b G J →
    (∀ pre x A v, J pre A → Blk A b t #[v] → pre ++ [x] <+: ys → YieldAt Fence.wide (n - 1) P l (encs x) A fun e A' => e = .returned (.bool true) ∧ J (pre ++ [x]) A' ∧ Blk A' b t #[v]) →
    J [] W → Blk W b t #[v0] →
    CallsIn Fence.wide n P gf (#[.func (.yield l) #[] #[]] ++ lb) W fun e W' => (∃ v, e = .returned v) ∧ J ys W'

/-- How a round's body ends: it falls through. -/
def boxPost (B : Nat) (I : World → Prop) (b : Nat) (t : TypeId) (v : Value) (W : World) : Exit → Act → World → Prop
  | .normal, _, W' => KeepsFrom B W W' ∧ I W' ∧ Blk W' b t #[v]
  | _, _, _ => False

theorem wpIn_rangeFunc_box {α : Type} {P : Program} {n : Nat} {g : Operand} {ps : Array Tmp} {assign body : Code} {Q : Exit → Act → World → Prop} {a : Act} {w : World}
    (h1 : 1 ≤ n) {gf : Nat} {lb : Array Value} (hg : a.eval g = .func (.func gf) #[] lb) (eg : ∀ args w, (callFunc gf args).run P w = .ok (.enter gf args) w)
    {encs : α → Array Value} {ys : List α} {b : Nat} {t : TypeId} {v0 : Value} {G : World → Prop} (hseq : BoxSeq (n - 1) P gf lb encs ys b t v0 G) (hB : Blk w b t #[v0]) (hps : ∀ x, (encs x).size = ps.size)
    (I : List α → World → Prop) (hI : Lets b G I) (hIp : ∀ s A l o o', I s A → w.heap.size ≤ l → A.heap[l]? = some o → o.isCells = false → I s (A.putObj l o'))
    (h0 : I [] w) (a₁ : α → Act)
    (hassign : ∀ (l : Nat) (x : α) (W : World) (K : Act → World → Prop), K (a₁ x) W →
      assign.wpIn (Fence.wide.inRound l) (n - 1 - 1) P (Exit.then K (fun _ _ _ => False)) { tmps := (ps.zip (encs x)).foldl (fun t (p, v) => t.setIfInBounds p v) a.tmps, defers := [] } W)
    (hbody : ∀ (l : Nat) (pre : List α) (x : α) (W : World) (v : Value), w.heap.size ≤ l → I pre W → Blk W b t #[v] → pre ++ [x] <+: ys →
      body.wpIn (Fence.wide.inRound l) (n - 1 - 1) P (boxPost w.heap.size (I (pre ++ [x])) b t v W) (a₁ x) W)
    (hdone : ∀ (D : Nat) (W : World), w.heap.size ≤ D → I ys W → W.heap[D]? = some (.deferred (some [])) → Q .normal { a with defers := { target := .collected D, args := #[] } :: a.defers } W) :
    (Code.rangeFunc g ps assign body).wpIn Fence.wide n P Q a w := by
  have hblt := hB.lt
  refine wpIn_rangeFunc ?_
  intro fn hfn
  obtain ⟨rec, hrec⟩ : ∃ rec : LoopState → Option Code → Loop, rec = fun st pe => { state := st, pending := pe, fn, tmps := a.tmps, params := ps, assign, body, defers := w.heap.size } := ⟨_, rfl⟩
  obtain ⟨W1, hW1⟩ : ∃ W1, (w.alloc (.deferred (some []))).alloc (.loop (rec .ready none)) = W1 := ⟨_, rfl⟩
  have hL1 : W1.heap[w.heap.size + 1]? = some (.loop (rec .ready none)) := by
    rw [← hW1]; have := World.alloc_heap_new (w.alloc (.deferred (some []))) (.loop (rec .ready none)); rwa [World.size_alloc] at this
  have hK1 : W1.heap[w.heap.size]? = some (.deferred (some [])) := by
    rw [← hW1]; exact (Below.heap_alloc _ _ _ (by simp)).trans (World.alloc_heap_new w _)
  have E1 : Ext w W1 := by rw [← hW1]; exact ((Ext.refl w).alloc _).alloc _
  have hI1 : I [] W1 := hI.ext _ _ _ h0 E1
  refine ⟨w.heap.size + 1, [{ target := .collected w.heap.size, args := #[] }], W1, { target := .fn (.func gf) lb, args := #[.func (.yield (w.heap.size + 1)) #[] #[]] }, W1, gf,
    #[.func (.yield (w.heap.size + 1)) #[] #[]] ++ lb, W1, ?_, ?_, ?_, ?_, fun _ => h1, ?_⟩
  · rw [← hW1, hrec]; exact run_enterLoop_outer _ _ _ _ _
  · simp only [resolve, hg]
    simp [go_sem]
  · intro f' hf'; exact trivial
  · simp [invoke, go_sem, eg]
  · refine (hseq (w.heap.size + 1)
      (fun pre W => I pre W ∧ W.heap[w.heap.size + 1]? = some (.loop (rec .ready none)) ∧ W.heap[w.heap.size]? = some (.deferred (some [])))
      W1 ⟨fun s A B hs E => ⟨hI.ext _ _ _ hs.1 E, (Below.block E _ (Array.getElem?_eq_some_iff.1 hs.2.1).1).trans hs.2.1, (Below.block E _ (Array.getElem?_eq_some_iff.1 hs.2.2).1).trans hs.2.2⟩,
        fun s A v hs => ⟨hI.box _ _ _ hs.1, (Below.heap_setCell A _ v _ (by show w.heap.size + 1 ≠ b; omega)).trans hs.2.1, (Below.heap_setCell A _ v _ (by show w.heap.size ≠ b; omega)).trans hs.2.2⟩,
        fun s A hs => hI.good _ _ hs.1⟩
      ?_ ⟨hI1, hL1, hK1⟩ (hB.ext E1)).mono ?_
    · rintro pre x W v ⟨hi, hl, hk⟩ hb hpre
      have hlt : w.heap.size + 1 < W.heap.size := (Array.getElem?_eq_some_iff.1 hl).1
      have hy := run_yield (P := P) (args := encs x) hl (by rw [hrec]; exact hps x)
      rw [hrec] at hy
      refine ⟨fn, _, assign, body, hy, roundIn_of_wpIn hfn (hassign _ x W _ ⟨_, run_beginRound hl (by rw [hrec]), ?_⟩)⟩
      have hl2 : (W.putObj (w.heap.size + 1) (.loop { rec .ready none with state := .busy })).heap[w.heap.size + 1]? = some (.loop { rec .ready none with state := .busy }) := World.putObj_heap_same hlt
      have hk2 : (W.putObj (w.heap.size + 1) (.loop { rec .ready none with state := .busy })).heap[w.heap.size]? = some (.deferred (some [])) := (World.putObj_heap_other (by omega)).trans hk
      have hb2 : Blk (W.putObj (w.heap.size + 1) (.loop { rec .ready none with state := .busy })) b t #[v] := (World.putObj_heap_other (by omega)).trans hb
      refine wpIn_mono (hbody _ pre x _ v (by omega) (hIp _ _ _ _ _ hi (by omega) hl rfl) hb2 hpre) ?_
      rintro e a3 W3 hp
      cases e <;> first | exact hp.elim | skip
      obtain ⟨hk3, hi3, hb3⟩ := hp
      have hl3 := hk3.same _ _ (by omega) hl2 rfl
      have hr := run_endRound (P := P) none hl3
      refine ⟨_, _, hr, rfl, ⟨hIp _ _ _ _ _ hi3 (by omega) hl3 rfl, ?_, (World.putObj_heap_other (by omega)).trans (hk3.same _ _ (Nat.le_refl _) hk2 rfl)⟩, (World.putObj_heap_other (by omega)).trans hb3⟩
      rw [World.putObj_heap_same (Array.getElem?_eq_some_iff.1 hl3).1, hrec]
      rfl
    · rintro e W2 ⟨⟨v, rfl⟩, hi, hl, hk⟩
      exact ⟨none, _, by have := run_endLoop (P := P) hl (by rw [hrec]; simp); rw [hrec] at this; exact this, hdone _ _ (Nat.le_refl _) (hIp _ _ _ _ _ hi (by omega) hl rfl) ((World.putObj_heap_other (by omega)).trans hk)⟩
end Go.Proofs.YtaaeapjnjjbglaaDoor

namespace Go.Proofs.YtaaeapjnjjbglaaDoor
open Go.RowKit Go.Shelf
attribute [local go_sem] Oper.semAt_some

abbrev encBit (x : Nat) : Array Value := #[.int .i64 (x : Int)]
def boxN (b : Nat) (w : World) : Nat := (intOf ((w.cell? ⟨b, 0, none⟩).getD undef)).toNat
theorem boxN_eq {b : Nat} {w : World} {t : TypeId} {r : Nat} (h : Blk w b t #[.int .u32 (r : Int)]) : boxN b w = r := by
  unfold boxN
  rw [h.cell]
  simp [intOf]

set_option maxRecDepth 100000 in
set_option maxHeartbeats 2000000 in
theorem cells1_c (m : Nat) (hm : m < 4294967296) (n b : Nat) (hn : 1 ≤ n) :
    BoxSeq n Tryd.prog 127 #[.pointer (some ⟨b, 0, none⟩)] encBit (bitsOf m) b 130 (.int .u32 (m : Int)) TzTab := by
  rintro l J W hJ hY h0 hB
  have hY' := fun pre (r : Nat) A (hj : J pre A) (hb : Blk A b 130 #[.int .u32 (r : Int)]) (hp : pre ++ [Lib.ctz 32 r] <+: bitsOf m) => hY pre (Lib.ctz 32 r) A _ hj hb hp
  clear hY
  refine callsIn_of_wp Tryd.func127 rfl trivial ?_ rfl
  simp only [Tryd.ntmps127, List.size_toArray, List.length_cons, List.length_nil, Nat.reduceAdd, Nat.reduceSub, Array.replicate_succ, Array.replicate_zero, List.push_toArray, List.append_toArray, List.nil_append, List.cons_append]
  gi_wp2
  gi_loopw [3] (fun _ wr => ∃ (pre : List Nat) (r : Nat), r < 4294967296 ∧ Hid (bitsOf m = pre ++ bitsOf r) ∧ J pre wr ∧ Blk wr b 130 #[.int .u32 (r : Int)]) (fun _ wr => boxN b wr)
  case atStart => exact ⟨[], m, hm, Lib.hid rfl, h0, hB⟩
  case round =>
    clear h0 hB hm
    obtain ⟨pre, r, hr, Hr, hj, hb⟩ := hrel
    have bc := hb.cell
    have bf := hb.frozen
    by_cases hz : r = 0
    · subst hz
      gi_wp2
      go_end0
      have := Hr.out
      rw [bitsOf_zero, List.append_nil] at this
      exact ⟨⟨_, rfl⟩, by rw [this]; exact hj⟩
    · have e1 : ((r : Int) != 0) = true := by simp; omega
      have Hz := Lib.hid hz
      have hY1 := hY' pre r wr hj hb (by rw [Hr.out, bitsOf_step hz hr]; exact ⟨bitsOf (r &&& (r - 1)), by simp⟩)
      clear hY' hz
      gi_wp2_with (refine ⟨trivial, ?_⟩; gi_at_call 66; refine (callsIn_wide.2 (tz_c r Hz.out hr _ (hJ.good _ _ hj))).mono ?_; rintro e w1 ⟨rfl, hw1⟩; subst w1; obtain ⟨fn, tmps, assign, body, hy, hR⟩ := hY1; dsimp only [encBit] at hy)
      refine hR.mono ?_
      rintro e W3 ⟨rfl, hj3, hb3⟩
      have hlt := and_pred_lt Hz.out
      obtain ⟨q, hq⟩ : ∃ q, r &&& (r - 1) = q := ⟨_, rfl⟩
      have hband : bits .and .u32 (r : Int) ((r : Int) - 1) = (q : Int) := by
        have := u32_and_nat r (r - 1) (by omega) (by omega)
        rw [hq] at this
        rw [← this]
        congr 1
        have := Hz.out
        omega
      have hr1 : 1 ≤ (r : Int) := by have := Hz.out; omega
      have Hr' : Hid (bitsOf m = (pre ++ [Lib.ctz 32 r]) ++ bitsOf q) := Lib.hid (by rw [Hr.out, bitsOf_step Hz.out hr, hq]; simp)
      have hq1 : q < r := by rw [← hq]; exact hlt
      clear hlt hq bc bf
      have bc := hb3.cell
      have bf := hb3.frozen
      have hb4 := hb3.set_ 0 (.int .u32 (q : Int))
      have hj4 := hJ.box _ _ (.int .u32 (q : Int)) hj3
      gi_wp2
      go_roundw
      case rel => exact ⟨_, q, by omega, Hr', hj4, hb4⟩
      case measure =>
        rw [boxN_eq hb4, boxN_eq hb]
        omega
end Go.Proofs.YtaaeapjnjjbglaaDoor
