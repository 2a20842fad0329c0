/- A range over an iterator that keeps its state in a box of its own; the body of a round only falls through. cells$1: the iterator over the bits of a set that lies in a box. up: the cells above those of a set. hangs of the program. Small facts for the walk of the search. -/
import Derived.Test.YtaaeapjnjjbglaaGreatDoorCd1
import Derived.Test.YtaaeapjnjjbglaaGreatDoorCd9
import Derived.Test.YtaaeapjnjjbglaaGreatDoorCd33
import Derived.Test.YtaaeapjnjjbglaaGreatDoorCd35
import Derived.RangeFuncNested
import Derived.RangeFuncBound
import Derived.RangeFuncCalls
import Derived.RangeFuncLeaves
import Derived.Shelf.Abstract
import Derived.Shelf.RegionOpen
import Derived.OwnWalkIn
import Derived.TacticsInMore
import Derived.LoopNIn
import Derived.LoopIn
import Derived.BigRegionIn

namespace Go.Proofs.YtaaeapjnjjbglaaGreatDoor
open Go.RowKit

/-- What the caller's word J must abide: growth, and stores into the iterator's box. -/
structure Lets {α : Type} (b : Nat) (G : World → Prop) (J : List α → World → Prop) : Prop where
  ext : ∀ s A B, J s A → Ext A B → J s B
  box : ∀ s A v, J s A → J s (A.setCell ⟨b, 0, none⟩ v)
  good : ∀ s A, J s A → G A

/-- The iterator hands out ys; block b is its box, which holds v0 at the start. -/
def BoxSeq {α : Type} (n : Nat) (P : Program) (gf : Nat) (lb : Array Value) (encs : α → Array Value) (ys : List α) (b : Nat) (t : TypeId) (v0 : Value) (G : World → Prop) : Prop :=
  ∀ (l : Nat) (J : List α → World → Prop) (W : World), Lets b G J →
    (∀ pre x A v, J pre A → Blk A b t #[v] → pre ++ [x] <+: ys → YieldAt Fence.wide (n - 1) P l (encs x) A fun e A' => e = .returned (.bool true) ∧ J (pre ++ [x]) A' ∧ Blk A' b t #[v]) →
    J [] W → Blk W b t #[v0] →
    CallsIn Fence.wide n P gf (#[.func (.yield l) #[] #[]] ++ lb) W fun e W' => (∃ v, e = .returned v) ∧ J ys W'

/-- How a round's body ends: it falls through. -/
def boxPost (B : Nat) (I : World → Prop) (b : Nat) (t : TypeId) (v : Value) (W : World) : Exit → Act → World → Prop
  | .normal, _, W' => KeepsFrom B W W' ∧ I W' ∧ Blk W' b t #[v]
  | _, _, _ => False

theorem wpIn_rangeFunc_box {α : Type} {P : Program} {n : Nat} {g : Operand} {ps : Array Tmp} {assign body : Code} {Q : Exit → Act → World → Prop} {a : Act} {w : World}
    (h1 : 1 ≤ n) {gf : Nat} {lb : Array Value} (hg : a.eval g = .func (.func gf) #[] lb) (eg : ∀ args w, (callFunc gf args).run P w = .ok (.enter gf args) w)
    {encs : α → Array Value} {ys : List α} {b : Nat} {t : TypeId} {v0 : Value} {G : World → Prop} (hseq : BoxSeq (n - 1) P gf lb encs ys b t v0 G) (hB : Blk w b t #[v0]) (hps : ∀ x, (encs x).size = ps.size)
    (I : List α → World → Prop) (hI : Lets b G I) (hIp : ∀ s A l o o', I s A → w.heap.size ≤ l → A.heap[l]? = some o → o.isCells = false → I s (A.putObj l o'))
    (h0 : I [] w) (a₁ : α → Act)
    (hassign : ∀ (l : Nat) (x : α) (W : World) (K : Act → World → Prop), K (a₁ x) W →
      assign.wpIn (Fence.wide.inRound l) (n - 1 - 1) P (Exit.then K (fun _ _ _ => False)) { tmps := (ps.zip (encs x)).foldl (fun t (p, v) => t.setIfInBounds p v) a.tmps, defers := [] } W)
    (hbody : ∀ (l : Nat) (pre : List α) (x : α) (W : World) (v : Value), w.heap.size ≤ l → I pre W → Blk W b t #[v] → pre ++ [x] <+: ys →
      body.wpIn (Fence.wide.inRound l) (n - 1 - 1) P (boxPost w.heap.size (I (pre ++ [x])) b t v W) (a₁ x) W)
    (hdone : ∀ (D : Nat) (W : World), w.heap.size ≤ D → I ys W → W.heap[D]? = some (.deferred (some [])) → Q .normal { a with defers := { target := .collected D, args := #[] } :: a.defers } W) :
    (Code.rangeFunc g ps assign body).wpIn Fence.wide n P Q a w := by
  have hblt := hB.lt
  refine wpIn_rangeFunc ?_
  intro fn hfn
  obtain ⟨rec, hrec⟩ : ∃ rec : LoopState → Option Code → Loop, rec = fun st pe => { state := st, pending := pe, fn, tmps := a.tmps, params := ps, assign, body, defers := w.heap.size } := ⟨_, rfl⟩
  obtain ⟨W1, hW1⟩ : ∃ W1, (w.alloc (.deferred (some []))).alloc (.loop (rec .ready none)) = W1 := ⟨_, rfl⟩
  have hL1 : W1.heap[w.heap.size + 1]? = some (.loop (rec .ready none)) := by
    rw [← hW1]; have := World.alloc_heap_new (w.alloc (.deferred (some []))) (.loop (rec .ready none)); rwa [World.size_alloc] at this
  have hK1 : W1.heap[w.heap.size]? = some (.deferred (some [])) := by
    rw [← hW1]; exact (Below.heap_alloc _ _ _ (by simp)).trans (World.alloc_heap_new w _)
  have E1 : Ext w W1 := by rw [← hW1]; exact ((Ext.refl w).alloc _).alloc _
  have hI1 : I [] W1 := hI.ext _ _ _ h0 E1
  refine ⟨w.heap.size + 1, [{ target := .collected w.heap.size, args := #[] }], W1, { target := .fn (.func gf) lb, args := #[.func (.yield (w.heap.size + 1)) #[] #[]] }, W1, gf,
    #[.func (.yield (w.heap.size + 1)) #[] #[]] ++ lb, W1, ?_, ?_, ?_, ?_, fun _ => h1, ?_⟩
  · rw [← hW1, hrec]; exact run_enterLoop_outer _ _ _ _ _
  · simp only [resolve, hg]
    simp [go_sem]
  · intro f' hf'; exact trivial
  · simp [invoke, go_sem, eg]
  · refine (hseq (w.heap.size + 1)
      (fun pre W => I pre W ∧ W.heap[w.heap.size + 1]? = some (.loop (rec .ready none)) ∧ W.heap[w.heap.size]? = some (.deferred (some [])))
      W1 ⟨fun s A B hs E => ⟨hI.ext _ _ _ hs.1 E, (Below.block E _ (Array.getElem?_eq_some_iff.1 hs.2.1).1).trans hs.2.1, (Below.block E _ (Array.getElem?_eq_some_iff.1 hs.2.2).1).trans hs.2.2⟩,
        fun s A v hs => ⟨hI.box _ _ _ hs.1, (Below.heap_setCell A _ v _ (by show w.heap.size + 1 ≠ b; omega)).trans hs.2.1, (Below.heap_setCell A _ v _ (by show w.heap.size ≠ b; omega)).trans hs.2.2⟩,
        fun s A hs => hI.good _ _ hs.1⟩
      ?_ ⟨hI1, hL1, hK1⟩ (hB.ext E1)).mono ?_
    · rintro pre x W v ⟨hi, hl, hk⟩ hb hpre
      have hlt : w.heap.size + 1 < W.heap.size := (Array.getElem?_eq_some_iff.1 hl).1
      have hy := run_yield (P := P) (args := encs x) hl (by rw [hrec]; exact hps x)
      rw [hrec] at hy
      refine ⟨fn, _, assign, body, hy, roundIn_of_wpIn hfn (hassign _ x W _ ⟨_, run_beginRound hl (by rw [hrec]), ?_⟩)⟩
      have hl2 : (W.putObj (w.heap.size + 1) (.loop { rec .ready none with state := .busy })).heap[w.heap.size + 1]? = some (.loop { rec .ready none with state := .busy }) := World.putObj_heap_same hlt
      have hk2 : (W.putObj (w.heap.size + 1) (.loop { rec .ready none with state := .busy })).heap[w.heap.size]? = some (.deferred (some [])) := (World.putObj_heap_other (by omega)).trans hk
      have hb2 : Blk (W.putObj (w.heap.size + 1) (.loop { rec .ready none with state := .busy })) b t #[v] := (World.putObj_heap_other (by omega)).trans hb
      refine wpIn_mono (hbody _ pre x _ v (by omega) (hIp _ _ _ _ _ hi (by omega) hl rfl) hb2 hpre) ?_
      rintro e a3 W3 hp
      cases e <;> first | exact hp.elim | skip
      obtain ⟨hk3, hi3, hb3⟩ := hp
      have hl3 := hk3.same _ _ (by omega) hl2 rfl
      have hr := run_endRound (P := P) none hl3
      refine ⟨_, _, hr, rfl, ⟨hIp _ _ _ _ _ hi3 (by omega) hl3 rfl, ?_, (World.putObj_heap_other (by omega)).trans (hk3.same _ _ (Nat.le_refl _) hk2 rfl)⟩, (World.putObj_heap_other (by omega)).trans hb3⟩
      rw [World.putObj_heap_same (Array.getElem?_eq_some_iff.1 hl3).1, hrec]
      rfl
    · rintro e W2 ⟨⟨v, rfl⟩, hi, hl, hk⟩
      exact ⟨none, _, by have := run_endLoop (P := P) hl (by rw [hrec]; simp); rw [hrec] at this; exact this, hdone _ _ (Nat.le_refl _) (hIp _ _ _ _ _ hi (by omega) hl rfl) ((World.putObj_heap_other (by omega)).trans hk)⟩
end Go.Proofs.YtaaeapjnjjbglaaGreatDoor

namespace Go.Proofs.YtaaeapjnjjbglaaGreatDoor
open Go.RowKit Go.Shelf
attribute [local go_sem] Oper.semAt_some

abbrev encBit (x : Nat) : Array Value := #[.int .i64 (x : Int)]
def boxN (b : Nat) (w : World) : Nat := (intOf ((w.cell? ⟨b, 0, none⟩).getD undef)).toNat
theorem boxN_eq {b : Nat} {w : World} {t : TypeId} {r : Nat} (h : Blk w b t #[.int .u32 (r : Int)]) : boxN b w = r := by
  unfold boxN
  rw [h.cell]
  simp [intOf]

set_option maxRecDepth 100000 in
set_option maxHeartbeats 2000000 in
theorem cells1_c (m : Nat) (hm : m < 4294967296) (n b : Nat) (hn : 1 ≤ n) :
    BoxSeq n Tryz.prog 93 #[.pointer (some ⟨b, 0, none⟩)] encBit (bitsOf m) b 106 (.int .u32 (m : Int)) TzTab := by
  rintro l J W hJ hY h0 hB
  have hY' := fun pre (r : Nat) A (hj : J pre A) (hb : Blk A b 106 #[.int .u32 (r : Int)]) (hp : pre ++ [Lib.ctz 32 r] <+: bitsOf m) => hY pre (Lib.ctz 32 r) A _ hj hb hp
  clear hY
  refine callsIn_of_wp Tryz.func93 rfl trivial ?_ rfl
  simp only [Tryz.ntmps93, List.size_toArray, List.length_cons, List.length_nil, Nat.reduceAdd, Nat.reduceSub, Array.replicate_succ, Array.replicate_zero, List.push_toArray, List.append_toArray, List.nil_append, List.cons_append]
  gi_wp2
  gi_loopw [3] (fun _ wr => ∃ (pre : List Nat) (r : Nat), r < 4294967296 ∧ Hid (bitsOf m = pre ++ bitsOf r) ∧ J pre wr ∧ Blk wr b 106 #[.int .u32 (r : Int)]) (fun _ wr => boxN b wr)
  case atStart => exact ⟨[], m, hm, Lib.hid rfl, h0, hB⟩
  case round =>
    clear h0 hB hm
    obtain ⟨pre, r, hr, Hr, hj, hb⟩ := hrel
    have bc := hb.cell
    have bf := hb.frozen
    by_cases hz : r = 0
    · subst hz
      gi_wp2
      go_end0
      have := Hr.out
      rw [bitsOf_zero, List.append_nil] at this
      exact ⟨⟨_, rfl⟩, by rw [this]; exact hj⟩
    · have e1 : ((r : Int) != 0) = true := by simp; omega
      have Hz := Lib.hid hz
      have hY1 := hY' pre r wr hj hb (by rw [Hr.out, bitsOf_step hz hr]; exact ⟨bitsOf (r &&& (r - 1)), by simp⟩)
      clear hY' hz
      gi_wp2_with (refine ⟨trivial, ?_⟩; gi_at_call 65; refine (callsIn_wide.2 (tz_c r Hz.out hr _ (hJ.good _ _ hj))).mono ?_; rintro e w1 ⟨rfl, hw1⟩; subst w1; obtain ⟨fn, tmps, assign, body, hy, hR⟩ := hY1; dsimp only [encBit] at hy)
      refine hR.mono ?_
      rintro e W3 ⟨rfl, hj3, hb3⟩
      have hlt := and_pred_lt Hz.out
      obtain ⟨q, hq⟩ : ∃ q, r &&& (r - 1) = q := ⟨_, rfl⟩
      have hband : bits .and .u32 (r : Int) ((r : Int) - 1) = (q : Int) := by
        have := u32_and_nat r (r - 1) (by omega) (by omega)
        rw [hq] at this
        rw [← this]
        congr 1
        have := Hz.out
        omega
      have hr1 : 1 ≤ (r : Int) := by have := Hz.out; omega
      have Hr' : Hid (bitsOf m = (pre ++ [Lib.ctz 32 r]) ++ bitsOf q) := Lib.hid (by rw [Hr.out, bitsOf_step Hz.out hr, hq]; simp)
      have hq1 : q < r := by rw [← hq]; exact hlt
      clear hlt hq bc bf
      have bc := hb3.cell
      have bf := hb3.frozen
      have hb4 := hb3.set_ 0 (.int .u32 (q : Int))
      have hj4 := hJ.box _ _ (.int .u32 (q : Int)) hj3
      gi_wp2
      go_roundw
      case rel => exact ⟨_, q, by omega, Hr', hj4, hb4⟩
      case measure =>
        rw [boxN_eq hb4, boxN_eq hb]
        omega
end Go.Proofs.YtaaeapjnjjbglaaGreatDoor

namespace Go.Proofs.YtaaeapjnjjbglaaGreatDoor
open Go.RowKit Go.Shelf
attribute [local go_sem] Oper.semAt_some

theorem upL_snoc (ab : List Int) (pre : List Nat) (x : Nat) : upL ab (pre ++ [x]) = upStep ab (upL ab pre) x := by simp [upL]

set_option maxRecDepth 100000 in
set_option maxHeartbeats 4000000 in
theorem up_c (g : Nat) (s : Shape) (A : Option Addr) (cap : Nat) (l : List Plate) (PA : Option Addr) (pcap : Nat) (NA : Option Addr) (ncap : Nat) (AA : Option Addr) (acap : Nat) (EA : Option Addr) (ec : Nat) (OA : Option Addr) (oc : Nat) (LA : Option Addr) (lc : Nat) (ms : List Nat)
    (ok : s.Ok) (m : Nat) (hm32 : m < 4294967296) (hm : ∀ b, m.testBit b = true → b < fullN s.cells) (w : World) (hB : Board w g s A cap l PA pcap NA ncap AA acap EA ec OA oc LA lc ms) (hT : TzTab w) :
    Calls Tryz.prog 43 #[.pointer (some ⟨g, 0, none⟩), .int .u32 (m : Int)] w fun e w' => e = .returned (.int .u32 (upN (abv s) m : Nat)) ∧ Ext w w' := by
  refine (callsIn_wide (n := 5)).1 ?_
  refine callsIn_of_wp_marks Tryz.func43 rfl trivial ?_ rfl
  simp only [Tryz.ntmps43, List.size_toArray, List.length_cons, List.length_nil, Nat.reduceAdd, Nat.reduceSub, Array.replicate_succ, Array.replicate_zero, List.push_toArray, List.append_toArray, List.nil_append, List.cons_append]
  obtain ⟨W1, hW1, E1, B1, hz1⟩ := box_ w #[.pointer (some ⟨g, 0, none⟩)] 65
  obtain ⟨W2, hW2, E2, B2, hz2⟩ := box_ W1 #[.int .u32 0] 106
  rw [hz1] at B2 hz2
  have B1 := B1.ext E2
  have E02 := E1.trans E2
  gi_wp2_with fail
  refine ⟨trivial, ?_⟩
  gi_at_call 71
  refine (callsIn_wide.2 (cells_c m _)).mono ?_
  rintro e W3 ⟨rfl, E3, B3, hz3⟩
  rw [hz2] at B3 hz3
  gi_wp2_with fail
  have C1 := B1.ext E3
  have C2 := B2.ext E3
  have E03 := E02.trans E3
  clear B1 B2 hW1 hW2
  have hsz := hz3
  refine wpIn_rangeFunc_box (by omega) (gf := 93) (lb := #[.pointer (some ⟨w.heap.size + 1 + 1, 0, none⟩)]) rfl (enters_of Tryz.func93 (by kernel_rfl) rfl)
    (cells1_c m hm32 _ (w.heap.size + 1 + 1) (by omega)) B3 (fun _ => rfl)
    (fun pre X => ((Blk X w.heap.size 65 #[.pointer (some ⟨g, 0, none⟩)] ∧ Blk X (w.heap.size + 1) 106 #[.int .u32 (upL (abv s) pre : Nat)]) ∧ Ext w X) ∧ upL (abv s) pre < 65536)
    ⟨fun pre X Y h E => ⟨⟨⟨h.1.1.1.ext E, h.1.1.2.ext E⟩, h.1.2.trans E⟩, h.2⟩, fun pre X v h => ⟨⟨⟨h.1.1.1.far (by show w.heap.size ≠ w.heap.size + 1 + 1; omega) v, h.1.1.2.far (by show w.heap.size + 1 ≠ w.heap.size + 1 + 1; omega) v⟩, h.1.2.setCell (by show w.heap.size ≤ w.heap.size + 1 + 1; omega) v⟩, h.2⟩,
      fun pre X h => hT.ext h.1.2⟩
    (fun pre X l' o o' h hl ho hc => ⟨⟨⟨h.1.1.1.grown (grownBy_putObj' X l' o') (fun e => by cases e; rw [show X.heap[w.heap.size]? = _ from h.1.1.1] at ho; cases ho; cases hc),
      h.1.1.2.grown (grownBy_putObj' X l' o') (fun e => by cases e; rw [show X.heap[w.heap.size + 1]? = _ from h.1.1.2] at ho; cases ho; cases hc)⟩, Ext.grown h.1.2 (grownBy_putObj' X l' o') (fun k e => by cases e; omega)⟩, h.2⟩)
    ⟨⟨⟨C1, C2⟩, E03⟩, by show 0 < 65536; omega⟩
    (fun x => { tmps := #[.pointer (some ⟨g, 0, none⟩), .int .u32 (m : Int), .pointer (some ⟨w.heap.size, 0, none⟩), undef, .int .u32 0, .pointer (some ⟨w.heap.size + 1, 0, none⟩), .int .i64 (x : Int), .int .u32 (m : Int),
          .func (.func 93) #[] #[.pointer (some ⟨w.heap.size + 1 + 1, 0, none⟩)], .int .i64 (x : Int), undef, undef, undef, undef, undef, undef, undef, undef, undef, undef, undef, undef, undef, undef, undef, undef, undef, undef, undef], defers := [] })
    ?assign ?body ?done
  case assign =>
    rintro l' x X K hK
    dsimp only [encBit]
    gi_wp2
    exact hK
  case body =>
    rintro l' pre x X v hl ⟨⟨⟨D1, D2⟩, hE⟩, hlt⟩ hb hpre
    have hxm : x ∈ bitsOf m := hpre.subset (by simp)
    have hx : x < fullN s.cells := hm x (by unfold bitsOf at hxm; exact (List.mem_filter.1 hxm).2)
    have hxl : x < (abv s).length := by rw [abv_len]; exact hx
    obtain ⟨a, ha⟩ : ∃ a, (abv s)[x]? = some a := ⟨_, List.getElem?_eq_getElem hxl⟩
    have ha2 : (abv s).getD x (-1) = a := by rw [List.getD_eq_getElem?_getD, ha]; rfl
    have hBX := hB.ext hE
    obtain ⟨ab, aoff, rfl, hab, hac⟩ := hBX.above.at_ ha
    have c6 := hBX.c6
    have d1 := D1.cell
    have d2 := D2.cell
    have f2 := D2.frozen
    have hF := ok.full
    have hstep := upL_snoc (abv s) pre x
    have hsx := hE.size
    unfold upStep at hstep
    rw [ha2] at hstep
    have hahi : a < 16 := by
      rcases abv_lo ha with h | h
      · omega
      · exact absurd ok h
    by_cases h0 : 0 ≤ a
    · rw [if_pos h0] at hstep
      obtain ⟨k, rfl⟩ := Int.eq_ofNat_of_zero_le h0
      have Hstep := Lib.hid hstep
      have hor := or_lt hlt (show k < 16 by omega)
      have hval : bits .or .u32 ((upL (abv s) pre : Nat) : Int) (IntKind.u32.wrap (2 ^ k)) = ((upL (abv s) (pre ++ [x]) : Nat) : Int) := by
        rw [Hstep.out]
        exact or_bit hlt (by omega)
      have Hval := Lib.hid hval
      clear hval
      have fin : ∀ u, u = Value.int .u32 ((upL (abv s) (pre ++ [x]) : Nat) : Int) → KeepsFrom W3.heap.size X ((X.setCell ⟨w.heap.size + 1, 0, none⟩ u).drew) ∧
          (((Blk (X.setCell ⟨w.heap.size + 1, 0, none⟩ u).drew w.heap.size 65 #[.pointer (some ⟨g, 0, none⟩)] ∧ Blk (X.setCell ⟨w.heap.size + 1, 0, none⟩ u).drew (w.heap.size + 1) 106 #[.int .u32 (upL (abv s) (pre ++ [x]) : Nat)]) ∧ Ext w (X.setCell ⟨w.heap.size + 1, 0, none⟩ u).drew) ∧ upL (abv s) (pre ++ [x]) < 65536) ∧
          Blk (X.setCell ⟨w.heap.size + 1, 0, none⟩ u).drew (w.heap.size + 1 + 1) 106 #[v] := by
        rintro u rfl
        have hk := (KeepsOthers.setCell X ⟨w.heap.size + 1, 0, none⟩ (.int .u32 ((upL (abv s) (pre ++ [x]) : Nat) : Int))).from W3.heap.size
        refine ⟨⟨hk.size, hk.same⟩, ⟨⟨⟨D1.far (by show w.heap.size ≠ w.heap.size + 1; omega) _, D2.set_ 0 _⟩, (hE.setCell (by show w.heap.size ≤ w.heap.size + 1; omega) _).drew⟩, by rw [Hstep.out]; exact hor⟩, hb.far (by show w.heap.size + 1 + 1 ≠ w.heap.size + 1; omega) _⟩
      have Fin := Lib.hid fin
      clear hstep ha ha2 hpre hxm hm hb fin hor
      gi_wp2_with fail
      gi_region
      all_goals exact Fin.out _ (by rw [Hval.out])
    · rw [if_neg h0] at hstep
      have h0' : decide (0 ≤ a) = false := by simpa using h0
      have Hstep := Lib.hid hstep
      have Hb := Lib.hid hb
      clear hstep ha ha2 hpre hxm hm hb
      gi_wp2
      exact ⟨KeepsFrom.refl _ _, ⟨⟨⟨D1, by rw [Hstep.out]; exact D2⟩, hE⟩, by rw [Hstep.out]; exact hlt⟩, Hb.out⟩
  case done =>
    rintro D X hD ⟨⟨⟨D1, D2⟩, hE⟩, hlt⟩ hK
    have d2 := D2.cell
    gi_wp2
    refine ⟨by simp, .inl ⟨_, _, rfl, run_takeDeferred hK, ?_⟩⟩
    exact ⟨_, results_tmp rfl _ _ _, rfl, Below.trans hE (belowK_b (w := w) (Nat.le_refl _) X D _ _ (by omega) hK rfl rfl)⟩
end Go.Proofs.YtaaeapjnjjbglaaGreatDoor

namespace Go.Proofs.YtaaeapjnjjbglaaGreatDoor
open Go.RowKit

theorem sets_at {w : World} {SA : Option Addr} {sc : Nat} {out : List Nat} (h : SliceIs w SA out.length sc 1 (out.map fun m => [uv m])) {k : Nat} (hk : k < out.length) :
    ∃ b off, SA = some ⟨b, off, none⟩ ∧ b < w.heap.size ∧ w.cell? ⟨b, off + k, none⟩ = some (.int .u32 (outAt out k : Nat)) := by
  obtain ⟨b, off, hA, hb, hc⟩ := SliceIs.cells h (by omega)
  have hr : (out.map fun m => [uv m])[k]? = some [uv (outAt out k)] := by
    rw [List.getElem?_map, List.getElem?_eq_getElem hk]
    unfold outAt
    rw [List.getD_eq_getElem?_getD, List.getElem?_eq_getElem hk]
    rfl
  have := hc k _ hr 0 _ rfl
  simp only [Nat.mul_one, Nat.add_zero] at this
  exact ⟨b, off, hA, hb, this⟩
theorem upN_small {s : Shape} (ok : s.Ok) {m : Nat} (hm : m < 4294967296) : upN (abv s) m < 65536 := by
  have : upN (abv s) m < 2 ^ 16 := by
    apply Nat.lt_pow_two_of_testBit
    intro i hi
    cases hb : (upN (abv s) m).testBit i
    · rfl
    · rw [upN_bits (by omega)] at hb
      obtain ⟨n, hn, e⟩ := hb
      have hg : (abv s)[n]? = some (i : Int) := by
        rw [List.getD_eq_getElem?_getD] at e
        cases h : (abv s)[n]? with
        | none => rw [h] at e; simp at e
        | some a => rw [h] at e; simp at e; rw [e]
      rcases abv_lo hg with h | h
      · have := ok.full
        omega
      · exact absurd ok h
  omega
theorem band_eq {a b r : Nat} (h : a &&& b = r) (ha : a < 65536) (hb : b < 65536) : bits .and .u32 (a : Int) (b : Int) = (r : Int) := by rw [bits_and ha hb, h]

set_option maxRecDepth 100000 in
set_option maxHeartbeats 8000000 in
theorem hangs_c (g : Nat) (s : Shape) (A : Option Addr) (cap : Nat) (l : List Plate) (PA : Option Addr) (pcap : Nat) (NA : Option Addr) (ncap : Nat) (AA : Option Addr) (acap : Nat) (EA : Option Addr) (ec : Nat) (OA : Option Addr) (oc : Nat) (LA : Option Addr) (lc : Nat) (ms : List Nat)
    (c : List Laid) (out : List Nat) (SA : Option Addr) (sc : Nat) (ha : Apart s l c out) (hclen : c.length ≤ 1000) (w : World) (hB : Board w g s A cap l PA pcap NA ncap AA acap EA ec OA oc LA lc ms) (hS : SliceIs w SA out.length sc 1 (out.map fun m => [uv m])) (hT : TzTab w) :
    Calls Tryz.prog 22 #[.pointer (some ⟨g, 0, none⟩), .slice SA out.length sc] w fun e w' => e = .returned (.bool (hangB s l c)) ∧ Ext w w' := by
  have ok := ha.ok
  have hol := ha.len
  have hpos : 0 < out.length := by rw [hol]; exact ha.pos
  have hol1 : out.length ≤ 1000 := by omega
  obtain ⟨sb, soff, hSA, hsb, s0⟩ := sets_at hS hpos
  subst hSA
  have Hol := Lib.hid hol
  rw [Nat.add_zero] at s0
  clear hol
  have HA := Lib.hid ha
  clear ha
  go_enter Tryz.func22, Tryz.ntmps22
  go_wp2_with fail
  go_loopw [5, 6] (fun iv ch wr => ∃ (m : Nat) (b : Bool), iv = .int .u32 (m : Int) ∧ ch = .bool b ∧ Hid (InU s l c out m ∧ (b = false → ∀ k, k < c.length → condU (abv s) (outAt out k) m = false)) ∧ m < 65536 ∧ Ext w wr) (fun iv ch _ => 2 * (65536 - (intOf iv).toNat) + flag ch)
  case atStart => exact ⟨outAt out 0, true, rfl, rfl, Lib.hid ⟨InU.start HA.out, fun h => by cases h⟩, HA.out.small (by rw [← Hol.out]; exact hpos), Ext.refl _⟩
  case round =>
    clear s0
    obtain ⟨m, b, rfl, rfl, HI, hm, E⟩ := hrel
    cases b
    · have Hr := Lib.hid (InU.done HA.out HI.out.1 (HI.out.2 rfl))
      have c6 := (hB.ext E).c6
      by_cases he : pop m = fullN s.cells
      · have He := Lib.hid he
        have e1 : ((pop m : Int) == (fullN s.cells : Int)) = true := by simp [he]
        clear he
        go_wp2_with fail
        refine wp_region_grow (by kernel_rfl) (by kernel_rfl) ?_
        repeat (go_big_quiet_step (((go_at_call 44; exact quiet_ext (ones_c m (by omega) _)))))
        refine wpQuiet_nil ?_
        intro W7 hW7
        have E7 : Ext wr W7 := by
          obtain ⟨x, rfl⟩ := hW7
          exact (Ext.refl _).grow x
        clear hW7
        obtain ⟨hcW7, hfW7, hzW7⟩ := ext_facts E7
        go_wp2_with fail
        go_ret
        exact ⟨by rw [Hr.out, decide_eq_true He.out] <;> rfl, E.trans E7⟩
      · have He := Lib.hid he
        have e1 : ((pop m : Int) == (fullN s.cells : Int)) = false := by simp; omega
        clear he
        go_wp2_with fail
        refine wp_region_grow (by kernel_rfl) (by kernel_rfl) ?_
        repeat (go_big_quiet_step (((go_at_call 44; exact quiet_ext (ones_c m (by omega) _)))))
        refine wpQuiet_nil ?_
        intro W7 hW7
        have E7 : Ext wr W7 := by
          obtain ⟨x, rfl⟩ := hW7
          exact (Ext.refl _).grow x
        clear hW7
        obtain ⟨hcW7, hfW7, hzW7⟩ := ext_facts E7
        go_wp2_with fail
        go_ret
        exact ⟨by rw [Hr.out, decide_eq_false He.out] <;> rfl, E.trans E7⟩
    · obtain ⟨wo, rfl⟩ : ∃ wo : World, wo = wr := ⟨_, rfl⟩
      go_wp2_with fail
      go_loopw [5, 6, 15] (fun iv ch kv wr => ∃ (m' k : Nat) (b : Bool), k ≤ out.length ∧ iv = .int .u32 (m' : Int) ∧ ch = .bool b ∧ kv = .int .i64 k ∧ Hid (PassU s l c out m m' b k) ∧ m' < 65536 ∧ Ext w wr) (fun _ _ kv _ => out.length - (intOf kv).toNat)
      case atStart => exact ⟨m, 0, false, by omega, rfl, rfl, rfl, Lib.hid (PassU.start HI.out.1), hm, E⟩
      case round =>
        clear E
        obtain ⟨m', k, b, hk, rfl, rfl, rfl, HP, hm', E⟩ := hrel
        by_cases hlt : k < out.length
        · obtain ⟨sb', soff', hA', hsb', sk⟩ := sets_at (hS.ext E) hlt
          cases hA'
          have hkc : k < c.length := by rw [← Hol.out]; exact hlt
          have hks := HA.out.small hkc
          obtain ⟨x, hx⟩ : ∃ x, outAt out k = x := ⟨_, rfl⟩
          rw [hx] at sk hks
          have Hx := Lib.hid hx
          have hxF : ∀ b, x.testBit b = true → b < fullN s.cells := fun b hb => HA.out.lt k b hkc (by rw [Hx.out]; exact hb)
          have HxF := Lib.hid hxF
          have HmF : Hid (∀ b, m'.testBit b = true → b < fullN s.cells) := Lib.hid (fun b hb => InU.lt HA.out HP.out.inu hb)
          clear hx hxF
          obtain ⟨r0, hr0⟩ : ∃ r0, x &&& m' = r0 := ⟨_, rfl⟩
          have hb0 := band_eq hr0 hks hm'
          by_cases h0 : r0 = 0
          · have H0 : Hid (x &&& m' = 0) := Lib.hid (by rw [hr0, h0])
            have e0 : ((r0 : Int) == 0) = true := by simp [h0]
            clear hr0 h0
            have hum := upN_small ok (m := m') (by omega)
            have hux := upN_small ok (m := x) (by omega)
            obtain ⟨r1, hr1⟩ : ∃ r1, x &&& upN (abv s) m' = r1 := ⟨_, rfl⟩
            have hb1 := band_eq hr1 hks hum
            obtain ⟨r2, hr2⟩ : ∃ r2, upN (abv s) x &&& m' = r2 := ⟨_, rfl⟩
            have hb2 := band_eq hr2 hux hm'
            by_cases h1 : r1 = 0
            · have H1 : Hid (x &&& upN (abv s) m' = 0) := Lib.hid (by rw [hr1, h1])
              have e1 : ((r1 : Int) != 0) = false := by simp [h1]
              clear hr1 h1
              by_cases h2 : r2 = 0
              · have Hno : Hid (condU (abv s) (outAt out k) m' = false) := Lib.hid (by
                  rw [Hx.out]
                  unfold condU
                  simp [H1.out, hr2, h2])
                have e2 : ((r2 : Int) != 0) = false := by simp [h2]
                clear hr2 h2
                go_wp2_with fail
                refine (up_c g s A cap l PA pcap NA ncap AA acap EA ec OA oc LA lc ms ok m' (by omega) HmF.out _ (hB.ext E) (hT.ext E)).mono ?_
                rintro e w2 ⟨rfl, E2⟩
                obtain ⟨hcw2, hfw2, hzw2⟩ := ext_facts E2
                go_wp2_with fail
                refine (up_c g s A cap l PA pcap NA ncap AA acap EA ec OA oc LA lc ms ok x (by omega) HxF.out _ (hB.ext (E.trans E2)) (hT.ext (E.trans E2))).mono ?_
                rintro e w3 ⟨rfl, E3⟩
                obtain ⟨hcw3, hfw3, hzw3⟩ := ext_facts E3
                go_wp2_with fail
                go_roundw
                case rel => exact ⟨m', k + 1, b, by omega, rfl, rfl, by go_num, Lib.hid (HP.out.same Hno.out), hm', (E.trans E2).trans E3⟩
                case measure => simp only [intOf]; omega
              · have Hyes : Hid (condU (abv s) x m' = true) := Lib.hid (condU_iff.2 ⟨H0.out, Or.inr (by rw [hr2]; exact h2)⟩)
                have e2 : ((r2 : Int) != 0) = true := by simp; omega
                clear hr2 h2
                go_wp2_with fail
                refine (up_c g s A cap l PA pcap NA ncap AA acap EA ec OA oc LA lc ms ok m' (by omega) HmF.out _ (hB.ext E) (hT.ext E)).mono ?_
                rintro e w2 ⟨rfl, E2⟩
                obtain ⟨hcw2, hfw2, hzw2⟩ := ext_facts E2
                go_wp2_with fail
                refine (up_c g s A cap l PA pcap NA ncap AA acap EA ec OA oc LA lc ms ok x (by omega) HxF.out _ (hB.ext (E.trans E2)) (hT.ext (E.trans E2))).mono ?_
                rintro e w3 ⟨rfl, E3⟩
                obtain ⟨hcw3, hfw3, hzw3⟩ := ext_facts E3
                have hor : bits .or .u32 (m' : Int) (x : Int) = ((m' ||| x : Nat) : Int) := bits_or hm' hks
                have hsm : m' ||| x < 65536 := by
                  have := Nat.or_lt_two_pow (x := m') (y := x) (n := 16) (by omega) (by omega)
                  omega
                go_wp2_with fail
                go_roundw
                case rel => exact ⟨m' ||| x, k + 1, true, by omega, rfl, rfl, by go_num, Lib.hid (by have := HP.out.more HA.out hkc (by rw [Hx.out]; exact Hyes.out); rw [Hx.out] at this; exact this), hsm, (E.trans E2).trans E3⟩
                case measure => simp only [intOf]; omega
            · have Hyes : Hid (condU (abv s) x m' = true) := Lib.hid (condU_iff.2 ⟨H0.out, Or.inl (by rw [hr1]; exact h1)⟩)
              have e1 : ((r1 : Int) != 0) = true := by simp; omega
              clear hr1 hr2 h1
              go_wp2_with fail
              refine (up_c g s A cap l PA pcap NA ncap AA acap EA ec OA oc LA lc ms ok m' (by omega) HmF.out _ (hB.ext E) (hT.ext E)).mono ?_
              rintro e w2 ⟨rfl, E2⟩
              obtain ⟨hcw2, hfw2, hzw2⟩ := ext_facts E2
              have hor : bits .or .u32 (m' : Int) (x : Int) = ((m' ||| x : Nat) : Int) := bits_or hm' hks
              have hsm : m' ||| x < 65536 := by
                have := Nat.or_lt_two_pow (x := m') (y := x) (n := 16) (by omega) (by omega)
                omega
              go_wp2_with fail
              go_roundw
              case rel => exact ⟨m' ||| x, k + 1, true, by omega, rfl, rfl, by go_num, Lib.hid (by have := HP.out.more HA.out hkc (by rw [Hx.out]; exact Hyes.out); rw [Hx.out] at this; exact this), hsm, E.trans E2⟩
              case measure => simp only [intOf]; omega
          · have Hno : Hid (condU (abv s) (outAt out k) m' = false) := Lib.hid (by
              rw [Hx.out]
              unfold condU
              simp [hr0, h0])
            have e0 : ((r0 : Int) == 0) = false := by simp; omega
            clear hr0 h0
            go_wp2_with fail
            go_roundw
            case rel => exact ⟨m', k + 1, b, by omega, rfl, rfl, by go_num, Lib.hid (HP.out.same Hno.out), hm', E⟩
            case measure => simp only [intOf]; omega
        · obtain rfl : k = out.length := by omega
          have h2 := HP.out.le
          have h3 := HP.out.yes
          have Hno : Hid (b = false → ∀ k, k < c.length → condU (abv s) (outAt out k) m' = false) := Lib.hid (fun hb j hj => HP.out.no hb j (by rw [Hol.out]; exact hj))
          go_wp2_with fail
          go_roundw
          case rel => exact ⟨m', b, rfl, rfl, Lib.hid ⟨HP.out.inu, Hno.out⟩, hm', E⟩
          case measure =>
            cases b
            · simp only [intOf, flag]; omega
            · have := h3 rfl
              simp only [intOf, flag]; omega
end Go.Proofs.YtaaeapjnjjbglaaGreatDoor

namespace Go.Proofs.YtaaeapjnjjbglaaGreatDoor
open Go.RowKit

theorem infoLaid : (Tryz.prog.info? 55).map (fun i => (i.zero, i.size, i.bytes)) = some (some (.agg #[.int .i64 0, .int .i64 0, .int .i64 0, .int .i64 0, .bool false]), 5, 40) := by kernel_rfl
def kidV (q : Int) (cov : Nat) : Option Nat → Option Nat
  | none => none
  | some m => if q = 0 ∨ m &&& cov ≠ 0 then none else some m
theorem kid_eq (s : Shape) (l : List Plate) (c : List Laid) (cov i : Nat) (t : Bool) : kidOk s l c cov i t = kidV (leftN l c i) cov (coverOf s l (laidN s (lowZ cov) i t)) := by
  unfold kidOk kidV leftN
  cases coverOf s l (laidN s (lowZ cov) i t) <;> rfl
theorem xor_full {cov : Nat} (h : cov < 65536) : bits .xor .u32 IntKind.u32.max (cov : Int) = ((4294967295 - cov : Nat) : Int) := by
  have e : IntKind.u32.max = ((4294967295 : Nat) : Int) := by decide
  rw [e, u32_xor_nat _ _ (by omega) (by omega)]
  congr 1
  apply Nat.eq_of_testBit_eq
  intro i
  have h1 := Nat.testBit_two_pow_sub_succ (n := 32) (x := cov) (by omega) i
  rw [show 2 ^ 32 - (cov + 1) = 4294967295 - cov by omega] at h1
  rw [Nat.testBit_xor, h1, show (4294967295 : Nat) = 2 ^ 32 - 1 from rfl, Nat.testBit_two_pow_sub_one]
  by_cases hi : i < 32
  · simp [hi]
  · have : cov < 2 ^ i := Nat.lt_of_lt_of_le (by omega : cov < 2 ^ 32) (Nat.pow_le_pow_right (by omega) (by omega))
    simp [hi, Nat.testBit_lt_two_pow this]
theorem SetIs.count {s : Shape} {l : List Plate} {c : List Laid} {k : Nat} {out : List Nat} {all : Nat} (ok : s.Ok) (h : SetIs s l c k out all) : k ≤ fullN s.cells := by
  have key : ∀ i, i < k → (i : Int) ≤ numL s (laidAt c i) := by
    intro i
    induction i with
    | zero =>
      intro hi
      have := h.num 0 hi
      have : (-1 : Int) < numL s (laidAt c 0) := this
      omega
    | succ i ih =>
      intro hi
      have h1 := ih (by omega)
      have h2 : numL s (laidAt c i) < numL s (laidAt c (i + 1)) := h.num (i + 1) hi
      push_cast
      omega
  rcases Nat.eq_zero_or_pos k with h0 | h0
  · omega
  · have h1 := key (k - 1) (by omega)
    have h2 : numL s (laidAt c (k - 1)) < fullN s.cells := num_lt_full ok _ _ _
    omega

end Go.Proofs.YtaaeapjnjjbglaaGreatDoor
