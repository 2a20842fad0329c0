/- The given statement LatticeNormalSaid: for every input the law returns true, and each argument reads behind the call as it did. No conditions. -/
import Derived.Test.YtenigkngmdofiaaGreatBGrp
import Derived.Test.YtenigkngmdofiaaGreatBSame
import Derived.Test.YtenigkngmdofiaaGreatBRKnob
import Derived.Test.YtenigkngmdofiaaGreatBLinkS
import Derived.Test.YtenigkngmdofiaaGreatBAlive
import Derived.Test.YtenigkngmdofiaaGreatBApi
import Derived.Test.YtenigkngmdofiaaGreatBOpen
namespace Go.Proofs.YtenigkngmdofiaaGreat
open Go.RowKit

/-- Whether a kind with one turn at one place looks as with another one at another one. -/
def lookB (k : Knd) (ta : Nat) (pa : Pt) (tb : Nat) (pb : Pt) : Bool := eqC (sortP (placeP k.cells ta pa)) (sortP (placeP k.cells tb pb)) && sameK (placeK k.knobs ta pa) (placeK k.knobs tb pb)
theorem lookB_iff {k : Knd} {ta tb : Nat} {pa pb : Pt} : lookB k ta pa tb pb = true ↔ Look k ta pa tb pb := by
  unfold lookB sameK
  rw [decide_eq_true (by rw [placeK_len, placeK_len]), Bool.true_and, Bool.and_eq_true, eqC_iff, sortP_eq, subK_iff]
  exact ⟨fun h => ⟨h.1, h.2⟩, fun h => ⟨h.c, h.k⟩⟩
structure Al1 (W0 : World) (vQ va vb : Value) (SA SB : Nat) (i c : Int) (n1 n2 : Nat) (L1 L2 : List Pt) (K1 K2 : List Knb) (s : Bool) (L : Nat → Bool) (us : Nat → Value) (w : World) : Prop where
  x : Ext W0 w
  f0 : L 0 = true → us 0 = .pointer (some ⟨SA, 0, none⟩)
  f1 : L 1 = true → us 1 = .int .i64 i
  f2 : L 2 = true → us 2 = .pointer (some ⟨SB, 0, none⟩)
  f3 : L 3 = true → us 3 = .int .i64 i
  f4 : L 4 = true → us 4 = .bool true
  f5 : L 5 = true → us 5 = .bool true
  f6 : L 6 = true → us 6 = .pointer (some ⟨SA, 5, none⟩)
  f7 : L 7 = true → us 7 = .int .u8 c
  f8 : L 8 = true → us 8 = .pointer (some ⟨SB, 5, none⟩)
  f9 : L 9 = true → us 9 = .int .u8 c
  f10 : L 10 = true → us 10 = .bool true
  f11 : L 11 = true → us 11 = .bool true
  f12 : L 12 = true → us 12 = .bool true
  f13 : L 13 = true → us 13 = vQ
  f14 : L 14 = true → us 14 = va
  f15 : L 15 = true → RowV w (us 15) n1 L1
  f16 : L 16 = true → us 16 = vQ
  f17 : L 17 = true → us 17 = vb
  f18 : L 18 = true → RowV w (us 18) n1 L2
  f19 : L 19 = true → us 19 = .bool true
  f20 : L 20 = true → us 20 = .bool true
  f21 : L 21 = true → us 21 = .bool true
  f22 : L 22 = true → us 22 = vQ
  f23 : L 23 = true → us 23 = va
  f24 : L 24 = true → KV w (us 24) n2 K1
  f25 : L 25 = true → us 25 = vQ
  f26 : L 26 = true → us 26 = vb
  f27 : L 27 = true → KV w (us 27) n2 K2
  f28 : L 28 = true → us 28 = .bool s
  f29 : L 29 = true → us 29 = .bool s
  f30 : L 30 = true → us 30 = .bool s
structure Al0 (W0 : World) (vQ va vb : Value) (SA SB : Nat) (i c : Int) (n1 : Nat) (L1 L2 : List Pt) (L : Nat → Bool) (us : Nat → Value) (w : World) : Prop where
  x : Ext W0 w
  f0 : L 0 = true → us 0 = .pointer (some ⟨SA, 0, none⟩)
  f1 : L 1 = true → us 1 = .int .i64 i
  f2 : L 2 = true → us 2 = .pointer (some ⟨SB, 0, none⟩)
  f3 : L 3 = true → us 3 = .int .i64 i
  f4 : L 4 = true → us 4 = .bool true
  f5 : L 5 = true → us 5 = .bool true
  f6 : L 6 = true → us 6 = .pointer (some ⟨SA, 5, none⟩)
  f7 : L 7 = true → us 7 = .int .u8 c
  f8 : L 8 = true → us 8 = .pointer (some ⟨SB, 5, none⟩)
  f9 : L 9 = true → us 9 = .int .u8 c
  f10 : L 10 = true → us 10 = .bool true
  f11 : L 11 = true → us 11 = .bool true
  f12 : L 12 = true → us 12 = .bool true
  f13 : L 13 = true → us 13 = vQ
  f14 : L 14 = true → us 14 = va
  f15 : L 15 = true → RowV w (us 15) n1 L1
  f16 : L 16 = true → us 16 = vQ
  f17 : L 17 = true → us 17 = vb
  f18 : L 18 = true → RowV w (us 18) n1 L2
  f19 : L 19 = true → us 19 = .bool false
  f20 : L 20 = true → us 20 = .bool false
  f21 : L 21 = true → us 21 = .bool false
  f29 : L 29 = true → us 29 = .bool false
  f30 : L 30 = true → us 30 = .bool false
set_option maxRecDepth 100000 in
set_option maxHeartbeats 16000000 in
theorem alike_w (QA : Option Addr) (nq qc : Nat) (i : Nat) (x y z x' y' z' c : Int) (ta tb n1 n2 : Nat) (L1 L2 : List Pt) (K1 K2 : List Knb) (r s : Bool) (w : World)
    (hl1 : L1.length = n1) (hl2 : L2.length = n1) (hk1 : K1.length = n2) (hk2 : K2.length = n2) (hr : eqC L1 L2 = r) (hs : sameK K1 K2 = s)
    (P1 : ∀ W, Ext w W → Calls Tryz.prog 71 #[.slice QA nq qc, .agg #[.int .i64 i, .int .i64 x, .int .i64 y, .int .i64 z, .int .u8 ta, .int .u8 c]] W (RCP L1 n1 W))
    (P2 : ∀ W, Ext w W → Calls Tryz.prog 71 #[.slice QA nq qc, .agg #[.int .i64 i, .int .i64 x', .int .i64 y', .int .i64 z', .int .u8 tb, .int .u8 c]] W (RCP L2 n1 W))
    (Q1 : ∀ W, Ext w W → Calls Tryz.prog 73 #[.slice QA nq qc, .agg #[.int .i64 i, .int .i64 x, .int .i64 y, .int .i64 z, .int .u8 ta, .int .u8 c]] W (RKP K1 n2 W))
    (Q2 : ∀ W, Ext w W → Calls Tryz.prog 73 #[.slice QA nq qc, .agg #[.int .i64 i, .int .i64 x', .int .i64 y', .int .i64 z', .int .u8 tb, .int .u8 c]] W (RKP K2 n2 W)) :
    Calls Tryz.prog 32 #[.slice QA nq qc, .agg #[.int .i64 i, .int .i64 x, .int .i64 y, .int .i64 z, .int .u8 ta, .int .u8 c], .agg #[.int .i64 i, .int .i64 x', .int .i64 y', .int .i64 z', .int .u8 tb, .int .u8 c]] w fun e w' => e = .returned (.bool (r && s)) ∧ Ext w w' := by
  have HP1 := Lib.hid P1
  have HP2 := Lib.hid P2
  have HQ1 := Lib.hid Q1
  have HQ2 := Lib.hid Q2
  have Hl1 := Lib.hid hl1
  have Hl2 := Lib.hid hl2
  have Hk1 := Lib.hid hk1
  have Hk2 := Lib.hid hk2
  have Hr := Lib.hid hr
  have Hs := Lib.hid hs
  obtain ⟨W1, hW1, E1, B1, hz1⟩ := mk_ w #[.int .i64 i, .int .i64 x, .int .i64 y, .int .i64 z, .int .u8 ta, .int .u8 c] 63
  obtain ⟨W2, hW2, E2, B2, hz2⟩ := mk_ W1 #[.int .i64 i, .int .i64 x', .int .i64 y', .int .i64 z', .int .u8 tb, .int .u8 c] 63
  obtain ⟨SA, hSA⟩ : ∃ S, w.heap.size = S := ⟨_, rfl⟩
  obtain ⟨SB, hSB⟩ : ∃ S, W1.heap.size = S := ⟨_, rfl⟩
  have B12 := B1.ext E2
  rw [hSA] at B12
  rw [hSB] at B2
  have HSA := Lib.hid hSA
  have HSB := Lib.hid hSB
  have HE := Lib.hid (E1.trans E2)
  have HB1 := Lib.hid B12
  have HB2 := Lib.hid B2
  clear P1 P2 Q1 Q2 hl1 hl2 hk1 hk2 hr hs hz1 hz2 hSA hSB B1 B12 B2 E1 E2
  cases r
  · rw [Bool.false_and]
    go_enter Tryz.func32, Tryz.ntmps32
    go_upto_region 1 with (fail)
    rw [HSA.out, HSB.out]
    clear hW1 hW2
    refine wp_region_by (Al0 W2 (.slice QA nq qc) (.agg #[.int .i64 i, .int .i64 x, .int .i64 y, .int .i64 z, .int .u8 ta, .int .u8 c]) (.agg #[.int .i64 i, .int .i64 x', .int .i64 y', .int .i64 z', .int .u8 tb, .int .u8 c]) SA SB i c n1 L1 L2) (by kernel_rfl) (by kernel_rfl) (by kernel_rfl) (fun us => ⟨(Ext.refl _).drew, (nofun), (nofun), (nofun), (nofun), (nofun), (nofun), (nofun), (nofun), (nofun), (nofun), (nofun), (nofun), (nofun), (nofun), (nofun), (nofun), (nofun), (nofun), (nofun), (nofun), (nofun), (nofun), (nofun), (nofun)⟩) ⟨?_, ?_, ?_, ?_, ?_, ?_, ?_, ?_, ?_, ?_, ?_, ?_, ?_, ?_, ?_, ?_, ?_, ?_, ?_, ?_, ?_, ?_, ?_, ?_, ?_, ?_, ?_, ?_, ?_, ?_, ?_, trivial⟩ ?_
    · intro L us wx K a ha hp hd hun hI hK
      have HX := hI.x
      clear hp HX
      replace hd := Lib.hid hd
      simp only [putAll, Act.put, List.setIfInBounds_toArray, List.set_cons_succ, List.set_cons_zero, Nat.reduceAdd] at ha
      subst ha
      simp only [Act.put, List.setIfInBounds_toArray, List.set_cons_succ, List.set_cons_zero] at hK
      go_simp
      refine hK _ _ ?_
      first
      | (refine ⟨hI.x, ?_, hI.f1, hI.f2, hI.f3, hI.f4, hI.f5, hI.f6, hI.f7, hI.f8, hI.f9, hI.f10, hI.f11, hI.f12, hI.f13, hI.f14, hI.f15, hI.f16, hI.f17, hI.f18, hI.f19, hI.f20, hI.f21, hI.f29, hI.f30⟩ <;> (first | exact fun _ => rfl | skip))
      | (refine ⟨?_, ?_, ?_, ?_, ?_, ?_, ?_, ?_, ?_, ?_, ?_, ?_, ?_, ?_, ?_, ?_, ?_, ?_, ?_, ?_, ?_, ?_, ?_, ?_, ?_⟩ <;> (first | exact hI.x | exact hI.f0 | exact hI.f1 | exact hI.f2 | exact hI.f3 | exact hI.f4 | exact hI.f5 | exact hI.f6 | exact hI.f7 | exact hI.f8 | exact hI.f9 | exact hI.f10 | exact hI.f11 | exact hI.f12 | exact hI.f13 | exact hI.f14 | exact hI.f15 | exact hI.f16 | exact hI.f17 | exact hI.f18 | exact hI.f19 | exact hI.f20 | exact hI.f21 | exact hI.f29 | exact hI.f30 | exact fun _ => rfl | skip))
    · intro L us wx K a ha hp hd hun hI hK
      have HX := hI.x
      have u0 := hI.f0 (hp 0 (by kernel_rfl))
      have bb := (HB1.out.ext HX).cell
      clear hp HX
      replace hd := Lib.hid hd
      simp only [putAll, Act.put, List.setIfInBounds_toArray, List.set_cons_succ, List.set_cons_zero, Nat.reduceAdd, u0] at ha
      subst ha
      simp only [Act.put, List.setIfInBounds_toArray, List.set_cons_succ, List.set_cons_zero] at hK
      go_simp
      refine hK _ _ ?_
      first
      | (refine ⟨hI.x, hI.f0, ?_, hI.f2, hI.f3, hI.f4, hI.f5, hI.f6, hI.f7, hI.f8, hI.f9, hI.f10, hI.f11, hI.f12, hI.f13, hI.f14, hI.f15, hI.f16, hI.f17, hI.f18, hI.f19, hI.f20, hI.f21, hI.f29, hI.f30⟩ <;> (first | exact fun _ => rfl | skip))
      | (refine ⟨?_, ?_, ?_, ?_, ?_, ?_, ?_, ?_, ?_, ?_, ?_, ?_, ?_, ?_, ?_, ?_, ?_, ?_, ?_, ?_, ?_, ?_, ?_, ?_, ?_⟩ <;> (first | exact hI.x | exact hI.f0 | exact hI.f1 | exact hI.f2 | exact hI.f3 | exact hI.f4 | exact hI.f5 | exact hI.f6 | exact hI.f7 | exact hI.f8 | exact hI.f9 | exact hI.f10 | exact hI.f11 | exact hI.f12 | exact hI.f13 | exact hI.f14 | exact hI.f15 | exact hI.f16 | exact hI.f17 | exact hI.f18 | exact hI.f19 | exact hI.f20 | exact hI.f21 | exact hI.f29 | exact hI.f30 | exact fun _ => rfl | skip))
    · intro L us wx K a ha hp hd hun hI hK
      have HX := hI.x
      clear hp HX
      replace hd := Lib.hid hd
      simp only [putAll, Act.put, List.setIfInBounds_toArray, List.set_cons_succ, List.set_cons_zero, Nat.reduceAdd] at ha
      subst ha
      simp only [Act.put, List.setIfInBounds_toArray, List.set_cons_succ, List.set_cons_zero] at hK
      go_simp
      refine hK _ _ ?_
      first
      | (refine ⟨hI.x, hI.f0, hI.f1, ?_, hI.f3, hI.f4, hI.f5, hI.f6, hI.f7, hI.f8, hI.f9, hI.f10, hI.f11, hI.f12, hI.f13, hI.f14, hI.f15, hI.f16, hI.f17, hI.f18, hI.f19, hI.f20, hI.f21, hI.f29, hI.f30⟩ <;> (first | exact fun _ => rfl | skip))
      | (refine ⟨?_, ?_, ?_, ?_, ?_, ?_, ?_, ?_, ?_, ?_, ?_, ?_, ?_, ?_, ?_, ?_, ?_, ?_, ?_, ?_, ?_, ?_, ?_, ?_, ?_⟩ <;> (first | exact hI.x | exact hI.f0 | exact hI.f1 | exact hI.f2 | exact hI.f3 | exact hI.f4 | exact hI.f5 | exact hI.f6 | exact hI.f7 | exact hI.f8 | exact hI.f9 | exact hI.f10 | exact hI.f11 | exact hI.f12 | exact hI.f13 | exact hI.f14 | exact hI.f15 | exact hI.f16 | exact hI.f17 | exact hI.f18 | exact hI.f19 | exact hI.f20 | exact hI.f21 | exact hI.f29 | exact hI.f30 | exact fun _ => rfl | skip))
    · intro L us wx K a ha hp hd hun hI hK
      have HX := hI.x
      have u2 := hI.f2 (hp 2 (by kernel_rfl))
      have bb := (HB2.out.ext HX).cell
      clear hp HX
      replace hd := Lib.hid hd
      simp only [putAll, Act.put, List.setIfInBounds_toArray, List.set_cons_succ, List.set_cons_zero, Nat.reduceAdd, u2] at ha
      subst ha
      simp only [Act.put, List.setIfInBounds_toArray, List.set_cons_succ, List.set_cons_zero] at hK
      go_simp
      refine hK _ _ ?_
      first
      | (refine ⟨hI.x, hI.f0, hI.f1, hI.f2, ?_, hI.f4, hI.f5, hI.f6, hI.f7, hI.f8, hI.f9, hI.f10, hI.f11, hI.f12, hI.f13, hI.f14, hI.f15, hI.f16, hI.f17, hI.f18, hI.f19, hI.f20, hI.f21, hI.f29, hI.f30⟩ <;> (first | exact fun _ => rfl | skip))
      | (refine ⟨?_, ?_, ?_, ?_, ?_, ?_, ?_, ?_, ?_, ?_, ?_, ?_, ?_, ?_, ?_, ?_, ?_, ?_, ?_, ?_, ?_, ?_, ?_, ?_, ?_⟩ <;> (first | exact hI.x | exact hI.f0 | exact hI.f1 | exact hI.f2 | exact hI.f3 | exact hI.f4 | exact hI.f5 | exact hI.f6 | exact hI.f7 | exact hI.f8 | exact hI.f9 | exact hI.f10 | exact hI.f11 | exact hI.f12 | exact hI.f13 | exact hI.f14 | exact hI.f15 | exact hI.f16 | exact hI.f17 | exact hI.f18 | exact hI.f19 | exact hI.f20 | exact hI.f21 | exact hI.f29 | exact hI.f30 | exact fun _ => rfl | skip))
    · intro L us wx K a ha hp hd hun hI hK
      have HX := hI.x
      have u1 := hI.f1 (hp 1 (by kernel_rfl))
      have u3 := hI.f3 (hp 3 (by kernel_rfl))
      clear hp HX
      replace hd := Lib.hid hd
      simp only [putAll, Act.put, List.setIfInBounds_toArray, List.set_cons_succ, List.set_cons_zero, Nat.reduceAdd, u1, u3] at ha
      subst ha
      simp only [Act.put, List.setIfInBounds_toArray, List.set_cons_succ, List.set_cons_zero] at hK
      go_simp
      refine hK _ _ ?_
      first
      | (refine ⟨hI.x, hI.f0, hI.f1, hI.f2, hI.f3, ?_, hI.f5, hI.f6, hI.f7, hI.f8, hI.f9, hI.f10, hI.f11, hI.f12, hI.f13, hI.f14, hI.f15, hI.f16, hI.f17, hI.f18, hI.f19, hI.f20, hI.f21, hI.f29, hI.f30⟩ <;> (first | exact fun _ => rfl | skip))
      | (refine ⟨?_, ?_, ?_, ?_, ?_, ?_, ?_, ?_, ?_, ?_, ?_, ?_, ?_, ?_, ?_, ?_, ?_, ?_, ?_, ?_, ?_, ?_, ?_, ?_, ?_⟩ <;> (first | exact hI.x | exact hI.f0 | exact hI.f1 | exact hI.f2 | exact hI.f3 | exact hI.f4 | exact hI.f5 | exact hI.f6 | exact hI.f7 | exact hI.f8 | exact hI.f9 | exact hI.f10 | exact hI.f11 | exact hI.f12 | exact hI.f13 | exact hI.f14 | exact hI.f15 | exact hI.f16 | exact hI.f17 | exact hI.f18 | exact hI.f19 | exact hI.f20 | exact hI.f21 | exact hI.f29 | exact hI.f30 | exact fun _ => rfl | skip))
    · intro L us wx K a ha hp hd hun hI hK
      have HX := hI.x
      have u4 := hI.f4 (hp 4 (by kernel_rfl))
      clear hp HX
      replace hd := Lib.hid hd
      simp only [putAll, Act.put, List.setIfInBounds_toArray, List.set_cons_succ, List.set_cons_zero, Nat.reduceAdd, u4] at ha
      subst ha
      simp only [Act.put, List.setIfInBounds_toArray, List.set_cons_succ, List.set_cons_zero] at hK
      go_simp
      refine hK _ _ ?_
      first
      | (refine ⟨hI.x, hI.f0, hI.f1, hI.f2, hI.f3, hI.f4, ?_, hI.f6, hI.f7, hI.f8, hI.f9, hI.f10, hI.f11, hI.f12, hI.f13, hI.f14, hI.f15, hI.f16, hI.f17, hI.f18, hI.f19, hI.f20, hI.f21, hI.f29, hI.f30⟩ <;> (first | exact fun _ => rfl | skip))
      | (refine ⟨?_, ?_, ?_, ?_, ?_, ?_, ?_, ?_, ?_, ?_, ?_, ?_, ?_, ?_, ?_, ?_, ?_, ?_, ?_, ?_, ?_, ?_, ?_, ?_, ?_⟩ <;> (first | exact hI.x | exact hI.f0 | exact hI.f1 | exact hI.f2 | exact hI.f3 | exact hI.f4 | exact hI.f5 | exact hI.f6 | exact hI.f7 | exact hI.f8 | exact hI.f9 | exact hI.f10 | exact hI.f11 | exact hI.f12 | exact hI.f13 | exact hI.f14 | exact hI.f15 | exact hI.f16 | exact hI.f17 | exact hI.f18 | exact hI.f19 | exact hI.f20 | exact hI.f21 | exact hI.f29 | exact hI.f30 | exact fun _ => rfl | skip))
    · intro L us wx K a ha hp hd hun hI hK
      have HX := hI.x
      have u5 := hI.f5 (hp 5 (by kernel_rfl))
      clear hp HX
      replace hd := Lib.hid hd
      simp only [putAll, Act.put, List.setIfInBounds_toArray, List.set_cons_succ, List.set_cons_zero, Nat.reduceAdd, u5] at ha
      subst ha
      simp only [Act.put, List.setIfInBounds_toArray, List.set_cons_succ, List.set_cons_zero] at hK
      go_simp
      refine hK _ _ ?_
      first
      | (refine ⟨hI.x, hI.f0, hI.f1, hI.f2, hI.f3, hI.f4, hI.f5, ?_, hI.f7, hI.f8, hI.f9, hI.f10, hI.f11, hI.f12, hI.f13, hI.f14, hI.f15, hI.f16, hI.f17, hI.f18, hI.f19, hI.f20, hI.f21, hI.f29, hI.f30⟩ <;> (first | exact fun _ => rfl | skip))
      | (refine ⟨?_, ?_, ?_, ?_, ?_, ?_, ?_, ?_, ?_, ?_, ?_, ?_, ?_, ?_, ?_, ?_, ?_, ?_, ?_, ?_, ?_, ?_, ?_, ?_, ?_⟩ <;> (first | exact hI.x | exact hI.f0 | exact hI.f1 | exact hI.f2 | exact hI.f3 | exact hI.f4 | exact hI.f5 | exact hI.f6 | exact hI.f7 | exact hI.f8 | exact hI.f9 | exact hI.f10 | exact hI.f11 | exact hI.f12 | exact hI.f13 | exact hI.f14 | exact hI.f15 | exact hI.f16 | exact hI.f17 | exact hI.f18 | exact hI.f19 | exact hI.f20 | exact hI.f21 | exact hI.f29 | exact hI.f30 | exact fun _ => rfl | skip))
    · intro L us wx K a ha hp hd hun hI hK
      have HX := hI.x
      have u5 := hI.f5 (hp 5 (by kernel_rfl))
      have u6 := hI.f6 (hp 6 (by kernel_rfl))
      have bb := (HB1.out.ext HX).cell
      clear hp HX
      replace hd := Lib.hid hd
      simp only [putAll, Act.put, List.setIfInBounds_toArray, List.set_cons_succ, List.set_cons_zero, Nat.reduceAdd, u5, u6] at ha
      subst ha
      simp only [Act.put, List.setIfInBounds_toArray, List.set_cons_succ, List.set_cons_zero] at hK
      go_simp
      refine hK _ _ ?_
      first
      | (refine ⟨hI.x, hI.f0, hI.f1, hI.f2, hI.f3, hI.f4, hI.f5, hI.f6, ?_, hI.f8, hI.f9, hI.f10, hI.f11, hI.f12, hI.f13, hI.f14, hI.f15, hI.f16, hI.f17, hI.f18, hI.f19, hI.f20, hI.f21, hI.f29, hI.f30⟩ <;> (first | exact fun _ => rfl | skip))
      | (refine ⟨?_, ?_, ?_, ?_, ?_, ?_, ?_, ?_, ?_, ?_, ?_, ?_, ?_, ?_, ?_, ?_, ?_, ?_, ?_, ?_, ?_, ?_, ?_, ?_, ?_⟩ <;> (first | exact hI.x | exact hI.f0 | exact hI.f1 | exact hI.f2 | exact hI.f3 | exact hI.f4 | exact hI.f5 | exact hI.f6 | exact hI.f7 | exact hI.f8 | exact hI.f9 | exact hI.f10 | exact hI.f11 | exact hI.f12 | exact hI.f13 | exact hI.f14 | exact hI.f15 | exact hI.f16 | exact hI.f17 | exact hI.f18 | exact hI.f19 | exact hI.f20 | exact hI.f21 | exact hI.f29 | exact hI.f30 | exact fun _ => rfl | skip))
    · intro L us wx K a ha hp hd hun hI hK
      have HX := hI.x
      have u5 := hI.f5 (hp 5 (by kernel_rfl))
      clear hp HX
      replace hd := Lib.hid hd
      simp only [putAll, Act.put, List.setIfInBounds_toArray, List.set_cons_succ, List.set_cons_zero, Nat.reduceAdd, u5] at ha
      subst ha
      simp only [Act.put, List.setIfInBounds_toArray, List.set_cons_succ, List.set_cons_zero] at hK
      go_simp
      refine hK _ _ ?_
      first
      | (refine ⟨hI.x, hI.f0, hI.f1, hI.f2, hI.f3, hI.f4, hI.f5, hI.f6, hI.f7, ?_, hI.f9, hI.f10, hI.f11, hI.f12, hI.f13, hI.f14, hI.f15, hI.f16, hI.f17, hI.f18, hI.f19, hI.f20, hI.f21, hI.f29, hI.f30⟩ <;> (first | exact fun _ => rfl | skip))
      | (refine ⟨?_, ?_, ?_, ?_, ?_, ?_, ?_, ?_, ?_, ?_, ?_, ?_, ?_, ?_, ?_, ?_, ?_, ?_, ?_, ?_, ?_, ?_, ?_, ?_, ?_⟩ <;> (first | exact hI.x | exact hI.f0 | exact hI.f1 | exact hI.f2 | exact hI.f3 | exact hI.f4 | exact hI.f5 | exact hI.f6 | exact hI.f7 | exact hI.f8 | exact hI.f9 | exact hI.f10 | exact hI.f11 | exact hI.f12 | exact hI.f13 | exact hI.f14 | exact hI.f15 | exact hI.f16 | exact hI.f17 | exact hI.f18 | exact hI.f19 | exact hI.f20 | exact hI.f21 | exact hI.f29 | exact hI.f30 | exact fun _ => rfl | skip))
    · intro L us wx K a ha hp hd hun hI hK
      have HX := hI.x
      have u5 := hI.f5 (hp 5 (by kernel_rfl))
      have u8 := hI.f8 (hp 8 (by kernel_rfl))
      have bb := (HB2.out.ext HX).cell
      clear hp HX
      replace hd := Lib.hid hd
      simp only [putAll, Act.put, List.setIfInBounds_toArray, List.set_cons_succ, List.set_cons_zero, Nat.reduceAdd, u5, u8] at ha
      subst ha
      simp only [Act.put, List.setIfInBounds_toArray, List.set_cons_succ, List.set_cons_zero] at hK
      go_simp
      refine hK _ _ ?_
      first
      | (refine ⟨hI.x, hI.f0, hI.f1, hI.f2, hI.f3, hI.f4, hI.f5, hI.f6, hI.f7, hI.f8, ?_, hI.f10, hI.f11, hI.f12, hI.f13, hI.f14, hI.f15, hI.f16, hI.f17, hI.f18, hI.f19, hI.f20, hI.f21, hI.f29, hI.f30⟩ <;> (first | exact fun _ => rfl | skip))
      | (refine ⟨?_, ?_, ?_, ?_, ?_, ?_, ?_, ?_, ?_, ?_, ?_, ?_, ?_, ?_, ?_, ?_, ?_, ?_, ?_, ?_, ?_, ?_, ?_, ?_, ?_⟩ <;> (first | exact hI.x | exact hI.f0 | exact hI.f1 | exact hI.f2 | exact hI.f3 | exact hI.f4 | exact hI.f5 | exact hI.f6 | exact hI.f7 | exact hI.f8 | exact hI.f9 | exact hI.f10 | exact hI.f11 | exact hI.f12 | exact hI.f13 | exact hI.f14 | exact hI.f15 | exact hI.f16 | exact hI.f17 | exact hI.f18 | exact hI.f19 | exact hI.f20 | exact hI.f21 | exact hI.f29 | exact hI.f30 | exact fun _ => rfl | skip))
    · intro L us wx K a ha hp hd hun hI hK
      have HX := hI.x
      have u5 := hI.f5 (hp 5 (by kernel_rfl))
      have u7 := hI.f7 (hp 7 (by kernel_rfl))
      have u9 := hI.f9 (hp 9 (by kernel_rfl))
      clear hp HX
      replace hd := Lib.hid hd
      simp only [putAll, Act.put, List.setIfInBounds_toArray, List.set_cons_succ, List.set_cons_zero, Nat.reduceAdd, u5, u7, u9] at ha
      subst ha
      simp only [Act.put, List.setIfInBounds_toArray, List.set_cons_succ, List.set_cons_zero] at hK
      go_simp
      refine hK _ _ ?_
      first
      | (refine ⟨hI.x, hI.f0, hI.f1, hI.f2, hI.f3, hI.f4, hI.f5, hI.f6, hI.f7, hI.f8, hI.f9, ?_, hI.f11, hI.f12, hI.f13, hI.f14, hI.f15, hI.f16, hI.f17, hI.f18, hI.f19, hI.f20, hI.f21, hI.f29, hI.f30⟩ <;> (first | exact fun _ => rfl | skip))
      | (refine ⟨?_, ?_, ?_, ?_, ?_, ?_, ?_, ?_, ?_, ?_, ?_, ?_, ?_, ?_, ?_, ?_, ?_, ?_, ?_, ?_, ?_, ?_, ?_, ?_, ?_⟩ <;> (first | exact hI.x | exact hI.f0 | exact hI.f1 | exact hI.f2 | exact hI.f3 | exact hI.f4 | exact hI.f5 | exact hI.f6 | exact hI.f7 | exact hI.f8 | exact hI.f9 | exact hI.f10 | exact hI.f11 | exact hI.f12 | exact hI.f13 | exact hI.f14 | exact hI.f15 | exact hI.f16 | exact hI.f17 | exact hI.f18 | exact hI.f19 | exact hI.f20 | exact hI.f21 | exact hI.f29 | exact hI.f30 | exact fun _ => rfl | skip))
    · intro L us wx K a ha hp hd hun hI hK
      have HX := hI.x
      have u5 := hI.f5 (hp 5 (by kernel_rfl))
      have u10 := hI.f10 (hp 10 (by kernel_rfl))
      clear hp HX
      replace hd := Lib.hid hd
      simp only [putAll, Act.put, List.setIfInBounds_toArray, List.set_cons_succ, List.set_cons_zero, Nat.reduceAdd, u5, u10] at ha
      subst ha
      simp only [Act.put, List.setIfInBounds_toArray, List.set_cons_succ, List.set_cons_zero] at hK
      go_simp
      refine hK _ _ ?_
      first
      | (refine ⟨hI.x, hI.f0, hI.f1, hI.f2, hI.f3, hI.f4, hI.f5, hI.f6, hI.f7, hI.f8, hI.f9, hI.f10, ?_, hI.f12, hI.f13, hI.f14, hI.f15, hI.f16, hI.f17, hI.f18, hI.f19, hI.f20, hI.f21, hI.f29, hI.f30⟩ <;> (first | exact fun _ => rfl | skip))
      | (refine ⟨?_, ?_, ?_, ?_, ?_, ?_, ?_, ?_, ?_, ?_, ?_, ?_, ?_, ?_, ?_, ?_, ?_, ?_, ?_, ?_, ?_, ?_, ?_, ?_, ?_⟩ <;> (first | exact hI.x | exact hI.f0 | exact hI.f1 | exact hI.f2 | exact hI.f3 | exact hI.f4 | exact hI.f5 | exact hI.f6 | exact hI.f7 | exact hI.f8 | exact hI.f9 | exact hI.f10 | exact hI.f11 | exact hI.f12 | exact hI.f13 | exact hI.f14 | exact hI.f15 | exact hI.f16 | exact hI.f17 | exact hI.f18 | exact hI.f19 | exact hI.f20 | exact hI.f21 | exact hI.f29 | exact hI.f30 | exact fun _ => rfl | skip))
    · intro L us wx K a ha hp hd hun hI hK
      have HX := hI.x
      have u11 := hI.f11 (hp 11 (by kernel_rfl))
      clear hp HX
      replace hd := Lib.hid hd
      simp only [putAll, Act.put, List.setIfInBounds_toArray, List.set_cons_succ, List.set_cons_zero, Nat.reduceAdd, u11] at ha
      subst ha
      simp only [Act.put, List.setIfInBounds_toArray, List.set_cons_succ, List.set_cons_zero] at hK
      go_simp
      refine hK _ _ ?_
      first
      | (refine ⟨hI.x, hI.f0, hI.f1, hI.f2, hI.f3, hI.f4, hI.f5, hI.f6, hI.f7, hI.f8, hI.f9, hI.f10, hI.f11, ?_, hI.f13, hI.f14, hI.f15, hI.f16, hI.f17, hI.f18, hI.f19, hI.f20, hI.f21, hI.f29, hI.f30⟩ <;> (first | exact fun _ => rfl | skip))
      | (refine ⟨?_, ?_, ?_, ?_, ?_, ?_, ?_, ?_, ?_, ?_, ?_, ?_, ?_, ?_, ?_, ?_, ?_, ?_, ?_, ?_, ?_, ?_, ?_, ?_, ?_⟩ <;> (first | exact hI.x | exact hI.f0 | exact hI.f1 | exact hI.f2 | exact hI.f3 | exact hI.f4 | exact hI.f5 | exact hI.f6 | exact hI.f7 | exact hI.f8 | exact hI.f9 | exact hI.f10 | exact hI.f11 | exact hI.f12 | exact hI.f13 | exact hI.f14 | exact hI.f15 | exact hI.f16 | exact hI.f17 | exact hI.f18 | exact hI.f19 | exact hI.f20 | exact hI.f21 | exact hI.f29 | exact hI.f30 | exact fun _ => rfl | skip))
    · intro L us wx K a ha hp hd hun hI hK
      have HX := hI.x
      have u12 := hI.f12 (hp 12 (by kernel_rfl))
      clear hp HX
      replace hd := Lib.hid hd
      simp only [putAll, Act.put, List.setIfInBounds_toArray, List.set_cons_succ, List.set_cons_zero, Nat.reduceAdd, u12] at ha
      subst ha
      simp only [Act.put, List.setIfInBounds_toArray, List.set_cons_succ, List.set_cons_zero] at hK
      go_simp
      refine hK _ _ ?_
      first
      | (refine ⟨hI.x, hI.f0, hI.f1, hI.f2, hI.f3, hI.f4, hI.f5, hI.f6, hI.f7, hI.f8, hI.f9, hI.f10, hI.f11, hI.f12, ?_, hI.f14, hI.f15, hI.f16, hI.f17, hI.f18, hI.f19, hI.f20, hI.f21, hI.f29, hI.f30⟩ <;> (first | exact fun _ => rfl | skip))
      | (refine ⟨?_, ?_, ?_, ?_, ?_, ?_, ?_, ?_, ?_, ?_, ?_, ?_, ?_, ?_, ?_, ?_, ?_, ?_, ?_, ?_, ?_, ?_, ?_, ?_, ?_⟩ <;> (first | exact hI.x | exact hI.f0 | exact hI.f1 | exact hI.f2 | exact hI.f3 | exact hI.f4 | exact hI.f5 | exact hI.f6 | exact hI.f7 | exact hI.f8 | exact hI.f9 | exact hI.f10 | exact hI.f11 | exact hI.f12 | exact hI.f13 | exact hI.f14 | exact hI.f15 | exact hI.f16 | exact hI.f17 | exact hI.f18 | exact hI.f19 | exact hI.f20 | exact hI.f21 | exact hI.f29 | exact hI.f30 | exact fun _ => rfl | skip))
    · intro L us wx K a ha hp hd hun hI hK
      have HX := hI.x
      have u12 := hI.f12 (hp 12 (by kernel_rfl))
      have bb := (HB1.out.ext HX).cell
      clear hp HX
      replace hd := Lib.hid hd
      simp only [putAll, Act.put, List.setIfInBounds_toArray, List.set_cons_succ, List.set_cons_zero, Nat.reduceAdd, u12] at ha
      subst ha
      simp only [Act.put, List.setIfInBounds_toArray, List.set_cons_succ, List.set_cons_zero] at hK
      go_simp
      refine hK _ _ ?_
      first
      | (refine ⟨hI.x, hI.f0, hI.f1, hI.f2, hI.f3, hI.f4, hI.f5, hI.f6, hI.f7, hI.f8, hI.f9, hI.f10, hI.f11, hI.f12, hI.f13, ?_, hI.f15, hI.f16, hI.f17, hI.f18, hI.f19, hI.f20, hI.f21, hI.f29, hI.f30⟩ <;> (first | exact fun _ => rfl | skip))
      | (refine ⟨?_, ?_, ?_, ?_, ?_, ?_, ?_, ?_, ?_, ?_, ?_, ?_, ?_, ?_, ?_, ?_, ?_, ?_, ?_, ?_, ?_, ?_, ?_, ?_, ?_⟩ <;> (first | exact hI.x | exact hI.f0 | exact hI.f1 | exact hI.f2 | exact hI.f3 | exact hI.f4 | exact hI.f5 | exact hI.f6 | exact hI.f7 | exact hI.f8 | exact hI.f9 | exact hI.f10 | exact hI.f11 | exact hI.f12 | exact hI.f13 | exact hI.f14 | exact hI.f15 | exact hI.f16 | exact hI.f17 | exact hI.f18 | exact hI.f19 | exact hI.f20 | exact hI.f21 | exact hI.f29 | exact hI.f30 | exact fun _ => rfl | skip))
    · intro L us wx K a ha hp hd hun hI hK
      have HX := hI.x
      have u12 := hI.f12 (hp 12 (by kernel_rfl))
      have u13 := hI.f13 (hp 13 (by kernel_rfl))
      have u14 := hI.f14 (hp 14 (by kernel_rfl))
      have EX := Lib.hid (HE.out.trans HX)
      clear hp HX
      replace hd := Lib.hid hd
      simp only [putAll, Act.put, List.setIfInBounds_toArray, List.set_cons_succ, List.set_cons_zero, Nat.reduceAdd, u12, u13, u14] at ha
      subst ha
      simp only [Act.put, List.setIfInBounds_toArray, List.set_cons_succ, List.set_cons_zero] at hK
      go_simp
      go_at_call 71
      refine (HP1.out _ EX.out).mono ?_
      rintro e wn ⟨g, cp, hg, rfl, q1, q2, X, En⟩
      go_simp
      refine hK _ _ ?_
      first
      | (refine ⟨hI.x.trans En, hI.f0, hI.f1, hI.f2, hI.f3, hI.f4, hI.f5, hI.f6, hI.f7, hI.f8, hI.f9, hI.f10, hI.f11, hI.f12, hI.f13, hI.f14, ?_, hI.f16, hI.f17, ?_, hI.f19, hI.f20, hI.f21, hI.f29, hI.f30⟩ <;> (first | exact fun h => (hI.f15 h).ext En | exact fun h => own_ext (hI.f15 h) En | exact fun h => (hI.f18 h).ext En | exact fun h => own_ext (hI.f18 h) En | exact fun _ => rfl | skip))
      | (refine ⟨hI.x.trans En, ?_, ?_, ?_, ?_, ?_, ?_, ?_, ?_, ?_, ?_, ?_, ?_, ?_, ?_, ?_, ?_, ?_, ?_, ?_, ?_, ?_, ?_, ?_, ?_⟩ <;> (first | exact hI.f0 | exact hI.f1 | exact hI.f2 | exact hI.f3 | exact hI.f4 | exact hI.f5 | exact hI.f6 | exact hI.f7 | exact hI.f8 | exact hI.f9 | exact hI.f10 | exact hI.f11 | exact hI.f12 | exact hI.f13 | exact hI.f14 | exact fun h => (hI.f15 h).ext En | exact hI.f16 | exact hI.f17 | exact fun h => (hI.f18 h).ext En | exact hI.f19 | exact hI.f20 | exact hI.f21 | exact hI.f29 | exact hI.f30 | exact fun _ => rfl | skip))
      all_goals exact (by first|exact fun _ => ⟨cp, rfl, q1, q2, X⟩)
    · intro L us wx K a ha hp hd hun hI hK
      have HX := hI.x
      have u12 := hI.f12 (hp 12 (by kernel_rfl))
      clear hp HX
      replace hd := Lib.hid hd
      simp only [putAll, Act.put, List.setIfInBounds_toArray, List.set_cons_succ, List.set_cons_zero, Nat.reduceAdd, u12] at ha
      subst ha
      simp only [Act.put, List.setIfInBounds_toArray, List.set_cons_succ, List.set_cons_zero] at hK
      go_simp
      refine hK _ _ ?_
      first
      | (refine ⟨hI.x, hI.f0, hI.f1, hI.f2, hI.f3, hI.f4, hI.f5, hI.f6, hI.f7, hI.f8, hI.f9, hI.f10, hI.f11, hI.f12, hI.f13, hI.f14, hI.f15, ?_, hI.f17, hI.f18, hI.f19, hI.f20, hI.f21, hI.f29, hI.f30⟩ <;> (first | exact fun _ => rfl | skip))
      | (refine ⟨?_, ?_, ?_, ?_, ?_, ?_, ?_, ?_, ?_, ?_, ?_, ?_, ?_, ?_, ?_, ?_, ?_, ?_, ?_, ?_, ?_, ?_, ?_, ?_, ?_⟩ <;> (first | exact hI.x | exact hI.f0 | exact hI.f1 | exact hI.f2 | exact hI.f3 | exact hI.f4 | exact hI.f5 | exact hI.f6 | exact hI.f7 | exact hI.f8 | exact hI.f9 | exact hI.f10 | exact hI.f11 | exact hI.f12 | exact hI.f13 | exact hI.f14 | exact hI.f15 | exact hI.f16 | exact hI.f17 | exact hI.f18 | exact hI.f19 | exact hI.f20 | exact hI.f21 | exact hI.f29 | exact hI.f30 | exact fun _ => rfl | skip))
    · intro L us wx K a ha hp hd hun hI hK
      have HX := hI.x
      have u12 := hI.f12 (hp 12 (by kernel_rfl))
      have bb := (HB2.out.ext HX).cell
      clear hp HX
      replace hd := Lib.hid hd
      simp only [putAll, Act.put, List.setIfInBounds_toArray, List.set_cons_succ, List.set_cons_zero, Nat.reduceAdd, u12] at ha
      subst ha
      simp only [Act.put, List.setIfInBounds_toArray, List.set_cons_succ, List.set_cons_zero] at hK
      go_simp
      refine hK _ _ ?_
      first
      | (refine ⟨hI.x, hI.f0, hI.f1, hI.f2, hI.f3, hI.f4, hI.f5, hI.f6, hI.f7, hI.f8, hI.f9, hI.f10, hI.f11, hI.f12, hI.f13, hI.f14, hI.f15, hI.f16, ?_, hI.f18, hI.f19, hI.f20, hI.f21, hI.f29, hI.f30⟩ <;> (first | exact fun _ => rfl | skip))
      | (refine ⟨?_, ?_, ?_, ?_, ?_, ?_, ?_, ?_, ?_, ?_, ?_, ?_, ?_, ?_, ?_, ?_, ?_, ?_, ?_, ?_, ?_, ?_, ?_, ?_, ?_⟩ <;> (first | exact hI.x | exact hI.f0 | exact hI.f1 | exact hI.f2 | exact hI.f3 | exact hI.f4 | exact hI.f5 | exact hI.f6 | exact hI.f7 | exact hI.f8 | exact hI.f9 | exact hI.f10 | exact hI.f11 | exact hI.f12 | exact hI.f13 | exact hI.f14 | exact hI.f15 | exact hI.f16 | exact hI.f17 | exact hI.f18 | exact hI.f19 | exact hI.f20 | exact hI.f21 | exact hI.f29 | exact hI.f30 | exact fun _ => rfl | skip))
    · intro L us wx K a ha hp hd hun hI hK
      have HX := hI.x
      have u12 := hI.f12 (hp 12 (by kernel_rfl))
      have u16 := hI.f16 (hp 16 (by kernel_rfl))
      have u17 := hI.f17 (hp 17 (by kernel_rfl))
      have EX := Lib.hid (HE.out.trans HX)
      clear hp HX
      replace hd := Lib.hid hd
      simp only [putAll, Act.put, List.setIfInBounds_toArray, List.set_cons_succ, List.set_cons_zero, Nat.reduceAdd, u12, u16, u17] at ha
      subst ha
      simp only [Act.put, List.setIfInBounds_toArray, List.set_cons_succ, List.set_cons_zero] at hK
      go_simp
      go_at_call 71
      refine (HP2.out _ EX.out).mono ?_
      rintro e wn ⟨g, cp, hg, rfl, q1, q2, X, En⟩
      go_simp
      refine hK _ _ ?_
      first
      | (refine ⟨hI.x.trans En, hI.f0, hI.f1, hI.f2, hI.f3, hI.f4, hI.f5, hI.f6, hI.f7, hI.f8, hI.f9, hI.f10, hI.f11, hI.f12, hI.f13, hI.f14, ?_, hI.f16, hI.f17, ?_, hI.f19, hI.f20, hI.f21, hI.f29, hI.f30⟩ <;> (first | exact fun h => (hI.f15 h).ext En | exact fun h => own_ext (hI.f15 h) En | exact fun h => (hI.f18 h).ext En | exact fun h => own_ext (hI.f18 h) En | exact fun _ => rfl | skip))
      | (refine ⟨hI.x.trans En, ?_, ?_, ?_, ?_, ?_, ?_, ?_, ?_, ?_, ?_, ?_, ?_, ?_, ?_, ?_, ?_, ?_, ?_, ?_, ?_, ?_, ?_, ?_, ?_⟩ <;> (first | exact hI.f0 | exact hI.f1 | exact hI.f2 | exact hI.f3 | exact hI.f4 | exact hI.f5 | exact hI.f6 | exact hI.f7 | exact hI.f8 | exact hI.f9 | exact hI.f10 | exact hI.f11 | exact hI.f12 | exact hI.f13 | exact hI.f14 | exact fun h => (hI.f15 h).ext En | exact hI.f16 | exact hI.f17 | exact fun h => (hI.f18 h).ext En | exact hI.f19 | exact hI.f20 | exact hI.f21 | exact hI.f29 | exact hI.f30 | exact fun _ => rfl | skip))
      all_goals exact (by first|exact fun _ => ⟨cp, rfl, q1, q2, X⟩)
    · intro L us wx K a ha hp hd hun hI hK
      have HX := hI.x
      have u12 := hI.f12 (hp 12 (by kernel_rfl))
      obtain ⟨c1, ua, p1, p2, X⟩ := hI.f15 (hp 15 (by kernel_rfl))
      obtain ⟨c2, ub, q1, q2, Y⟩ := hI.f18 (hp 18 (by kernel_rfl))
      have S1 := RowX.slice X (pts_wide' L1) (by rw [List.length_map, Hl1.out]) p1 p2
      have S2 := RowX.slice Y (pts_wide' L2) (by rw [List.length_map, Hl2.out]) q1 q2
      obtain ⟨g1, hg1⟩ : ∃ g, bk (us 15) = g := ⟨_, rfl⟩
      obtain ⟨g2, hg2⟩ : ∃ g, bk (us 18) = g := ⟨_, rfl⟩
      rw [hg1] at ua S1
      rw [hg2] at ub S2
      have CC := rSameCells_c (some ⟨g1, 0, none⟩) (some ⟨g2, 0, none⟩) c1 c2 L1 L2 wx (by unfold Cells; rw [Hl1.out]; exact S1) (by unfold Cells; rw [Hl2.out]; exact S2)
      rw [Hl1.out, Hl2.out, Hr.out] at CC
      clear hg1 hg2 S1 S2 X Y p1 p2 q1 q2
      clear hp HX
      replace hd := Lib.hid hd
      simp only [putAll, Act.put, List.setIfInBounds_toArray, List.set_cons_succ, List.set_cons_zero, Nat.reduceAdd, u12, ua, ub] at ha
      subst ha
      simp only [Act.put, List.setIfInBounds_toArray, List.set_cons_succ, List.set_cons_zero] at hK
      go_simp
      go_at_call 47
      refine (CC).mono ?_
      rintro e wn ⟨rfl, En⟩
      go_simp
      refine hK _ _ ?_
      first
      | (refine ⟨hI.x.trans En, hI.f0, hI.f1, hI.f2, hI.f3, hI.f4, hI.f5, hI.f6, hI.f7, hI.f8, hI.f9, hI.f10, hI.f11, hI.f12, hI.f13, hI.f14, ?_, hI.f16, hI.f17, ?_, ?_, hI.f20, hI.f21, hI.f29, hI.f30⟩ <;> (first | exact fun h => (hI.f15 h).ext En | exact fun h => own_ext (hI.f15 h) En | exact fun h => (hI.f18 h).ext En | exact fun h => own_ext (hI.f18 h) En | exact fun _ => rfl | skip))
      | (refine ⟨hI.x.trans En, ?_, ?_, ?_, ?_, ?_, ?_, ?_, ?_, ?_, ?_, ?_, ?_, ?_, ?_, ?_, ?_, ?_, ?_, ?_, ?_, ?_, ?_, ?_, ?_⟩ <;> (first | exact hI.f0 | exact hI.f1 | exact hI.f2 | exact hI.f3 | exact hI.f4 | exact hI.f5 | exact hI.f6 | exact hI.f7 | exact hI.f8 | exact hI.f9 | exact hI.f10 | exact hI.f11 | exact hI.f12 | exact hI.f13 | exact hI.f14 | exact fun h => (hI.f15 h).ext En | exact hI.f16 | exact hI.f17 | exact fun h => (hI.f18 h).ext En | exact hI.f19 | exact hI.f20 | exact hI.f21 | exact hI.f29 | exact hI.f30 | exact fun _ => rfl | skip))
    · intro L us wx K a ha hp hd hun hI hK
      have HX := hI.x
      have u12 := hI.f12 (hp 12 (by kernel_rfl))
      have u19 := hI.f19 (hp 19 (by kernel_rfl))
      clear hp HX
      replace hd := Lib.hid hd
      simp only [putAll, Act.put, List.setIfInBounds_toArray, List.set_cons_succ, List.set_cons_zero, Nat.reduceAdd, u12, u19] at ha
      subst ha
      simp only [Act.put, List.setIfInBounds_toArray, List.set_cons_succ, List.set_cons_zero] at hK
      go_simp
      refine hK _ _ ?_
      first
      | (refine ⟨hI.x, hI.f0, hI.f1, hI.f2, hI.f3, hI.f4, hI.f5, hI.f6, hI.f7, hI.f8, hI.f9, hI.f10, hI.f11, hI.f12, hI.f13, hI.f14, hI.f15, hI.f16, hI.f17, hI.f18, hI.f19, ?_, hI.f21, hI.f29, hI.f30⟩ <;> (first | exact fun _ => rfl | skip))
      | (refine ⟨?_, ?_, ?_, ?_, ?_, ?_, ?_, ?_, ?_, ?_, ?_, ?_, ?_, ?_, ?_, ?_, ?_, ?_, ?_, ?_, ?_, ?_, ?_, ?_, ?_⟩ <;> (first | exact hI.x | exact hI.f0 | exact hI.f1 | exact hI.f2 | exact hI.f3 | exact hI.f4 | exact hI.f5 | exact hI.f6 | exact hI.f7 | exact hI.f8 | exact hI.f9 | exact hI.f10 | exact hI.f11 | exact hI.f12 | exact hI.f13 | exact hI.f14 | exact hI.f15 | exact hI.f16 | exact hI.f17 | exact hI.f18 | exact hI.f19 | exact hI.f20 | exact hI.f21 | exact hI.f29 | exact hI.f30 | exact fun _ => rfl | skip))
    · intro L us wx K a ha hp hd hun hI hK
      have HX := hI.x
      have u20 := hI.f20 (hp 20 (by kernel_rfl))
      clear hp HX
      replace hd := Lib.hid hd
      simp only [putAll, Act.put, List.setIfInBounds_toArray, List.set_cons_succ, List.set_cons_zero, Nat.reduceAdd, u20] at ha
      subst ha
      simp only [Act.put, List.setIfInBounds_toArray, List.set_cons_succ, List.set_cons_zero] at hK
      go_simp
      refine hK _ _ ?_
      first
      | (refine ⟨hI.x, hI.f0, hI.f1, hI.f2, hI.f3, hI.f4, hI.f5, hI.f6, hI.f7, hI.f8, hI.f9, hI.f10, hI.f11, hI.f12, hI.f13, hI.f14, hI.f15, hI.f16, hI.f17, hI.f18, hI.f19, hI.f20, ?_, hI.f29, hI.f30⟩ <;> (first | exact fun _ => rfl | skip))
      | (refine ⟨?_, ?_, ?_, ?_, ?_, ?_, ?_, ?_, ?_, ?_, ?_, ?_, ?_, ?_, ?_, ?_, ?_, ?_, ?_, ?_, ?_, ?_, ?_, ?_, ?_⟩ <;> (first | exact hI.x | exact hI.f0 | exact hI.f1 | exact hI.f2 | exact hI.f3 | exact hI.f4 | exact hI.f5 | exact hI.f6 | exact hI.f7 | exact hI.f8 | exact hI.f9 | exact hI.f10 | exact hI.f11 | exact hI.f12 | exact hI.f13 | exact hI.f14 | exact hI.f15 | exact hI.f16 | exact hI.f17 | exact hI.f18 | exact hI.f19 | exact hI.f20 | exact hI.f21 | exact hI.f29 | exact hI.f30 | exact fun _ => rfl | skip))
    · intro L us wx K a ha hp hd hun hI hK
      have HX := hI.x
      have u21 := hI.f21 (hp 21 (by kernel_rfl))
      clear hp HX
      replace hd := Lib.hid hd
      simp only [putAll, Act.put, List.setIfInBounds_toArray, List.set_cons_succ, List.set_cons_zero, Nat.reduceAdd, u21] at ha
      subst ha
      simp only [Act.put, List.setIfInBounds_toArray, List.set_cons_succ, List.set_cons_zero] at hK
      go_simp
      refine hK _ _ ?_
      first
      | exact ⟨hI.x, hI.f0, hI.f1, hI.f2, hI.f3, hI.f4, hI.f5, hI.f6, hI.f7, hI.f8, hI.f9, hI.f10, hI.f11, hI.f12, hI.f13, hI.f14, hI.f15, hI.f16, hI.f17, hI.f18, hI.f19, hI.f20, hI.f21, hI.f29, hI.f30⟩
      | (refine ⟨?_, ?_, ?_, ?_, ?_, ?_, ?_, ?_, ?_, ?_, ?_, ?_, ?_, ?_, ?_, ?_, ?_, ?_, ?_, ?_, ?_, ?_, ?_, ?_, ?_⟩ <;> (first | exact hI.x | exact hI.f0 | exact hI.f1 | exact hI.f2 | exact hI.f3 | exact hI.f4 | exact hI.f5 | exact hI.f6 | exact hI.f7 | exact hI.f8 | exact hI.f9 | exact hI.f10 | exact hI.f11 | exact hI.f12 | exact hI.f13 | exact hI.f14 | exact hI.f15 | exact hI.f16 | exact hI.f17 | exact hI.f18 | exact hI.f19 | exact hI.f20 | exact hI.f21 | exact hI.f29 | exact hI.f30 | exact fun _ => rfl | skip))
    · intro L us wx K a ha hp hd hun hI hK
      have HX := hI.x
      have u21 := hI.f21 (hp 21 (by kernel_rfl))
      clear hp HX
      replace hd := Lib.hid hd
      simp only [putAll, Act.put, List.setIfInBounds_toArray, List.set_cons_succ, List.set_cons_zero, Nat.reduceAdd, u21] at ha
      subst ha
      simp only [Act.put, List.setIfInBounds_toArray, List.set_cons_succ, List.set_cons_zero] at hK
      go_simp
      refine hK _ _ ?_
      first
      | exact ⟨hI.x, hI.f0, hI.f1, hI.f2, hI.f3, hI.f4, hI.f5, hI.f6, hI.f7, hI.f8, hI.f9, hI.f10, hI.f11, hI.f12, hI.f13, hI.f14, hI.f15, hI.f16, hI.f17, hI.f18, hI.f19, hI.f20, hI.f21, hI.f29, hI.f30⟩
      | (refine ⟨?_, ?_, ?_, ?_, ?_, ?_, ?_, ?_, ?_, ?_, ?_, ?_, ?_, ?_, ?_, ?_, ?_, ?_, ?_, ?_, ?_, ?_, ?_, ?_, ?_⟩ <;> (first | exact hI.x | exact hI.f0 | exact hI.f1 | exact hI.f2 | exact hI.f3 | exact hI.f4 | exact hI.f5 | exact hI.f6 | exact hI.f7 | exact hI.f8 | exact hI.f9 | exact hI.f10 | exact hI.f11 | exact hI.f12 | exact hI.f13 | exact hI.f14 | exact hI.f15 | exact hI.f16 | exact hI.f17 | exact hI.f18 | exact hI.f19 | exact hI.f20 | exact hI.f21 | exact hI.f29 | exact hI.f30 | exact fun _ => rfl | skip))
    · intro L us wx K a ha hp hd hun hI hK
      have HX := hI.x
      have u21 := hI.f21 (hp 21 (by kernel_rfl))
      clear hp HX
      replace hd := Lib.hid hd
      simp only [putAll, Act.put, List.setIfInBounds_toArray, List.set_cons_succ, List.set_cons_zero, Nat.reduceAdd, u21] at ha
      subst ha
      simp only [Act.put, List.setIfInBounds_toArray, List.set_cons_succ, List.set_cons_zero] at hK
      go_simp
      refine hK _ _ ?_
      first
      | exact ⟨hI.x, hI.f0, hI.f1, hI.f2, hI.f3, hI.f4, hI.f5, hI.f6, hI.f7, hI.f8, hI.f9, hI.f10, hI.f11, hI.f12, hI.f13, hI.f14, hI.f15, hI.f16, hI.f17, hI.f18, hI.f19, hI.f20, hI.f21, hI.f29, hI.f30⟩
      | (refine ⟨?_, ?_, ?_, ?_, ?_, ?_, ?_, ?_, ?_, ?_, ?_, ?_, ?_, ?_, ?_, ?_, ?_, ?_, ?_, ?_, ?_, ?_, ?_, ?_, ?_⟩ <;> (first | exact hI.x | exact hI.f0 | exact hI.f1 | exact hI.f2 | exact hI.f3 | exact hI.f4 | exact hI.f5 | exact hI.f6 | exact hI.f7 | exact hI.f8 | exact hI.f9 | exact hI.f10 | exact hI.f11 | exact hI.f12 | exact hI.f13 | exact hI.f14 | exact hI.f15 | exact hI.f16 | exact hI.f17 | exact hI.f18 | exact hI.f19 | exact hI.f20 | exact hI.f21 | exact hI.f29 | exact hI.f30 | exact fun _ => rfl | skip))
    · intro L us wx K a ha hp hd hun hI hK
      have HX := hI.x
      have u21 := hI.f21 (hp 21 (by kernel_rfl))
      clear hp HX
      replace hd := Lib.hid hd
      simp only [putAll, Act.put, List.setIfInBounds_toArray, List.set_cons_succ, List.set_cons_zero, Nat.reduceAdd, u21] at ha
      subst ha
      simp only [Act.put, List.setIfInBounds_toArray, List.set_cons_succ, List.set_cons_zero] at hK
      go_simp
      refine hK _ _ ?_
      first
      | exact ⟨hI.x, hI.f0, hI.f1, hI.f2, hI.f3, hI.f4, hI.f5, hI.f6, hI.f7, hI.f8, hI.f9, hI.f10, hI.f11, hI.f12, hI.f13, hI.f14, hI.f15, hI.f16, hI.f17, hI.f18, hI.f19, hI.f20, hI.f21, hI.f29, hI.f30⟩
      | (refine ⟨?_, ?_, ?_, ?_, ?_, ?_, ?_, ?_, ?_, ?_, ?_, ?_, ?_, ?_, ?_, ?_, ?_, ?_, ?_, ?_, ?_, ?_, ?_, ?_, ?_⟩ <;> (first | exact hI.x | exact hI.f0 | exact hI.f1 | exact hI.f2 | exact hI.f3 | exact hI.f4 | exact hI.f5 | exact hI.f6 | exact hI.f7 | exact hI.f8 | exact hI.f9 | exact hI.f10 | exact hI.f11 | exact hI.f12 | exact hI.f13 | exact hI.f14 | exact hI.f15 | exact hI.f16 | exact hI.f17 | exact hI.f18 | exact hI.f19 | exact hI.f20 | exact hI.f21 | exact hI.f29 | exact hI.f30 | exact fun _ => rfl | skip))
    · intro L us wx K a ha hp hd hun hI hK
      have HX := hI.x
      have u21 := hI.f21 (hp 21 (by kernel_rfl))
      clear hp HX
      replace hd := Lib.hid hd
      simp only [putAll, Act.put, List.setIfInBounds_toArray, List.set_cons_succ, List.set_cons_zero, Nat.reduceAdd, u21] at ha
      subst ha
      simp only [Act.put, List.setIfInBounds_toArray, List.set_cons_succ, List.set_cons_zero] at hK
      go_simp
      refine hK _ _ ?_
      first
      | exact ⟨hI.x, hI.f0, hI.f1, hI.f2, hI.f3, hI.f4, hI.f5, hI.f6, hI.f7, hI.f8, hI.f9, hI.f10, hI.f11, hI.f12, hI.f13, hI.f14, hI.f15, hI.f16, hI.f17, hI.f18, hI.f19, hI.f20, hI.f21, hI.f29, hI.f30⟩
      | (refine ⟨?_, ?_, ?_, ?_, ?_, ?_, ?_, ?_, ?_, ?_, ?_, ?_, ?_, ?_, ?_, ?_, ?_, ?_, ?_, ?_, ?_, ?_, ?_, ?_, ?_⟩ <;> (first | exact hI.x | exact hI.f0 | exact hI.f1 | exact hI.f2 | exact hI.f3 | exact hI.f4 | exact hI.f5 | exact hI.f6 | exact hI.f7 | exact hI.f8 | exact hI.f9 | exact hI.f10 | exact hI.f11 | exact hI.f12 | exact hI.f13 | exact hI.f14 | exact hI.f15 | exact hI.f16 | exact hI.f17 | exact hI.f18 | exact hI.f19 | exact hI.f20 | exact hI.f21 | exact hI.f29 | exact hI.f30 | exact fun _ => rfl | skip))
    · intro L us wx K a ha hp hd hun hI hK
      have HX := hI.x
      have u21 := hI.f21 (hp 21 (by kernel_rfl))
      clear hp HX
      replace hd := Lib.hid hd
      simp only [putAll, Act.put, List.setIfInBounds_toArray, List.set_cons_succ, List.set_cons_zero, Nat.reduceAdd, u21] at ha
      subst ha
      simp only [Act.put, List.setIfInBounds_toArray, List.set_cons_succ, List.set_cons_zero] at hK
      go_simp
      refine hK _ _ ?_
      first
      | exact ⟨hI.x, hI.f0, hI.f1, hI.f2, hI.f3, hI.f4, hI.f5, hI.f6, hI.f7, hI.f8, hI.f9, hI.f10, hI.f11, hI.f12, hI.f13, hI.f14, hI.f15, hI.f16, hI.f17, hI.f18, hI.f19, hI.f20, hI.f21, hI.f29, hI.f30⟩
      | (refine ⟨?_, ?_, ?_, ?_, ?_, ?_, ?_, ?_, ?_, ?_, ?_, ?_, ?_, ?_, ?_, ?_, ?_, ?_, ?_, ?_, ?_, ?_, ?_, ?_, ?_⟩ <;> (first | exact hI.x | exact hI.f0 | exact hI.f1 | exact hI.f2 | exact hI.f3 | exact hI.f4 | exact hI.f5 | exact hI.f6 | exact hI.f7 | exact hI.f8 | exact hI.f9 | exact hI.f10 | exact hI.f11 | exact hI.f12 | exact hI.f13 | exact hI.f14 | exact hI.f15 | exact hI.f16 | exact hI.f17 | exact hI.f18 | exact hI.f19 | exact hI.f20 | exact hI.f21 | exact hI.f29 | exact hI.f30 | exact fun _ => rfl | skip))
    · intro L us wx K a ha hp hd hun hI hK
      have HX := hI.x
      have u21 := hI.f21 (hp 21 (by kernel_rfl))
      clear hp HX
      replace hd := Lib.hid hd
      simp only [putAll, Act.put, List.setIfInBounds_toArray, List.set_cons_succ, List.set_cons_zero, Nat.reduceAdd, u21] at ha
      subst ha
      simp only [Act.put, List.setIfInBounds_toArray, List.set_cons_succ, List.set_cons_zero] at hK
      go_simp
      refine hK _ _ ?_
      first
      | exact ⟨hI.x, hI.f0, hI.f1, hI.f2, hI.f3, hI.f4, hI.f5, hI.f6, hI.f7, hI.f8, hI.f9, hI.f10, hI.f11, hI.f12, hI.f13, hI.f14, hI.f15, hI.f16, hI.f17, hI.f18, hI.f19, hI.f20, hI.f21, hI.f29, hI.f30⟩
      | (refine ⟨?_, ?_, ?_, ?_, ?_, ?_, ?_, ?_, ?_, ?_, ?_, ?_, ?_, ?_, ?_, ?_, ?_, ?_, ?_, ?_, ?_, ?_, ?_, ?_, ?_⟩ <;> (first | exact hI.x | exact hI.f0 | exact hI.f1 | exact hI.f2 | exact hI.f3 | exact hI.f4 | exact hI.f5 | exact hI.f6 | exact hI.f7 | exact hI.f8 | exact hI.f9 | exact hI.f10 | exact hI.f11 | exact hI.f12 | exact hI.f13 | exact hI.f14 | exact hI.f15 | exact hI.f16 | exact hI.f17 | exact hI.f18 | exact hI.f19 | exact hI.f20 | exact hI.f21 | exact hI.f29 | exact hI.f30 | exact fun _ => rfl | skip))
    · intro L us wx K a ha hp hd hun hI hK
      have HX := hI.x
      have u21 := hI.f21 (hp 21 (by kernel_rfl))
      clear hp HX
      replace hd := Lib.hid hd
      simp only [putAll, Act.put, List.setIfInBounds_toArray, List.set_cons_succ, List.set_cons_zero, Nat.reduceAdd, u21] at ha
      subst ha
      simp only [Act.put, List.setIfInBounds_toArray, List.set_cons_succ, List.set_cons_zero] at hK
      go_simp
      refine hK _ _ ?_
      first
      | (refine ⟨hI.x, hI.f0, hI.f1, hI.f2, hI.f3, hI.f4, hI.f5, hI.f6, hI.f7, hI.f8, hI.f9, hI.f10, hI.f11, hI.f12, hI.f13, hI.f14, hI.f15, hI.f16, hI.f17, hI.f18, hI.f19, hI.f20, hI.f21, ?_, hI.f30⟩ <;> (first | exact fun _ => rfl | skip))
      | (refine ⟨?_, ?_, ?_, ?_, ?_, ?_, ?_, ?_, ?_, ?_, ?_, ?_, ?_, ?_, ?_, ?_, ?_, ?_, ?_, ?_, ?_, ?_, ?_, ?_, ?_⟩ <;> (first | exact hI.x | exact hI.f0 | exact hI.f1 | exact hI.f2 | exact hI.f3 | exact hI.f4 | exact hI.f5 | exact hI.f6 | exact hI.f7 | exact hI.f8 | exact hI.f9 | exact hI.f10 | exact hI.f11 | exact hI.f12 | exact hI.f13 | exact hI.f14 | exact hI.f15 | exact hI.f16 | exact hI.f17 | exact hI.f18 | exact hI.f19 | exact hI.f20 | exact hI.f21 | exact hI.f29 | exact hI.f30 | exact fun _ => rfl | skip))
    · intro L us wx K a ha hp hd hun hI hK
      have HX := hI.x
      have u29 := hI.f29 (hp 29 (by kernel_rfl))
      clear hp HX
      replace hd := Lib.hid hd
      simp only [putAll, Act.put, List.setIfInBounds_toArray, List.set_cons_succ, List.set_cons_zero, Nat.reduceAdd, u29] at ha
      subst ha
      simp only [Act.put, List.setIfInBounds_toArray, List.set_cons_succ, List.set_cons_zero] at hK
      go_simp
      refine hK _ _ ?_
      first
      | (refine ⟨hI.x, hI.f0, hI.f1, hI.f2, hI.f3, hI.f4, hI.f5, hI.f6, hI.f7, hI.f8, hI.f9, hI.f10, hI.f11, hI.f12, hI.f13, hI.f14, hI.f15, hI.f16, hI.f17, hI.f18, hI.f19, hI.f20, hI.f21, hI.f29, ?_⟩ <;> (first | exact fun _ => rfl | skip))
      | (refine ⟨?_, ?_, ?_, ?_, ?_, ?_, ?_, ?_, ?_, ?_, ?_, ?_, ?_, ?_, ?_, ?_, ?_, ?_, ?_, ?_, ?_, ?_, ?_, ?_, ?_⟩ <;> (first | exact hI.x | exact hI.f0 | exact hI.f1 | exact hI.f2 | exact hI.f3 | exact hI.f4 | exact hI.f5 | exact hI.f6 | exact hI.f7 | exact hI.f8 | exact hI.f9 | exact hI.f10 | exact hI.f11 | exact hI.f12 | exact hI.f13 | exact hI.f14 | exact hI.f15 | exact hI.f16 | exact hI.f17 | exact hI.f18 | exact hI.f19 | exact hI.f20 | exact hI.f21 | exact hI.f29 | exact hI.f30 | exact fun _ => rfl | skip))
    intro L us wx hall hI
    have e30 := hI.f30 (hall 30 (by simp))
    have EX := hI.x
    simp only [putAll, Act.put, List.setIfInBounds_toArray, List.set_cons_succ, List.set_cons_zero, Nat.reduceAdd, e30]
    clear hall hI e30
    go_wp2_with fail
    go_ret
    exact ⟨rfl, HE.out.trans EX⟩
  · rw [Bool.true_and]
    go_enter Tryz.func32, Tryz.ntmps32
    go_upto_region 1 with (fail)
    rw [HSA.out, HSB.out]
    clear hW1 hW2
    refine wp_region_by (Al1 W2 (.slice QA nq qc) (.agg #[.int .i64 i, .int .i64 x, .int .i64 y, .int .i64 z, .int .u8 ta, .int .u8 c]) (.agg #[.int .i64 i, .int .i64 x', .int .i64 y', .int .i64 z', .int .u8 tb, .int .u8 c]) SA SB i c n1 n2 L1 L2 K1 K2 s) (by kernel_rfl) (by kernel_rfl) (by kernel_rfl) (fun us => ⟨(Ext.refl _).drew, (nofun), (nofun), (nofun), (nofun), (nofun), (nofun), (nofun), (nofun), (nofun), (nofun), (nofun), (nofun), (nofun), (nofun), (nofun), (nofun), (nofun), (nofun), (nofun), (nofun), (nofun), (nofun), (nofun), (nofun), (nofun), (nofun), (nofun), (nofun), (nofun), (nofun), (nofun)⟩) ⟨?_, ?_, ?_, ?_, ?_, ?_, ?_, ?_, ?_, ?_, ?_, ?_, ?_, ?_, ?_, ?_, ?_, ?_, ?_, ?_, ?_, ?_, ?_, ?_, ?_, ?_, ?_, ?_, ?_, ?_, ?_, trivial⟩ ?_
    · intro L us wx K a ha hp hd hun hI hK
      have HX := hI.x
      clear hp HX
      replace hd := Lib.hid hd
      simp only [putAll, Act.put, List.setIfInBounds_toArray, List.set_cons_succ, List.set_cons_zero, Nat.reduceAdd] at ha
      subst ha
      simp only [Act.put, List.setIfInBounds_toArray, List.set_cons_succ, List.set_cons_zero] at hK
      go_simp
      refine hK _ _ ?_
      first
      | (refine ⟨hI.x, ?_, hI.f1, hI.f2, hI.f3, hI.f4, hI.f5, hI.f6, hI.f7, hI.f8, hI.f9, hI.f10, hI.f11, hI.f12, hI.f13, hI.f14, hI.f15, hI.f16, hI.f17, hI.f18, hI.f19, hI.f20, hI.f21, hI.f22, hI.f23, hI.f24, hI.f25, hI.f26, hI.f27, hI.f28, hI.f29, hI.f30⟩ <;> (first | exact fun _ => rfl | skip))
      | (refine ⟨?_, ?_, ?_, ?_, ?_, ?_, ?_, ?_, ?_, ?_, ?_, ?_, ?_, ?_, ?_, ?_, ?_, ?_, ?_, ?_, ?_, ?_, ?_, ?_, ?_, ?_, ?_, ?_, ?_, ?_, ?_, ?_⟩ <;> (first | exact hI.x | exact hI.f0 | exact hI.f1 | exact hI.f2 | exact hI.f3 | exact hI.f4 | exact hI.f5 | exact hI.f6 | exact hI.f7 | exact hI.f8 | exact hI.f9 | exact hI.f10 | exact hI.f11 | exact hI.f12 | exact hI.f13 | exact hI.f14 | exact hI.f15 | exact hI.f16 | exact hI.f17 | exact hI.f18 | exact hI.f19 | exact hI.f20 | exact hI.f21 | exact hI.f22 | exact hI.f23 | exact hI.f24 | exact hI.f25 | exact hI.f26 | exact hI.f27 | exact hI.f28 | exact hI.f29 | exact hI.f30 | exact fun _ => rfl | skip))
    · intro L us wx K a ha hp hd hun hI hK
      have HX := hI.x
      have u0 := hI.f0 (hp 0 (by kernel_rfl))
      have bb := (HB1.out.ext HX).cell
      clear hp HX
      replace hd := Lib.hid hd
      simp only [putAll, Act.put, List.setIfInBounds_toArray, List.set_cons_succ, List.set_cons_zero, Nat.reduceAdd, u0] at ha
      subst ha
      simp only [Act.put, List.setIfInBounds_toArray, List.set_cons_succ, List.set_cons_zero] at hK
      go_simp
      refine hK _ _ ?_
      first
      | (refine ⟨hI.x, hI.f0, ?_, hI.f2, hI.f3, hI.f4, hI.f5, hI.f6, hI.f7, hI.f8, hI.f9, hI.f10, hI.f11, hI.f12, hI.f13, hI.f14, hI.f15, hI.f16, hI.f17, hI.f18, hI.f19, hI.f20, hI.f21, hI.f22, hI.f23, hI.f24, hI.f25, hI.f26, hI.f27, hI.f28, hI.f29, hI.f30⟩ <;> (first | exact fun _ => rfl | skip))
      | (refine ⟨?_, ?_, ?_, ?_, ?_, ?_, ?_, ?_, ?_, ?_, ?_, ?_, ?_, ?_, ?_, ?_, ?_, ?_, ?_, ?_, ?_, ?_, ?_, ?_, ?_, ?_, ?_, ?_, ?_, ?_, ?_, ?_⟩ <;> (first | exact hI.x | exact hI.f0 | exact hI.f1 | exact hI.f2 | exact hI.f3 | exact hI.f4 | exact hI.f5 | exact hI.f6 | exact hI.f7 | exact hI.f8 | exact hI.f9 | exact hI.f10 | exact hI.f11 | exact hI.f12 | exact hI.f13 | exact hI.f14 | exact hI.f15 | exact hI.f16 | exact hI.f17 | exact hI.f18 | exact hI.f19 | exact hI.f20 | exact hI.f21 | exact hI.f22 | exact hI.f23 | exact hI.f24 | exact hI.f25 | exact hI.f26 | exact hI.f27 | exact hI.f28 | exact hI.f29 | exact hI.f30 | exact fun _ => rfl | skip))
    · intro L us wx K a ha hp hd hun hI hK
      have HX := hI.x
      clear hp HX
      replace hd := Lib.hid hd
      simp only [putAll, Act.put, List.setIfInBounds_toArray, List.set_cons_succ, List.set_cons_zero, Nat.reduceAdd] at ha
      subst ha
      simp only [Act.put, List.setIfInBounds_toArray, List.set_cons_succ, List.set_cons_zero] at hK
      go_simp
      refine hK _ _ ?_
      first
      | (refine ⟨hI.x, hI.f0, hI.f1, ?_, hI.f3, hI.f4, hI.f5, hI.f6, hI.f7, hI.f8, hI.f9, hI.f10, hI.f11, hI.f12, hI.f13, hI.f14, hI.f15, hI.f16, hI.f17, hI.f18, hI.f19, hI.f20, hI.f21, hI.f22, hI.f23, hI.f24, hI.f25, hI.f26, hI.f27, hI.f28, hI.f29, hI.f30⟩ <;> (first | exact fun _ => rfl | skip))
      | (refine ⟨?_, ?_, ?_, ?_, ?_, ?_, ?_, ?_, ?_, ?_, ?_, ?_, ?_, ?_, ?_, ?_, ?_, ?_, ?_, ?_, ?_, ?_, ?_, ?_, ?_, ?_, ?_, ?_, ?_, ?_, ?_, ?_⟩ <;> (first | exact hI.x | exact hI.f0 | exact hI.f1 | exact hI.f2 | exact hI.f3 | exact hI.f4 | exact hI.f5 | exact hI.f6 | exact hI.f7 | exact hI.f8 | exact hI.f9 | exact hI.f10 | exact hI.f11 | exact hI.f12 | exact hI.f13 | exact hI.f14 | exact hI.f15 | exact hI.f16 | exact hI.f17 | exact hI.f18 | exact hI.f19 | exact hI.f20 | exact hI.f21 | exact hI.f22 | exact hI.f23 | exact hI.f24 | exact hI.f25 | exact hI.f26 | exact hI.f27 | exact hI.f28 | exact hI.f29 | exact hI.f30 | exact fun _ => rfl | skip))
    · intro L us wx K a ha hp hd hun hI hK
      have HX := hI.x
      have u2 := hI.f2 (hp 2 (by kernel_rfl))
      have bb := (HB2.out.ext HX).cell
      clear hp HX
      replace hd := Lib.hid hd
      simp only [putAll, Act.put, List.setIfInBounds_toArray, List.set_cons_succ, List.set_cons_zero, Nat.reduceAdd, u2] at ha
      subst ha
      simp only [Act.put, List.setIfInBounds_toArray, List.set_cons_succ, List.set_cons_zero] at hK
      go_simp
      refine hK _ _ ?_
      first
      | (refine ⟨hI.x, hI.f0, hI.f1, hI.f2, ?_, hI.f4, hI.f5, hI.f6, hI.f7, hI.f8, hI.f9, hI.f10, hI.f11, hI.f12, hI.f13, hI.f14, hI.f15, hI.f16, hI.f17, hI.f18, hI.f19, hI.f20, hI.f21, hI.f22, hI.f23, hI.f24, hI.f25, hI.f26, hI.f27, hI.f28, hI.f29, hI.f30⟩ <;> (first | exact fun _ => rfl | skip))
      | (refine ⟨?_, ?_, ?_, ?_, ?_, ?_, ?_, ?_, ?_, ?_, ?_, ?_, ?_, ?_, ?_, ?_, ?_, ?_, ?_, ?_, ?_, ?_, ?_, ?_, ?_, ?_, ?_, ?_, ?_, ?_, ?_, ?_⟩ <;> (first | exact hI.x | exact hI.f0 | exact hI.f1 | exact hI.f2 | exact hI.f3 | exact hI.f4 | exact hI.f5 | exact hI.f6 | exact hI.f7 | exact hI.f8 | exact hI.f9 | exact hI.f10 | exact hI.f11 | exact hI.f12 | exact hI.f13 | exact hI.f14 | exact hI.f15 | exact hI.f16 | exact hI.f17 | exact hI.f18 | exact hI.f19 | exact hI.f20 | exact hI.f21 | exact hI.f22 | exact hI.f23 | exact hI.f24 | exact hI.f25 | exact hI.f26 | exact hI.f27 | exact hI.f28 | exact hI.f29 | exact hI.f30 | exact fun _ => rfl | skip))
    · intro L us wx K a ha hp hd hun hI hK
      have HX := hI.x
      have u1 := hI.f1 (hp 1 (by kernel_rfl))
      have u3 := hI.f3 (hp 3 (by kernel_rfl))
      clear hp HX
      replace hd := Lib.hid hd
      simp only [putAll, Act.put, List.setIfInBounds_toArray, List.set_cons_succ, List.set_cons_zero, Nat.reduceAdd, u1, u3] at ha
      subst ha
      simp only [Act.put, List.setIfInBounds_toArray, List.set_cons_succ, List.set_cons_zero] at hK
      go_simp
      refine hK _ _ ?_
      first
      | (refine ⟨hI.x, hI.f0, hI.f1, hI.f2, hI.f3, ?_, hI.f5, hI.f6, hI.f7, hI.f8, hI.f9, hI.f10, hI.f11, hI.f12, hI.f13, hI.f14, hI.f15, hI.f16, hI.f17, hI.f18, hI.f19, hI.f20, hI.f21, hI.f22, hI.f23, hI.f24, hI.f25, hI.f26, hI.f27, hI.f28, hI.f29, hI.f30⟩ <;> (first | exact fun _ => rfl | skip))
      | (refine ⟨?_, ?_, ?_, ?_, ?_, ?_, ?_, ?_, ?_, ?_, ?_, ?_, ?_, ?_, ?_, ?_, ?_, ?_, ?_, ?_, ?_, ?_, ?_, ?_, ?_, ?_, ?_, ?_, ?_, ?_, ?_, ?_⟩ <;> (first | exact hI.x | exact hI.f0 | exact hI.f1 | exact hI.f2 | exact hI.f3 | exact hI.f4 | exact hI.f5 | exact hI.f6 | exact hI.f7 | exact hI.f8 | exact hI.f9 | exact hI.f10 | exact hI.f11 | exact hI.f12 | exact hI.f13 | exact hI.f14 | exact hI.f15 | exact hI.f16 | exact hI.f17 | exact hI.f18 | exact hI.f19 | exact hI.f20 | exact hI.f21 | exact hI.f22 | exact hI.f23 | exact hI.f24 | exact hI.f25 | exact hI.f26 | exact hI.f27 | exact hI.f28 | exact hI.f29 | exact hI.f30 | exact fun _ => rfl | skip))
    · intro L us wx K a ha hp hd hun hI hK
      have HX := hI.x
      have u4 := hI.f4 (hp 4 (by kernel_rfl))
      clear hp HX
      replace hd := Lib.hid hd
      simp only [putAll, Act.put, List.setIfInBounds_toArray, List.set_cons_succ, List.set_cons_zero, Nat.reduceAdd, u4] at ha
      subst ha
      simp only [Act.put, List.setIfInBounds_toArray, List.set_cons_succ, List.set_cons_zero] at hK
      go_simp
      refine hK _ _ ?_
      first
      | (refine ⟨hI.x, hI.f0, hI.f1, hI.f2, hI.f3, hI.f4, ?_, hI.f6, hI.f7, hI.f8, hI.f9, hI.f10, hI.f11, hI.f12, hI.f13, hI.f14, hI.f15, hI.f16, hI.f17, hI.f18, hI.f19, hI.f20, hI.f21, hI.f22, hI.f23, hI.f24, hI.f25, hI.f26, hI.f27, hI.f28, hI.f29, hI.f30⟩ <;> (first | exact fun _ => rfl | skip))
      | (refine ⟨?_, ?_, ?_, ?_, ?_, ?_, ?_, ?_, ?_, ?_, ?_, ?_, ?_, ?_, ?_, ?_, ?_, ?_, ?_, ?_, ?_, ?_, ?_, ?_, ?_, ?_, ?_, ?_, ?_, ?_, ?_, ?_⟩ <;> (first | exact hI.x | exact hI.f0 | exact hI.f1 | exact hI.f2 | exact hI.f3 | exact hI.f4 | exact hI.f5 | exact hI.f6 | exact hI.f7 | exact hI.f8 | exact hI.f9 | exact hI.f10 | exact hI.f11 | exact hI.f12 | exact hI.f13 | exact hI.f14 | exact hI.f15 | exact hI.f16 | exact hI.f17 | exact hI.f18 | exact hI.f19 | exact hI.f20 | exact hI.f21 | exact hI.f22 | exact hI.f23 | exact hI.f24 | exact hI.f25 | exact hI.f26 | exact hI.f27 | exact hI.f28 | exact hI.f29 | exact hI.f30 | exact fun _ => rfl | skip))
    · intro L us wx K a ha hp hd hun hI hK
      have HX := hI.x
      have u5 := hI.f5 (hp 5 (by kernel_rfl))
      clear hp HX
      replace hd := Lib.hid hd
      simp only [putAll, Act.put, List.setIfInBounds_toArray, List.set_cons_succ, List.set_cons_zero, Nat.reduceAdd, u5] at ha
      subst ha
      simp only [Act.put, List.setIfInBounds_toArray, List.set_cons_succ, List.set_cons_zero] at hK
      go_simp
      refine hK _ _ ?_
      first
      | (refine ⟨hI.x, hI.f0, hI.f1, hI.f2, hI.f3, hI.f4, hI.f5, ?_, hI.f7, hI.f8, hI.f9, hI.f10, hI.f11, hI.f12, hI.f13, hI.f14, hI.f15, hI.f16, hI.f17, hI.f18, hI.f19, hI.f20, hI.f21, hI.f22, hI.f23, hI.f24, hI.f25, hI.f26, hI.f27, hI.f28, hI.f29, hI.f30⟩ <;> (first | exact fun _ => rfl | skip))
      | (refine ⟨?_, ?_, ?_, ?_, ?_, ?_, ?_, ?_, ?_, ?_, ?_, ?_, ?_, ?_, ?_, ?_, ?_, ?_, ?_, ?_, ?_, ?_, ?_, ?_, ?_, ?_, ?_, ?_, ?_, ?_, ?_, ?_⟩ <;> (first | exact hI.x | exact hI.f0 | exact hI.f1 | exact hI.f2 | exact hI.f3 | exact hI.f4 | exact hI.f5 | exact hI.f6 | exact hI.f7 | exact hI.f8 | exact hI.f9 | exact hI.f10 | exact hI.f11 | exact hI.f12 | exact hI.f13 | exact hI.f14 | exact hI.f15 | exact hI.f16 | exact hI.f17 | exact hI.f18 | exact hI.f19 | exact hI.f20 | exact hI.f21 | exact hI.f22 | exact hI.f23 | exact hI.f24 | exact hI.f25 | exact hI.f26 | exact hI.f27 | exact hI.f28 | exact hI.f29 | exact hI.f30 | exact fun _ => rfl | skip))
    · intro L us wx K a ha hp hd hun hI hK
      have HX := hI.x
      have u5 := hI.f5 (hp 5 (by kernel_rfl))
      have u6 := hI.f6 (hp 6 (by kernel_rfl))
      have bb := (HB1.out.ext HX).cell
      clear hp HX
      replace hd := Lib.hid hd
      simp only [putAll, Act.put, List.setIfInBounds_toArray, List.set_cons_succ, List.set_cons_zero, Nat.reduceAdd, u5, u6] at ha
      subst ha
      simp only [Act.put, List.setIfInBounds_toArray, List.set_cons_succ, List.set_cons_zero] at hK
      go_simp
      refine hK _ _ ?_
      first
      | (refine ⟨hI.x, hI.f0, hI.f1, hI.f2, hI.f3, hI.f4, hI.f5, hI.f6, ?_, hI.f8, hI.f9, hI.f10, hI.f11, hI.f12, hI.f13, hI.f14, hI.f15, hI.f16, hI.f17, hI.f18, hI.f19, hI.f20, hI.f21, hI.f22, hI.f23, hI.f24, hI.f25, hI.f26, hI.f27, hI.f28, hI.f29, hI.f30⟩ <;> (first | exact fun _ => rfl | skip))
      | (refine ⟨?_, ?_, ?_, ?_, ?_, ?_, ?_, ?_, ?_, ?_, ?_, ?_, ?_, ?_, ?_, ?_, ?_, ?_, ?_, ?_, ?_, ?_, ?_, ?_, ?_, ?_, ?_, ?_, ?_, ?_, ?_, ?_⟩ <;> (first | exact hI.x | exact hI.f0 | exact hI.f1 | exact hI.f2 | exact hI.f3 | exact hI.f4 | exact hI.f5 | exact hI.f6 | exact hI.f7 | exact hI.f8 | exact hI.f9 | exact hI.f10 | exact hI.f11 | exact hI.f12 | exact hI.f13 | exact hI.f14 | exact hI.f15 | exact hI.f16 | exact hI.f17 | exact hI.f18 | exact hI.f19 | exact hI.f20 | exact hI.f21 | exact hI.f22 | exact hI.f23 | exact hI.f24 | exact hI.f25 | exact hI.f26 | exact hI.f27 | exact hI.f28 | exact hI.f29 | exact hI.f30 | exact fun _ => rfl | skip))
    · intro L us wx K a ha hp hd hun hI hK
      have HX := hI.x
      have u5 := hI.f5 (hp 5 (by kernel_rfl))
      clear hp HX
      replace hd := Lib.hid hd
      simp only [putAll, Act.put, List.setIfInBounds_toArray, List.set_cons_succ, List.set_cons_zero, Nat.reduceAdd, u5] at ha
      subst ha
      simp only [Act.put, List.setIfInBounds_toArray, List.set_cons_succ, List.set_cons_zero] at hK
      go_simp
      refine hK _ _ ?_
      first
      | (refine ⟨hI.x, hI.f0, hI.f1, hI.f2, hI.f3, hI.f4, hI.f5, hI.f6, hI.f7, ?_, hI.f9, hI.f10, hI.f11, hI.f12, hI.f13, hI.f14, hI.f15, hI.f16, hI.f17, hI.f18, hI.f19, hI.f20, hI.f21, hI.f22, hI.f23, hI.f24, hI.f25, hI.f26, hI.f27, hI.f28, hI.f29, hI.f30⟩ <;> (first | exact fun _ => rfl | skip))
      | (refine ⟨?_, ?_, ?_, ?_, ?_, ?_, ?_, ?_, ?_, ?_, ?_, ?_, ?_, ?_, ?_, ?_, ?_, ?_, ?_, ?_, ?_, ?_, ?_, ?_, ?_, ?_, ?_, ?_, ?_, ?_, ?_, ?_⟩ <;> (first | exact hI.x | exact hI.f0 | exact hI.f1 | exact hI.f2 | exact hI.f3 | exact hI.f4 | exact hI.f5 | exact hI.f6 | exact hI.f7 | exact hI.f8 | exact hI.f9 | exact hI.f10 | exact hI.f11 | exact hI.f12 | exact hI.f13 | exact hI.f14 | exact hI.f15 | exact hI.f16 | exact hI.f17 | exact hI.f18 | exact hI.f19 | exact hI.f20 | exact hI.f21 | exact hI.f22 | exact hI.f23 | exact hI.f24 | exact hI.f25 | exact hI.f26 | exact hI.f27 | exact hI.f28 | exact hI.f29 | exact hI.f30 | exact fun _ => rfl | skip))
    · intro L us wx K a ha hp hd hun hI hK
      have HX := hI.x
      have u5 := hI.f5 (hp 5 (by kernel_rfl))
      have u8 := hI.f8 (hp 8 (by kernel_rfl))
      have bb := (HB2.out.ext HX).cell
      clear hp HX
      replace hd := Lib.hid hd
      simp only [putAll, Act.put, List.setIfInBounds_toArray, List.set_cons_succ, List.set_cons_zero, Nat.reduceAdd, u5, u8] at ha
      subst ha
      simp only [Act.put, List.setIfInBounds_toArray, List.set_cons_succ, List.set_cons_zero] at hK
      go_simp
      refine hK _ _ ?_
      first
      | (refine ⟨hI.x, hI.f0, hI.f1, hI.f2, hI.f3, hI.f4, hI.f5, hI.f6, hI.f7, hI.f8, ?_, hI.f10, hI.f11, hI.f12, hI.f13, hI.f14, hI.f15, hI.f16, hI.f17, hI.f18, hI.f19, hI.f20, hI.f21, hI.f22, hI.f23, hI.f24, hI.f25, hI.f26, hI.f27, hI.f28, hI.f29, hI.f30⟩ <;> (first | exact fun _ => rfl | skip))
      | (refine ⟨?_, ?_, ?_, ?_, ?_, ?_, ?_, ?_, ?_, ?_, ?_, ?_, ?_, ?_, ?_, ?_, ?_, ?_, ?_, ?_, ?_, ?_, ?_, ?_, ?_, ?_, ?_, ?_, ?_, ?_, ?_, ?_⟩ <;> (first | exact hI.x | exact hI.f0 | exact hI.f1 | exact hI.f2 | exact hI.f3 | exact hI.f4 | exact hI.f5 | exact hI.f6 | exact hI.f7 | exact hI.f8 | exact hI.f9 | exact hI.f10 | exact hI.f11 | exact hI.f12 | exact hI.f13 | exact hI.f14 | exact hI.f15 | exact hI.f16 | exact hI.f17 | exact hI.f18 | exact hI.f19 | exact hI.f20 | exact hI.f21 | exact hI.f22 | exact hI.f23 | exact hI.f24 | exact hI.f25 | exact hI.f26 | exact hI.f27 | exact hI.f28 | exact hI.f29 | exact hI.f30 | exact fun _ => rfl | skip))
    · intro L us wx K a ha hp hd hun hI hK
      have HX := hI.x
      have u5 := hI.f5 (hp 5 (by kernel_rfl))
      have u7 := hI.f7 (hp 7 (by kernel_rfl))
      have u9 := hI.f9 (hp 9 (by kernel_rfl))
      clear hp HX
      replace hd := Lib.hid hd
      simp only [putAll, Act.put, List.setIfInBounds_toArray, List.set_cons_succ, List.set_cons_zero, Nat.reduceAdd, u5, u7, u9] at ha
      subst ha
      simp only [Act.put, List.setIfInBounds_toArray, List.set_cons_succ, List.set_cons_zero] at hK
      go_simp
      refine hK _ _ ?_
      first
      | (refine ⟨hI.x, hI.f0, hI.f1, hI.f2, hI.f3, hI.f4, hI.f5, hI.f6, hI.f7, hI.f8, hI.f9, ?_, hI.f11, hI.f12, hI.f13, hI.f14, hI.f15, hI.f16, hI.f17, hI.f18, hI.f19, hI.f20, hI.f21, hI.f22, hI.f23, hI.f24, hI.f25, hI.f26, hI.f27, hI.f28, hI.f29, hI.f30⟩ <;> (first | exact fun _ => rfl | skip))
      | (refine ⟨?_, ?_, ?_, ?_, ?_, ?_, ?_, ?_, ?_, ?_, ?_, ?_, ?_, ?_, ?_, ?_, ?_, ?_, ?_, ?_, ?_, ?_, ?_, ?_, ?_, ?_, ?_, ?_, ?_, ?_, ?_, ?_⟩ <;> (first | exact hI.x | exact hI.f0 | exact hI.f1 | exact hI.f2 | exact hI.f3 | exact hI.f4 | exact hI.f5 | exact hI.f6 | exact hI.f7 | exact hI.f8 | exact hI.f9 | exact hI.f10 | exact hI.f11 | exact hI.f12 | exact hI.f13 | exact hI.f14 | exact hI.f15 | exact hI.f16 | exact hI.f17 | exact hI.f18 | exact hI.f19 | exact hI.f20 | exact hI.f21 | exact hI.f22 | exact hI.f23 | exact hI.f24 | exact hI.f25 | exact hI.f26 | exact hI.f27 | exact hI.f28 | exact hI.f29 | exact hI.f30 | exact fun _ => rfl | skip))
    · intro L us wx K a ha hp hd hun hI hK
      have HX := hI.x
      have u5 := hI.f5 (hp 5 (by kernel_rfl))
      have u10 := hI.f10 (hp 10 (by kernel_rfl))
      clear hp HX
      replace hd := Lib.hid hd
      simp only [putAll, Act.put, List.setIfInBounds_toArray, List.set_cons_succ, List.set_cons_zero, Nat.reduceAdd, u5, u10] at ha
      subst ha
      simp only [Act.put, List.setIfInBounds_toArray, List.set_cons_succ, List.set_cons_zero] at hK
      go_simp
      refine hK _ _ ?_
      first
      | (refine ⟨hI.x, hI.f0, hI.f1, hI.f2, hI.f3, hI.f4, hI.f5, hI.f6, hI.f7, hI.f8, hI.f9, hI.f10, ?_, hI.f12, hI.f13, hI.f14, hI.f15, hI.f16, hI.f17, hI.f18, hI.f19, hI.f20, hI.f21, hI.f22, hI.f23, hI.f24, hI.f25, hI.f26, hI.f27, hI.f28, hI.f29, hI.f30⟩ <;> (first | exact fun _ => rfl | skip))
      | (refine ⟨?_, ?_, ?_, ?_, ?_, ?_, ?_, ?_, ?_, ?_, ?_, ?_, ?_, ?_, ?_, ?_, ?_, ?_, ?_, ?_, ?_, ?_, ?_, ?_, ?_, ?_, ?_, ?_, ?_, ?_, ?_, ?_⟩ <;> (first | exact hI.x | exact hI.f0 | exact hI.f1 | exact hI.f2 | exact hI.f3 | exact hI.f4 | exact hI.f5 | exact hI.f6 | exact hI.f7 | exact hI.f8 | exact hI.f9 | exact hI.f10 | exact hI.f11 | exact hI.f12 | exact hI.f13 | exact hI.f14 | exact hI.f15 | exact hI.f16 | exact hI.f17 | exact hI.f18 | exact hI.f19 | exact hI.f20 | exact hI.f21 | exact hI.f22 | exact hI.f23 | exact hI.f24 | exact hI.f25 | exact hI.f26 | exact hI.f27 | exact hI.f28 | exact hI.f29 | exact hI.f30 | exact fun _ => rfl | skip))
    · intro L us wx K a ha hp hd hun hI hK
      have HX := hI.x
      have u11 := hI.f11 (hp 11 (by kernel_rfl))
      clear hp HX
      replace hd := Lib.hid hd
      simp only [putAll, Act.put, List.setIfInBounds_toArray, List.set_cons_succ, List.set_cons_zero, Nat.reduceAdd, u11] at ha
      subst ha
      simp only [Act.put, List.setIfInBounds_toArray, List.set_cons_succ, List.set_cons_zero] at hK
      go_simp
      refine hK _ _ ?_
      first
      | (refine ⟨hI.x, hI.f0, hI.f1, hI.f2, hI.f3, hI.f4, hI.f5, hI.f6, hI.f7, hI.f8, hI.f9, hI.f10, hI.f11, ?_, hI.f13, hI.f14, hI.f15, hI.f16, hI.f17, hI.f18, hI.f19, hI.f20, hI.f21, hI.f22, hI.f23, hI.f24, hI.f25, hI.f26, hI.f27, hI.f28, hI.f29, hI.f30⟩ <;> (first | exact fun _ => rfl | skip))
      | (refine ⟨?_, ?_, ?_, ?_, ?_, ?_, ?_, ?_, ?_, ?_, ?_, ?_, ?_, ?_, ?_, ?_, ?_, ?_, ?_, ?_, ?_, ?_, ?_, ?_, ?_, ?_, ?_, ?_, ?_, ?_, ?_, ?_⟩ <;> (first | exact hI.x | exact hI.f0 | exact hI.f1 | exact hI.f2 | exact hI.f3 | exact hI.f4 | exact hI.f5 | exact hI.f6 | exact hI.f7 | exact hI.f8 | exact hI.f9 | exact hI.f10 | exact hI.f11 | exact hI.f12 | exact hI.f13 | exact hI.f14 | exact hI.f15 | exact hI.f16 | exact hI.f17 | exact hI.f18 | exact hI.f19 | exact hI.f20 | exact hI.f21 | exact hI.f22 | exact hI.f23 | exact hI.f24 | exact hI.f25 | exact hI.f26 | exact hI.f27 | exact hI.f28 | exact hI.f29 | exact hI.f30 | exact fun _ => rfl | skip))
    · intro L us wx K a ha hp hd hun hI hK
      have HX := hI.x
      have u12 := hI.f12 (hp 12 (by kernel_rfl))
      clear hp HX
      replace hd := Lib.hid hd
      simp only [putAll, Act.put, List.setIfInBounds_toArray, List.set_cons_succ, List.set_cons_zero, Nat.reduceAdd, u12] at ha
      subst ha
      simp only [Act.put, List.setIfInBounds_toArray, List.set_cons_succ, List.set_cons_zero] at hK
      go_simp
      refine hK _ _ ?_
      first
      | (refine ⟨hI.x, hI.f0, hI.f1, hI.f2, hI.f3, hI.f4, hI.f5, hI.f6, hI.f7, hI.f8, hI.f9, hI.f10, hI.f11, hI.f12, ?_, hI.f14, hI.f15, hI.f16, hI.f17, hI.f18, hI.f19, hI.f20, hI.f21, hI.f22, hI.f23, hI.f24, hI.f25, hI.f26, hI.f27, hI.f28, hI.f29, hI.f30⟩ <;> (first | exact fun _ => rfl | skip))
      | (refine ⟨?_, ?_, ?_, ?_, ?_, ?_, ?_, ?_, ?_, ?_, ?_, ?_, ?_, ?_, ?_, ?_, ?_, ?_, ?_, ?_, ?_, ?_, ?_, ?_, ?_, ?_, ?_, ?_, ?_, ?_, ?_, ?_⟩ <;> (first | exact hI.x | exact hI.f0 | exact hI.f1 | exact hI.f2 | exact hI.f3 | exact hI.f4 | exact hI.f5 | exact hI.f6 | exact hI.f7 | exact hI.f8 | exact hI.f9 | exact hI.f10 | exact hI.f11 | exact hI.f12 | exact hI.f13 | exact hI.f14 | exact hI.f15 | exact hI.f16 | exact hI.f17 | exact hI.f18 | exact hI.f19 | exact hI.f20 | exact hI.f21 | exact hI.f22 | exact hI.f23 | exact hI.f24 | exact hI.f25 | exact hI.f26 | exact hI.f27 | exact hI.f28 | exact hI.f29 | exact hI.f30 | exact fun _ => rfl | skip))
    · intro L us wx K a ha hp hd hun hI hK
      have HX := hI.x
      have u12 := hI.f12 (hp 12 (by kernel_rfl))
      have bb := (HB1.out.ext HX).cell
      clear hp HX
      replace hd := Lib.hid hd
      simp only [putAll, Act.put, List.setIfInBounds_toArray, List.set_cons_succ, List.set_cons_zero, Nat.reduceAdd, u12] at ha
      subst ha
      simp only [Act.put, List.setIfInBounds_toArray, List.set_cons_succ, List.set_cons_zero] at hK
      go_simp
      refine hK _ _ ?_
      first
      | (refine ⟨hI.x, hI.f0, hI.f1, hI.f2, hI.f3, hI.f4, hI.f5, hI.f6, hI.f7, hI.f8, hI.f9, hI.f10, hI.f11, hI.f12, hI.f13, ?_, hI.f15, hI.f16, hI.f17, hI.f18, hI.f19, hI.f20, hI.f21, hI.f22, hI.f23, hI.f24, hI.f25, hI.f26, hI.f27, hI.f28, hI.f29, hI.f30⟩ <;> (first | exact fun _ => rfl | skip))
      | (refine ⟨?_, ?_, ?_, ?_, ?_, ?_, ?_, ?_, ?_, ?_, ?_, ?_, ?_, ?_, ?_, ?_, ?_, ?_, ?_, ?_, ?_, ?_, ?_, ?_, ?_, ?_, ?_, ?_, ?_, ?_, ?_, ?_⟩ <;> (first | exact hI.x | exact hI.f0 | exact hI.f1 | exact hI.f2 | exact hI.f3 | exact hI.f4 | exact hI.f5 | exact hI.f6 | exact hI.f7 | exact hI.f8 | exact hI.f9 | exact hI.f10 | exact hI.f11 | exact hI.f12 | exact hI.f13 | exact hI.f14 | exact hI.f15 | exact hI.f16 | exact hI.f17 | exact hI.f18 | exact hI.f19 | exact hI.f20 | exact hI.f21 | exact hI.f22 | exact hI.f23 | exact hI.f24 | exact hI.f25 | exact hI.f26 | exact hI.f27 | exact hI.f28 | exact hI.f29 | exact hI.f30 | exact fun _ => rfl | skip))
    · intro L us wx K a ha hp hd hun hI hK
      have HX := hI.x
      have u12 := hI.f12 (hp 12 (by kernel_rfl))
      have u13 := hI.f13 (hp 13 (by kernel_rfl))
      have u14 := hI.f14 (hp 14 (by kernel_rfl))
      have EX := Lib.hid (HE.out.trans HX)
      clear hp HX
      replace hd := Lib.hid hd
      simp only [putAll, Act.put, List.setIfInBounds_toArray, List.set_cons_succ, List.set_cons_zero, Nat.reduceAdd, u12, u13, u14] at ha
      subst ha
      simp only [Act.put, List.setIfInBounds_toArray, List.set_cons_succ, List.set_cons_zero] at hK
      go_simp
      go_at_call 71
      refine (HP1.out _ EX.out).mono ?_
      rintro e wn ⟨g, cp, hg, rfl, q1, q2, X, En⟩
      go_simp
      refine hK _ _ ?_
      first
      | (refine ⟨hI.x.trans En, hI.f0, hI.f1, hI.f2, hI.f3, hI.f4, hI.f5, hI.f6, hI.f7, hI.f8, hI.f9, hI.f10, hI.f11, hI.f12, hI.f13, hI.f14, ?_, hI.f16, hI.f17, ?_, hI.f19, hI.f20, hI.f21, hI.f22, hI.f23, ?_, hI.f25, hI.f26, ?_, hI.f28, hI.f29, hI.f30⟩ <;> (first | exact fun h => (hI.f15 h).ext En | exact fun h => own_ext (hI.f15 h) En | exact fun h => (hI.f18 h).ext En | exact fun h => own_ext (hI.f18 h) En | exact fun h => (hI.f24 h).ext En | exact fun h => own_ext (hI.f24 h) En | exact fun h => (hI.f27 h).ext En | exact fun h => own_ext (hI.f27 h) En | exact fun _ => rfl | skip))
      | (refine ⟨hI.x.trans En, ?_, ?_, ?_, ?_, ?_, ?_, ?_, ?_, ?_, ?_, ?_, ?_, ?_, ?_, ?_, ?_, ?_, ?_, ?_, ?_, ?_, ?_, ?_, ?_, ?_, ?_, ?_, ?_, ?_, ?_, ?_⟩ <;> (first | exact hI.f0 | exact hI.f1 | exact hI.f2 | exact hI.f3 | exact hI.f4 | exact hI.f5 | exact hI.f6 | exact hI.f7 | exact hI.f8 | exact hI.f9 | exact hI.f10 | exact hI.f11 | exact hI.f12 | exact hI.f13 | exact hI.f14 | exact fun h => (hI.f15 h).ext En | exact hI.f16 | exact hI.f17 | exact fun h => (hI.f18 h).ext En | exact hI.f19 | exact hI.f20 | exact hI.f21 | exact hI.f22 | exact hI.f23 | exact fun h => (hI.f24 h).ext En | exact hI.f25 | exact hI.f26 | exact fun h => (hI.f27 h).ext En | exact hI.f28 | exact hI.f29 | exact hI.f30 | exact fun _ => rfl | skip))
      all_goals exact (by first|exact fun _ => ⟨cp, rfl, q1, q2, X⟩)
    · intro L us wx K a ha hp hd hun hI hK
      have HX := hI.x
      have u12 := hI.f12 (hp 12 (by kernel_rfl))
      clear hp HX
      replace hd := Lib.hid hd
      simp only [putAll, Act.put, List.setIfInBounds_toArray, List.set_cons_succ, List.set_cons_zero, Nat.reduceAdd, u12] at ha
      subst ha
      simp only [Act.put, List.setIfInBounds_toArray, List.set_cons_succ, List.set_cons_zero] at hK
      go_simp
      refine hK _ _ ?_
      first
      | (refine ⟨hI.x, hI.f0, hI.f1, hI.f2, hI.f3, hI.f4, hI.f5, hI.f6, hI.f7, hI.f8, hI.f9, hI.f10, hI.f11, hI.f12, hI.f13, hI.f14, hI.f15, ?_, hI.f17, hI.f18, hI.f19, hI.f20, hI.f21, hI.f22, hI.f23, hI.f24, hI.f25, hI.f26, hI.f27, hI.f28, hI.f29, hI.f30⟩ <;> (first | exact fun _ => rfl | skip))
      | (refine ⟨?_, ?_, ?_, ?_, ?_, ?_, ?_, ?_, ?_, ?_, ?_, ?_, ?_, ?_, ?_, ?_, ?_, ?_, ?_, ?_, ?_, ?_, ?_, ?_, ?_, ?_, ?_, ?_, ?_, ?_, ?_, ?_⟩ <;> (first | exact hI.x | exact hI.f0 | exact hI.f1 | exact hI.f2 | exact hI.f3 | exact hI.f4 | exact hI.f5 | exact hI.f6 | exact hI.f7 | exact hI.f8 | exact hI.f9 | exact hI.f10 | exact hI.f11 | exact hI.f12 | exact hI.f13 | exact hI.f14 | exact hI.f15 | exact hI.f16 | exact hI.f17 | exact hI.f18 | exact hI.f19 | exact hI.f20 | exact hI.f21 | exact hI.f22 | exact hI.f23 | exact hI.f24 | exact hI.f25 | exact hI.f26 | exact hI.f27 | exact hI.f28 | exact hI.f29 | exact hI.f30 | exact fun _ => rfl | skip))
    · intro L us wx K a ha hp hd hun hI hK
      have HX := hI.x
      have u12 := hI.f12 (hp 12 (by kernel_rfl))
      have bb := (HB2.out.ext HX).cell
      clear hp HX
      replace hd := Lib.hid hd
      simp only [putAll, Act.put, List.setIfInBounds_toArray, List.set_cons_succ, List.set_cons_zero, Nat.reduceAdd, u12] at ha
      subst ha
      simp only [Act.put, List.setIfInBounds_toArray, List.set_cons_succ, List.set_cons_zero] at hK
      go_simp
      refine hK _ _ ?_
      first
      | (refine ⟨hI.x, hI.f0, hI.f1, hI.f2, hI.f3, hI.f4, hI.f5, hI.f6, hI.f7, hI.f8, hI.f9, hI.f10, hI.f11, hI.f12, hI.f13, hI.f14, hI.f15, hI.f16, ?_, hI.f18, hI.f19, hI.f20, hI.f21, hI.f22, hI.f23, hI.f24, hI.f25, hI.f26, hI.f27, hI.f28, hI.f29, hI.f30⟩ <;> (first | exact fun _ => rfl | skip))
      | (refine ⟨?_, ?_, ?_, ?_, ?_, ?_, ?_, ?_, ?_, ?_, ?_, ?_, ?_, ?_, ?_, ?_, ?_, ?_, ?_, ?_, ?_, ?_, ?_, ?_, ?_, ?_, ?_, ?_, ?_, ?_, ?_, ?_⟩ <;> (first | exact hI.x | exact hI.f0 | exact hI.f1 | exact hI.f2 | exact hI.f3 | exact hI.f4 | exact hI.f5 | exact hI.f6 | exact hI.f7 | exact hI.f8 | exact hI.f9 | exact hI.f10 | exact hI.f11 | exact hI.f12 | exact hI.f13 | exact hI.f14 | exact hI.f15 | exact hI.f16 | exact hI.f17 | exact hI.f18 | exact hI.f19 | exact hI.f20 | exact hI.f21 | exact hI.f22 | exact hI.f23 | exact hI.f24 | exact hI.f25 | exact hI.f26 | exact hI.f27 | exact hI.f28 | exact hI.f29 | exact hI.f30 | exact fun _ => rfl | skip))
    · intro L us wx K a ha hp hd hun hI hK
      have HX := hI.x
      have u12 := hI.f12 (hp 12 (by kernel_rfl))
      have u16 := hI.f16 (hp 16 (by kernel_rfl))
      have u17 := hI.f17 (hp 17 (by kernel_rfl))
      have EX := Lib.hid (HE.out.trans HX)
      clear hp HX
      replace hd := Lib.hid hd
      simp only [putAll, Act.put, List.setIfInBounds_toArray, List.set_cons_succ, List.set_cons_zero, Nat.reduceAdd, u12, u16, u17] at ha
      subst ha
      simp only [Act.put, List.setIfInBounds_toArray, List.set_cons_succ, List.set_cons_zero] at hK
      go_simp
      go_at_call 71
      refine (HP2.out _ EX.out).mono ?_
      rintro e wn ⟨g, cp, hg, rfl, q1, q2, X, En⟩
      go_simp
      refine hK _ _ ?_
      first
      | (refine ⟨hI.x.trans En, hI.f0, hI.f1, hI.f2, hI.f3, hI.f4, hI.f5, hI.f6, hI.f7, hI.f8, hI.f9, hI.f10, hI.f11, hI.f12, hI.f13, hI.f14, ?_, hI.f16, hI.f17, ?_, hI.f19, hI.f20, hI.f21, hI.f22, hI.f23, ?_, hI.f25, hI.f26, ?_, hI.f28, hI.f29, hI.f30⟩ <;> (first | exact fun h => (hI.f15 h).ext En | exact fun h => own_ext (hI.f15 h) En | exact fun h => (hI.f18 h).ext En | exact fun h => own_ext (hI.f18 h) En | exact fun h => (hI.f24 h).ext En | exact fun h => own_ext (hI.f24 h) En | exact fun h => (hI.f27 h).ext En | exact fun h => own_ext (hI.f27 h) En | exact fun _ => rfl | skip))
      | (refine ⟨hI.x.trans En, ?_, ?_, ?_, ?_, ?_, ?_, ?_, ?_, ?_, ?_, ?_, ?_, ?_, ?_, ?_, ?_, ?_, ?_, ?_, ?_, ?_, ?_, ?_, ?_, ?_, ?_, ?_, ?_, ?_, ?_, ?_⟩ <;> (first | exact hI.f0 | exact hI.f1 | exact hI.f2 | exact hI.f3 | exact hI.f4 | exact hI.f5 | exact hI.f6 | exact hI.f7 | exact hI.f8 | exact hI.f9 | exact hI.f10 | exact hI.f11 | exact hI.f12 | exact hI.f13 | exact hI.f14 | exact fun h => (hI.f15 h).ext En | exact hI.f16 | exact hI.f17 | exact fun h => (hI.f18 h).ext En | exact hI.f19 | exact hI.f20 | exact hI.f21 | exact hI.f22 | exact hI.f23 | exact fun h => (hI.f24 h).ext En | exact hI.f25 | exact hI.f26 | exact fun h => (hI.f27 h).ext En | exact hI.f28 | exact hI.f29 | exact hI.f30 | exact fun _ => rfl | skip))
      all_goals exact (by first|exact fun _ => ⟨cp, rfl, q1, q2, X⟩)
    · intro L us wx K a ha hp hd hun hI hK
      have HX := hI.x
      have u12 := hI.f12 (hp 12 (by kernel_rfl))
      obtain ⟨c1, ua, p1, p2, X⟩ := hI.f15 (hp 15 (by kernel_rfl))
      obtain ⟨c2, ub, q1, q2, Y⟩ := hI.f18 (hp 18 (by kernel_rfl))
      have S1 := RowX.slice X (pts_wide' L1) (by rw [List.length_map, Hl1.out]) p1 p2
      have S2 := RowX.slice Y (pts_wide' L2) (by rw [List.length_map, Hl2.out]) q1 q2
      obtain ⟨g1, hg1⟩ : ∃ g, bk (us 15) = g := ⟨_, rfl⟩
      obtain ⟨g2, hg2⟩ : ∃ g, bk (us 18) = g := ⟨_, rfl⟩
      rw [hg1] at ua S1
      rw [hg2] at ub S2
      have CC := rSameCells_c (some ⟨g1, 0, none⟩) (some ⟨g2, 0, none⟩) c1 c2 L1 L2 wx (by unfold Cells; rw [Hl1.out]; exact S1) (by unfold Cells; rw [Hl2.out]; exact S2)
      rw [Hl1.out, Hl2.out, Hr.out] at CC
      clear hg1 hg2 S1 S2 X Y p1 p2 q1 q2
      clear hp HX
      replace hd := Lib.hid hd
      simp only [putAll, Act.put, List.setIfInBounds_toArray, List.set_cons_succ, List.set_cons_zero, Nat.reduceAdd, u12, ua, ub] at ha
      subst ha
      simp only [Act.put, List.setIfInBounds_toArray, List.set_cons_succ, List.set_cons_zero] at hK
      go_simp
      go_at_call 47
      refine (CC).mono ?_
      rintro e wn ⟨rfl, En⟩
      go_simp
      refine hK _ _ ?_
      first
      | (refine ⟨hI.x.trans En, hI.f0, hI.f1, hI.f2, hI.f3, hI.f4, hI.f5, hI.f6, hI.f7, hI.f8, hI.f9, hI.f10, hI.f11, hI.f12, hI.f13, hI.f14, ?_, hI.f16, hI.f17, ?_, ?_, hI.f20, hI.f21, hI.f22, hI.f23, ?_, hI.f25, hI.f26, ?_, hI.f28, hI.f29, hI.f30⟩ <;> (first | exact fun h => (hI.f15 h).ext En | exact fun h => own_ext (hI.f15 h) En | exact fun h => (hI.f18 h).ext En | exact fun h => own_ext (hI.f18 h) En | exact fun h => (hI.f24 h).ext En | exact fun h => own_ext (hI.f24 h) En | exact fun h => (hI.f27 h).ext En | exact fun h => own_ext (hI.f27 h) En | exact fun _ => rfl | skip))
      | (refine ⟨hI.x.trans En, ?_, ?_, ?_, ?_, ?_, ?_, ?_, ?_, ?_, ?_, ?_, ?_, ?_, ?_, ?_, ?_, ?_, ?_, ?_, ?_, ?_, ?_, ?_, ?_, ?_, ?_, ?_, ?_, ?_, ?_, ?_⟩ <;> (first | exact hI.f0 | exact hI.f1 | exact hI.f2 | exact hI.f3 | exact hI.f4 | exact hI.f5 | exact hI.f6 | exact hI.f7 | exact hI.f8 | exact hI.f9 | exact hI.f10 | exact hI.f11 | exact hI.f12 | exact hI.f13 | exact hI.f14 | exact fun h => (hI.f15 h).ext En | exact hI.f16 | exact hI.f17 | exact fun h => (hI.f18 h).ext En | exact hI.f19 | exact hI.f20 | exact hI.f21 | exact hI.f22 | exact hI.f23 | exact fun h => (hI.f24 h).ext En | exact hI.f25 | exact hI.f26 | exact fun h => (hI.f27 h).ext En | exact hI.f28 | exact hI.f29 | exact hI.f30 | exact fun _ => rfl | skip))
    · intro L us wx K a ha hp hd hun hI hK
      have HX := hI.x
      have u12 := hI.f12 (hp 12 (by kernel_rfl))
      have u19 := hI.f19 (hp 19 (by kernel_rfl))
      clear hp HX
      replace hd := Lib.hid hd
      simp only [putAll, Act.put, List.setIfInBounds_toArray, List.set_cons_succ, List.set_cons_zero, Nat.reduceAdd, u12, u19] at ha
      subst ha
      simp only [Act.put, List.setIfInBounds_toArray, List.set_cons_succ, List.set_cons_zero] at hK
      go_simp
      refine hK _ _ ?_
      first
      | (refine ⟨hI.x, hI.f0, hI.f1, hI.f2, hI.f3, hI.f4, hI.f5, hI.f6, hI.f7, hI.f8, hI.f9, hI.f10, hI.f11, hI.f12, hI.f13, hI.f14, hI.f15, hI.f16, hI.f17, hI.f18, hI.f19, ?_, hI.f21, hI.f22, hI.f23, hI.f24, hI.f25, hI.f26, hI.f27, hI.f28, hI.f29, hI.f30⟩ <;> (first | exact fun _ => rfl | skip))
      | (refine ⟨?_, ?_, ?_, ?_, ?_, ?_, ?_, ?_, ?_, ?_, ?_, ?_, ?_, ?_, ?_, ?_, ?_, ?_, ?_, ?_, ?_, ?_, ?_, ?_, ?_, ?_, ?_, ?_, ?_, ?_, ?_, ?_⟩ <;> (first | exact hI.x | exact hI.f0 | exact hI.f1 | exact hI.f2 | exact hI.f3 | exact hI.f4 | exact hI.f5 | exact hI.f6 | exact hI.f7 | exact hI.f8 | exact hI.f9 | exact hI.f10 | exact hI.f11 | exact hI.f12 | exact hI.f13 | exact hI.f14 | exact hI.f15 | exact hI.f16 | exact hI.f17 | exact hI.f18 | exact hI.f19 | exact hI.f20 | exact hI.f21 | exact hI.f22 | exact hI.f23 | exact hI.f24 | exact hI.f25 | exact hI.f26 | exact hI.f27 | exact hI.f28 | exact hI.f29 | exact hI.f30 | exact fun _ => rfl | skip))
    · intro L us wx K a ha hp hd hun hI hK
      have HX := hI.x
      have u20 := hI.f20 (hp 20 (by kernel_rfl))
      clear hp HX
      replace hd := Lib.hid hd
      simp only [putAll, Act.put, List.setIfInBounds_toArray, List.set_cons_succ, List.set_cons_zero, Nat.reduceAdd, u20] at ha
      subst ha
      simp only [Act.put, List.setIfInBounds_toArray, List.set_cons_succ, List.set_cons_zero] at hK
      go_simp
      refine hK _ _ ?_
      first
      | (refine ⟨hI.x, hI.f0, hI.f1, hI.f2, hI.f3, hI.f4, hI.f5, hI.f6, hI.f7, hI.f8, hI.f9, hI.f10, hI.f11, hI.f12, hI.f13, hI.f14, hI.f15, hI.f16, hI.f17, hI.f18, hI.f19, hI.f20, ?_, hI.f22, hI.f23, hI.f24, hI.f25, hI.f26, hI.f27, hI.f28, hI.f29, hI.f30⟩ <;> (first | exact fun _ => rfl | skip))
      | (refine ⟨?_, ?_, ?_, ?_, ?_, ?_, ?_, ?_, ?_, ?_, ?_, ?_, ?_, ?_, ?_, ?_, ?_, ?_, ?_, ?_, ?_, ?_, ?_, ?_, ?_, ?_, ?_, ?_, ?_, ?_, ?_, ?_⟩ <;> (first | exact hI.x | exact hI.f0 | exact hI.f1 | exact hI.f2 | exact hI.f3 | exact hI.f4 | exact hI.f5 | exact hI.f6 | exact hI.f7 | exact hI.f8 | exact hI.f9 | exact hI.f10 | exact hI.f11 | exact hI.f12 | exact hI.f13 | exact hI.f14 | exact hI.f15 | exact hI.f16 | exact hI.f17 | exact hI.f18 | exact hI.f19 | exact hI.f20 | exact hI.f21 | exact hI.f22 | exact hI.f23 | exact hI.f24 | exact hI.f25 | exact hI.f26 | exact hI.f27 | exact hI.f28 | exact hI.f29 | exact hI.f30 | exact fun _ => rfl | skip))
    · intro L us wx K a ha hp hd hun hI hK
      have HX := hI.x
      have u21 := hI.f21 (hp 21 (by kernel_rfl))
      clear hp HX
      replace hd := Lib.hid hd
      simp only [putAll, Act.put, List.setIfInBounds_toArray, List.set_cons_succ, List.set_cons_zero, Nat.reduceAdd, u21] at ha
      subst ha
      simp only [Act.put, List.setIfInBounds_toArray, List.set_cons_succ, List.set_cons_zero] at hK
      go_simp
      refine hK _ _ ?_
      first
      | (refine ⟨hI.x, hI.f0, hI.f1, hI.f2, hI.f3, hI.f4, hI.f5, hI.f6, hI.f7, hI.f8, hI.f9, hI.f10, hI.f11, hI.f12, hI.f13, hI.f14, hI.f15, hI.f16, hI.f17, hI.f18, hI.f19, hI.f20, hI.f21, ?_, hI.f23, hI.f24, hI.f25, hI.f26, hI.f27, hI.f28, hI.f29, hI.f30⟩ <;> (first | exact fun _ => rfl | skip))
      | (refine ⟨?_, ?_, ?_, ?_, ?_, ?_, ?_, ?_, ?_, ?_, ?_, ?_, ?_, ?_, ?_, ?_, ?_, ?_, ?_, ?_, ?_, ?_, ?_, ?_, ?_, ?_, ?_, ?_, ?_, ?_, ?_, ?_⟩ <;> (first | exact hI.x | exact hI.f0 | exact hI.f1 | exact hI.f2 | exact hI.f3 | exact hI.f4 | exact hI.f5 | exact hI.f6 | exact hI.f7 | exact hI.f8 | exact hI.f9 | exact hI.f10 | exact hI.f11 | exact hI.f12 | exact hI.f13 | exact hI.f14 | exact hI.f15 | exact hI.f16 | exact hI.f17 | exact hI.f18 | exact hI.f19 | exact hI.f20 | exact hI.f21 | exact hI.f22 | exact hI.f23 | exact hI.f24 | exact hI.f25 | exact hI.f26 | exact hI.f27 | exact hI.f28 | exact hI.f29 | exact hI.f30 | exact fun _ => rfl | skip))
    · intro L us wx K a ha hp hd hun hI hK
      have HX := hI.x
      have u21 := hI.f21 (hp 21 (by kernel_rfl))
      have bb := (HB1.out.ext HX).cell
      clear hp HX
      replace hd := Lib.hid hd
      simp only [putAll, Act.put, List.setIfInBounds_toArray, List.set_cons_succ, List.set_cons_zero, Nat.reduceAdd, u21] at ha
      subst ha
      simp only [Act.put, List.setIfInBounds_toArray, List.set_cons_succ, List.set_cons_zero] at hK
      go_simp
      refine hK _ _ ?_
      first
      | (refine ⟨hI.x, hI.f0, hI.f1, hI.f2, hI.f3, hI.f4, hI.f5, hI.f6, hI.f7, hI.f8, hI.f9, hI.f10, hI.f11, hI.f12, hI.f13, hI.f14, hI.f15, hI.f16, hI.f17, hI.f18, hI.f19, hI.f20, hI.f21, hI.f22, ?_, hI.f24, hI.f25, hI.f26, hI.f27, hI.f28, hI.f29, hI.f30⟩ <;> (first | exact fun _ => rfl | skip))
      | (refine ⟨?_, ?_, ?_, ?_, ?_, ?_, ?_, ?_, ?_, ?_, ?_, ?_, ?_, ?_, ?_, ?_, ?_, ?_, ?_, ?_, ?_, ?_, ?_, ?_, ?_, ?_, ?_, ?_, ?_, ?_, ?_, ?_⟩ <;> (first | exact hI.x | exact hI.f0 | exact hI.f1 | exact hI.f2 | exact hI.f3 | exact hI.f4 | exact hI.f5 | exact hI.f6 | exact hI.f7 | exact hI.f8 | exact hI.f9 | exact hI.f10 | exact hI.f11 | exact hI.f12 | exact hI.f13 | exact hI.f14 | exact hI.f15 | exact hI.f16 | exact hI.f17 | exact hI.f18 | exact hI.f19 | exact hI.f20 | exact hI.f21 | exact hI.f22 | exact hI.f23 | exact hI.f24 | exact hI.f25 | exact hI.f26 | exact hI.f27 | exact hI.f28 | exact hI.f29 | exact hI.f30 | exact fun _ => rfl | skip))
    · intro L us wx K a ha hp hd hun hI hK
      have HX := hI.x
      have u21 := hI.f21 (hp 21 (by kernel_rfl))
      have u22 := hI.f22 (hp 22 (by kernel_rfl))
      have u23 := hI.f23 (hp 23 (by kernel_rfl))
      have EX := Lib.hid (HE.out.trans HX)
      clear hp HX
      replace hd := Lib.hid hd
      simp only [putAll, Act.put, List.setIfInBounds_toArray, List.set_cons_succ, List.set_cons_zero, Nat.reduceAdd, u21, u22, u23] at ha
      subst ha
      simp only [Act.put, List.setIfInBounds_toArray, List.set_cons_succ, List.set_cons_zero] at hK
      go_simp
      go_at_call 73
      refine (HQ1.out _ EX.out).mono ?_
      rintro e wn ⟨A, cp, rfl, S1, -, En⟩
      go_simp
      refine hK _ _ ?_
      first
      | (refine ⟨hI.x.trans En, hI.f0, hI.f1, hI.f2, hI.f3, hI.f4, hI.f5, hI.f6, hI.f7, hI.f8, hI.f9, hI.f10, hI.f11, hI.f12, hI.f13, hI.f14, ?_, hI.f16, hI.f17, ?_, hI.f19, hI.f20, hI.f21, hI.f22, hI.f23, ?_, hI.f25, hI.f26, ?_, hI.f28, hI.f29, hI.f30⟩ <;> (first | exact fun h => (hI.f15 h).ext En | exact fun h => own_ext (hI.f15 h) En | exact fun h => (hI.f18 h).ext En | exact fun h => own_ext (hI.f18 h) En | exact fun h => (hI.f24 h).ext En | exact fun h => own_ext (hI.f24 h) En | exact fun h => (hI.f27 h).ext En | exact fun h => own_ext (hI.f27 h) En | exact fun _ => rfl | skip))
      | (refine ⟨hI.x.trans En, ?_, ?_, ?_, ?_, ?_, ?_, ?_, ?_, ?_, ?_, ?_, ?_, ?_, ?_, ?_, ?_, ?_, ?_, ?_, ?_, ?_, ?_, ?_, ?_, ?_, ?_, ?_, ?_, ?_, ?_, ?_⟩ <;> (first | exact hI.f0 | exact hI.f1 | exact hI.f2 | exact hI.f3 | exact hI.f4 | exact hI.f5 | exact hI.f6 | exact hI.f7 | exact hI.f8 | exact hI.f9 | exact hI.f10 | exact hI.f11 | exact hI.f12 | exact hI.f13 | exact hI.f14 | exact fun h => (hI.f15 h).ext En | exact hI.f16 | exact hI.f17 | exact fun h => (hI.f18 h).ext En | exact hI.f19 | exact hI.f20 | exact hI.f21 | exact hI.f22 | exact hI.f23 | exact fun h => (hI.f24 h).ext En | exact hI.f25 | exact hI.f26 | exact fun h => (hI.f27 h).ext En | exact hI.f28 | exact hI.f29 | exact hI.f30 | exact fun _ => rfl | skip))
      all_goals exact (by first|exact fun _ => ⟨A, cp, rfl, S1⟩)
    · intro L us wx K a ha hp hd hun hI hK
      have HX := hI.x
      have u21 := hI.f21 (hp 21 (by kernel_rfl))
      clear hp HX
      replace hd := Lib.hid hd
      simp only [putAll, Act.put, List.setIfInBounds_toArray, List.set_cons_succ, List.set_cons_zero, Nat.reduceAdd, u21] at ha
      subst ha
      simp only [Act.put, List.setIfInBounds_toArray, List.set_cons_succ, List.set_cons_zero] at hK
      go_simp
      refine hK _ _ ?_
      first
      | (refine ⟨hI.x, hI.f0, hI.f1, hI.f2, hI.f3, hI.f4, hI.f5, hI.f6, hI.f7, hI.f8, hI.f9, hI.f10, hI.f11, hI.f12, hI.f13, hI.f14, hI.f15, hI.f16, hI.f17, hI.f18, hI.f19, hI.f20, hI.f21, hI.f22, hI.f23, hI.f24, ?_, hI.f26, hI.f27, hI.f28, hI.f29, hI.f30⟩ <;> (first | exact fun _ => rfl | skip))
      | (refine ⟨?_, ?_, ?_, ?_, ?_, ?_, ?_, ?_, ?_, ?_, ?_, ?_, ?_, ?_, ?_, ?_, ?_, ?_, ?_, ?_, ?_, ?_, ?_, ?_, ?_, ?_, ?_, ?_, ?_, ?_, ?_, ?_⟩ <;> (first | exact hI.x | exact hI.f0 | exact hI.f1 | exact hI.f2 | exact hI.f3 | exact hI.f4 | exact hI.f5 | exact hI.f6 | exact hI.f7 | exact hI.f8 | exact hI.f9 | exact hI.f10 | exact hI.f11 | exact hI.f12 | exact hI.f13 | exact hI.f14 | exact hI.f15 | exact hI.f16 | exact hI.f17 | exact hI.f18 | exact hI.f19 | exact hI.f20 | exact hI.f21 | exact hI.f22 | exact hI.f23 | exact hI.f24 | exact hI.f25 | exact hI.f26 | exact hI.f27 | exact hI.f28 | exact hI.f29 | exact hI.f30 | exact fun _ => rfl | skip))
    · intro L us wx K a ha hp hd hun hI hK
      have HX := hI.x
      have u21 := hI.f21 (hp 21 (by kernel_rfl))
      have bb := (HB2.out.ext HX).cell
      clear hp HX
      replace hd := Lib.hid hd
      simp only [putAll, Act.put, List.setIfInBounds_toArray, List.set_cons_succ, List.set_cons_zero, Nat.reduceAdd, u21] at ha
      subst ha
      simp only [Act.put, List.setIfInBounds_toArray, List.set_cons_succ, List.set_cons_zero] at hK
      go_simp
      refine hK _ _ ?_
      first
      | (refine ⟨hI.x, hI.f0, hI.f1, hI.f2, hI.f3, hI.f4, hI.f5, hI.f6, hI.f7, hI.f8, hI.f9, hI.f10, hI.f11, hI.f12, hI.f13, hI.f14, hI.f15, hI.f16, hI.f17, hI.f18, hI.f19, hI.f20, hI.f21, hI.f22, hI.f23, hI.f24, hI.f25, ?_, hI.f27, hI.f28, hI.f29, hI.f30⟩ <;> (first | exact fun _ => rfl | skip))
      | (refine ⟨?_, ?_, ?_, ?_, ?_, ?_, ?_, ?_, ?_, ?_, ?_, ?_, ?_, ?_, ?_, ?_, ?_, ?_, ?_, ?_, ?_, ?_, ?_, ?_, ?_, ?_, ?_, ?_, ?_, ?_, ?_, ?_⟩ <;> (first | exact hI.x | exact hI.f0 | exact hI.f1 | exact hI.f2 | exact hI.f3 | exact hI.f4 | exact hI.f5 | exact hI.f6 | exact hI.f7 | exact hI.f8 | exact hI.f9 | exact hI.f10 | exact hI.f11 | exact hI.f12 | exact hI.f13 | exact hI.f14 | exact hI.f15 | exact hI.f16 | exact hI.f17 | exact hI.f18 | exact hI.f19 | exact hI.f20 | exact hI.f21 | exact hI.f22 | exact hI.f23 | exact hI.f24 | exact hI.f25 | exact hI.f26 | exact hI.f27 | exact hI.f28 | exact hI.f29 | exact hI.f30 | exact fun _ => rfl | skip))
    · intro L us wx K a ha hp hd hun hI hK
      have HX := hI.x
      have u21 := hI.f21 (hp 21 (by kernel_rfl))
      have u25 := hI.f25 (hp 25 (by kernel_rfl))
      have u26 := hI.f26 (hp 26 (by kernel_rfl))
      have EX := Lib.hid (HE.out.trans HX)
      clear hp HX
      replace hd := Lib.hid hd
      simp only [putAll, Act.put, List.setIfInBounds_toArray, List.set_cons_succ, List.set_cons_zero, Nat.reduceAdd, u21, u25, u26] at ha
      subst ha
      simp only [Act.put, List.setIfInBounds_toArray, List.set_cons_succ, List.set_cons_zero] at hK
      go_simp
      go_at_call 73
      refine (HQ2.out _ EX.out).mono ?_
      rintro e wn ⟨A, cp, rfl, S1, -, En⟩
      go_simp
      refine hK _ _ ?_
      first
      | (refine ⟨hI.x.trans En, hI.f0, hI.f1, hI.f2, hI.f3, hI.f4, hI.f5, hI.f6, hI.f7, hI.f8, hI.f9, hI.f10, hI.f11, hI.f12, hI.f13, hI.f14, ?_, hI.f16, hI.f17, ?_, hI.f19, hI.f20, hI.f21, hI.f22, hI.f23, ?_, hI.f25, hI.f26, ?_, hI.f28, hI.f29, hI.f30⟩ <;> (first | exact fun h => (hI.f15 h).ext En | exact fun h => own_ext (hI.f15 h) En | exact fun h => (hI.f18 h).ext En | exact fun h => own_ext (hI.f18 h) En | exact fun h => (hI.f24 h).ext En | exact fun h => own_ext (hI.f24 h) En | exact fun h => (hI.f27 h).ext En | exact fun h => own_ext (hI.f27 h) En | exact fun _ => rfl | skip))
      | (refine ⟨hI.x.trans En, ?_, ?_, ?_, ?_, ?_, ?_, ?_, ?_, ?_, ?_, ?_, ?_, ?_, ?_, ?_, ?_, ?_, ?_, ?_, ?_, ?_, ?_, ?_, ?_, ?_, ?_, ?_, ?_, ?_, ?_, ?_⟩ <;> (first | exact hI.f0 | exact hI.f1 | exact hI.f2 | exact hI.f3 | exact hI.f4 | exact hI.f5 | exact hI.f6 | exact hI.f7 | exact hI.f8 | exact hI.f9 | exact hI.f10 | exact hI.f11 | exact hI.f12 | exact hI.f13 | exact hI.f14 | exact fun h => (hI.f15 h).ext En | exact hI.f16 | exact hI.f17 | exact fun h => (hI.f18 h).ext En | exact hI.f19 | exact hI.f20 | exact hI.f21 | exact hI.f22 | exact hI.f23 | exact fun h => (hI.f24 h).ext En | exact hI.f25 | exact hI.f26 | exact fun h => (hI.f27 h).ext En | exact hI.f28 | exact hI.f29 | exact hI.f30 | exact fun _ => rfl | skip))
      all_goals exact (by first|exact fun _ => ⟨A, cp, rfl, S1⟩)
    · intro L us wx K a ha hp hd hun hI hK
      have HX := hI.x
      have u21 := hI.f21 (hp 21 (by kernel_rfl))
      obtain ⟨A1, c1, ua, S1⟩ := hI.f24 (hp 24 (by kernel_rfl))
      obtain ⟨A2, c2, ub, S2⟩ := hI.f27 (hp 27 (by kernel_rfl))
      have CC := rSameKnobs_c A1 A2 c1 c2 K1 K2 wx (by unfold KnobsR; rw [Hk1.out]; exact S1) (by unfold KnobsR; rw [Hk2.out]; exact S2)
      rw [Hk1.out, Hk2.out, Hs.out] at CC
      clear S1 S2
      clear hp HX
      replace hd := Lib.hid hd
      simp only [putAll, Act.put, List.setIfInBounds_toArray, List.set_cons_succ, List.set_cons_zero, Nat.reduceAdd, u21, ua, ub] at ha
      subst ha
      simp only [Act.put, List.setIfInBounds_toArray, List.set_cons_succ, List.set_cons_zero] at hK
      go_simp
      go_at_call 72
      refine (CC).mono ?_
      rintro e wn ⟨rfl, En⟩
      go_simp
      refine hK _ _ ?_
      first
      | (refine ⟨hI.x.trans En, hI.f0, hI.f1, hI.f2, hI.f3, hI.f4, hI.f5, hI.f6, hI.f7, hI.f8, hI.f9, hI.f10, hI.f11, hI.f12, hI.f13, hI.f14, ?_, hI.f16, hI.f17, ?_, hI.f19, hI.f20, hI.f21, hI.f22, hI.f23, ?_, hI.f25, hI.f26, ?_, ?_, hI.f29, hI.f30⟩ <;> (first | exact fun h => (hI.f15 h).ext En | exact fun h => own_ext (hI.f15 h) En | exact fun h => (hI.f18 h).ext En | exact fun h => own_ext (hI.f18 h) En | exact fun h => (hI.f24 h).ext En | exact fun h => own_ext (hI.f24 h) En | exact fun h => (hI.f27 h).ext En | exact fun h => own_ext (hI.f27 h) En | exact fun _ => rfl | skip))
      | (refine ⟨hI.x.trans En, ?_, ?_, ?_, ?_, ?_, ?_, ?_, ?_, ?_, ?_, ?_, ?_, ?_, ?_, ?_, ?_, ?_, ?_, ?_, ?_, ?_, ?_, ?_, ?_, ?_, ?_, ?_, ?_, ?_, ?_, ?_⟩ <;> (first | exact hI.f0 | exact hI.f1 | exact hI.f2 | exact hI.f3 | exact hI.f4 | exact hI.f5 | exact hI.f6 | exact hI.f7 | exact hI.f8 | exact hI.f9 | exact hI.f10 | exact hI.f11 | exact hI.f12 | exact hI.f13 | exact hI.f14 | exact fun h => (hI.f15 h).ext En | exact hI.f16 | exact hI.f17 | exact fun h => (hI.f18 h).ext En | exact hI.f19 | exact hI.f20 | exact hI.f21 | exact hI.f22 | exact hI.f23 | exact fun h => (hI.f24 h).ext En | exact hI.f25 | exact hI.f26 | exact fun h => (hI.f27 h).ext En | exact hI.f28 | exact hI.f29 | exact hI.f30 | exact fun _ => rfl | skip))
    · intro L us wx K a ha hp hd hun hI hK
      have HX := hI.x
      have u21 := hI.f21 (hp 21 (by kernel_rfl))
      have u28 := hI.f28 (hp 28 (by kernel_rfl))
      clear hp HX
      replace hd := Lib.hid hd
      simp only [putAll, Act.put, List.setIfInBounds_toArray, List.set_cons_succ, List.set_cons_zero, Nat.reduceAdd, u21, u28] at ha
      subst ha
      simp only [Act.put, List.setIfInBounds_toArray, List.set_cons_succ, List.set_cons_zero] at hK
      go_simp
      refine hK _ _ ?_
      first
      | (refine ⟨hI.x, hI.f0, hI.f1, hI.f2, hI.f3, hI.f4, hI.f5, hI.f6, hI.f7, hI.f8, hI.f9, hI.f10, hI.f11, hI.f12, hI.f13, hI.f14, hI.f15, hI.f16, hI.f17, hI.f18, hI.f19, hI.f20, hI.f21, hI.f22, hI.f23, hI.f24, hI.f25, hI.f26, hI.f27, hI.f28, ?_, hI.f30⟩ <;> (first | exact fun _ => rfl | skip))
      | (refine ⟨?_, ?_, ?_, ?_, ?_, ?_, ?_, ?_, ?_, ?_, ?_, ?_, ?_, ?_, ?_, ?_, ?_, ?_, ?_, ?_, ?_, ?_, ?_, ?_, ?_, ?_, ?_, ?_, ?_, ?_, ?_, ?_⟩ <;> (first | exact hI.x | exact hI.f0 | exact hI.f1 | exact hI.f2 | exact hI.f3 | exact hI.f4 | exact hI.f5 | exact hI.f6 | exact hI.f7 | exact hI.f8 | exact hI.f9 | exact hI.f10 | exact hI.f11 | exact hI.f12 | exact hI.f13 | exact hI.f14 | exact hI.f15 | exact hI.f16 | exact hI.f17 | exact hI.f18 | exact hI.f19 | exact hI.f20 | exact hI.f21 | exact hI.f22 | exact hI.f23 | exact hI.f24 | exact hI.f25 | exact hI.f26 | exact hI.f27 | exact hI.f28 | exact hI.f29 | exact hI.f30 | exact fun _ => rfl | skip))
    · intro L us wx K a ha hp hd hun hI hK
      have HX := hI.x
      have u29 := hI.f29 (hp 29 (by kernel_rfl))
      clear hp HX
      replace hd := Lib.hid hd
      simp only [putAll, Act.put, List.setIfInBounds_toArray, List.set_cons_succ, List.set_cons_zero, Nat.reduceAdd, u29] at ha
      subst ha
      simp only [Act.put, List.setIfInBounds_toArray, List.set_cons_succ, List.set_cons_zero] at hK
      go_simp
      refine hK _ _ ?_
      first
      | (refine ⟨hI.x, hI.f0, hI.f1, hI.f2, hI.f3, hI.f4, hI.f5, hI.f6, hI.f7, hI.f8, hI.f9, hI.f10, hI.f11, hI.f12, hI.f13, hI.f14, hI.f15, hI.f16, hI.f17, hI.f18, hI.f19, hI.f20, hI.f21, hI.f22, hI.f23, hI.f24, hI.f25, hI.f26, hI.f27, hI.f28, hI.f29, ?_⟩ <;> (first | exact fun _ => rfl | skip))
      | (refine ⟨?_, ?_, ?_, ?_, ?_, ?_, ?_, ?_, ?_, ?_, ?_, ?_, ?_, ?_, ?_, ?_, ?_, ?_, ?_, ?_, ?_, ?_, ?_, ?_, ?_, ?_, ?_, ?_, ?_, ?_, ?_, ?_⟩ <;> (first | exact hI.x | exact hI.f0 | exact hI.f1 | exact hI.f2 | exact hI.f3 | exact hI.f4 | exact hI.f5 | exact hI.f6 | exact hI.f7 | exact hI.f8 | exact hI.f9 | exact hI.f10 | exact hI.f11 | exact hI.f12 | exact hI.f13 | exact hI.f14 | exact hI.f15 | exact hI.f16 | exact hI.f17 | exact hI.f18 | exact hI.f19 | exact hI.f20 | exact hI.f21 | exact hI.f22 | exact hI.f23 | exact hI.f24 | exact hI.f25 | exact hI.f26 | exact hI.f27 | exact hI.f28 | exact hI.f29 | exact hI.f30 | exact fun _ => rfl | skip))
    intro L us wx hall hI
    have e30 := hI.f30 (hall 30 (by simp))
    have EX := hI.x
    simp only [putAll, Act.put, List.setIfInBounds_toArray, List.set_cons_succ, List.set_cons_zero, Nat.reduceAdd, e30]
    clear hall hI e30
    go_wp2_with fail
    go_ret
    exact ⟨rfl, HE.out.trans EX⟩
end Go.Proofs.YtenigkngmdofiaaGreat
namespace Go.Proofs.YtenigkngmdofiaaGreat
open Go.RowKit

open Classical in
theorem nodup_sub {α : Type} : ∀ {l m : List α}, l.Nodup → (∀ x ∈ l, x ∈ m) → l.length ≤ m.length
  | [], m, _, _ => Nat.zero_le _
  | x :: l, m, h, hs => by
    obtain ⟨h1, h2⟩ := List.nodup_cons.1 h
    have hx := hs x (List.mem_cons_self ..)
    have := nodup_sub (l := l) (m := m.erase x) h2 fun y hy => by
      have hne : y ≠ x := fun e => h1 (e ▸ hy)
      exact (List.mem_erase_of_ne hne).2 (hs y (List.mem_cons_of_mem _ hy))
    rw [List.length_erase_of_mem hx] at this
    have : 0 < m.length := List.length_pos_of_mem hx
    rw [List.length_cons]
    omega
open Classical in
theorem nodup_back {α : Type} {l m : List α} (h : l.Nodup) (hs : ∀ x ∈ l, x ∈ m) (hl : l.length = m.length) : ∀ x ∈ m, x ∈ l := by
  intro x hx
  refine Classical.byContradiction fun hn => ?_
  have := nodup_sub (l := l) (m := m.erase x) h fun y hy => by
    have hne : y ≠ x := fun e => hn (e ▸ hy)
    exact (List.mem_erase_of_ne hne).2 (hs y hy)
  rw [List.length_erase_of_mem hx] at this
  have : 0 < m.length := List.length_pos_of_mem hx
  omega
theorem knobs_nodup {k : Knd} (hv : k.valid = true) : k.knobs.Nodup := by
  unfold Knd.valid at hv
  simp only [Bool.and_eq_true] at hv
  unfold List.Nodup
  rw [List.pairwise_iff_getElem]
  intro i j hi hj hij e
  have h := knobs_asc hv.2.2 hij hj
  rw [knbAt_eq (List.getElem?_eq_getElem hi), knbAt_eq (List.getElem?_eq_getElem hj), e, knbLt_iff, ltP_irrefl] at h
  rcases h with h | h
  · cases h
  · omega
theorem placeK_nodup {k : Knd} (hv : k.valid = true) (hf : k.Fine) {n : Nat} (hn : n < 24) (p : Pt) : (placeK k.knobs n p).Nodup := by
  unfold placeK List.Nodup
  rw [List.pairwise_map]
  refine (knobs_nodup hv).imp_of_mem fun {x y} hx hy hne e => hne ?_
  have h1 := (hf.knob x hx).2
  have h2 := (hf.knob y hy).2
  obtain ⟨xa, xd, xs⟩ := x
  obtain ⟨ya, yd, ys⟩ := y
  unfold knobT at e
  simp only [Knb.mk.injEq] at e h1 h2
  obtain ⟨e1, e2, e3⟩ := e
  have e4 := turnS_inj _ (addP_inj e1)
  have e5 := dirT_inj xd.toNat (by omega) yd.toNat (by omega) n hn (by omega)
  simp only [Knb.mk.injEq]
  exact ⟨e4, by omega, e3⟩
theorem Look.symm {k : Knd} (hv : k.valid = true) (hf : k.Fine) {a b : Nat} (ha : a < 24) {p q : Pt} (h : Look k a p b q) : Look k b q a p :=
  ⟨h.c.symm, nodup_back (placeK_nodup hv hf ha p) h.k (by rw [placeK_len, placeK_len])⟩
theorem look_iff {k : Knd} (hf : k.Fine) {bt n : Nat} {p : Pt} : likeB k bt p n = true ↔ ∃ d, Look k n d bt p := ⟨fun h => ⟨_, likeB_look h⟩, fun ⟨_, h⟩ => look_likeB hf h⟩
/-- The first turn with which the kind looks as it does. -/
theorem first_turn {k : Knd} (hf : k.Fine) {bt : Nat} (_ : bt < 24) (p : Pt) : ∃ n, n ≤ bt ∧ likeB k bt p n = true ∧ ∀ m, m < n → likeB k bt p m = false := by
  have h0 := look_likeB hf (Look.refl k bt p)
  have key : ∀ N, likeB k bt p N = true → ∃ n, n ≤ N ∧ likeB k bt p n = true ∧ ∀ m, m < n → likeB k bt p m = false := by
    intro N
    induction N using Nat.strongRecOn with
    | _ N ih =>
      intro hN
      by_cases h : ∃ m, m < N ∧ likeB k bt p m = true
      · obtain ⟨m, hm, hl⟩ := h
        obtain ⟨n, h1, h2, h3⟩ := ih m hm hl
        exact ⟨n, by omega, h2, h3⟩
      · refine ⟨N, Nat.le_refl _, hN, fun m hm => ?_⟩
        cases hl : likeB k bt p m
        · rfl
        · exact absurd ⟨m, hm, hl⟩ h
  exact key bt h0
structure NormOk (k : Knd) (bt : Nat) (p : Pt) (q : Pt × Nat) : Prop where
  le : q.2 ≤ bt
  near : nearB q.1 (-1000) 1000 = true
  look : Look k q.2 q.1 bt p
theorem norm_ok {k : Knd} (hf : k.Fine) {bt : Nat} (hb : bt < 24) {p : Pt} (hp : nearB p (-1000) 1000 = true) : NormOk k bt p (normQ k bt p) := by
  obtain ⟨n, h1, h2, h3⟩ := first_turn hf hb p
  rw [normQ_hit (by omega) h3 h2]
  split
  · rename_i h
    exact ⟨h1, h, likeB_look h2⟩
  · exact ⟨Nat.le_refl _, hp, Look.refl k bt p⟩
/-- Bricks that look alike are like the same ones. -/
theorem like_same {k : Knd} (hv : k.valid = true) (hf : k.Fine) {a b : Nat} (ha : a < 24) {p q : Pt} (h : Look k a p b q) (n : Nat) : likeB k a p n = likeB k b q n ∧ (likeB k a p n = true → likeAt k a p n = likeAt k b q n) := by
  have hs := h.symm hv hf ha
  have e : likeB k a p n = likeB k b q n := by
    rw [Bool.eq_iff_iff, look_iff hf, look_iff hf]
    exact ⟨fun ⟨d, hd⟩ => ⟨d, hd.trans h⟩, fun ⟨d, hd⟩ => ⟨d, hd.trans hs⟩⟩
  refine ⟨e, fun hl => ?_⟩
  exact ((look_at hf ((likeB_look hl).trans h))).symm
theorem norm_again {k : Knd} (hv : k.valid = true) (hf : k.Fine) {bt : Nat} (hb : bt < 24) {p : Pt} : normQ k (normQ k bt p).2 (normQ k bt p).1 = normQ k bt p := by
  obtain ⟨n, h1, h2, h3⟩ := first_turn hf hb p
  have e := normQ_hit (by omega) h3 h2
  by_cases hn : nearB (likeAt k bt p n) (-1000) 1000 = true
  · rw [if_pos hn] at e
    rw [e]
    simp only
    have hl := likeB_look h2
    have hs := fun m => like_same hv hf (show n < 24 by omega) hl m
    have g := normQ_hit (k := k) (bt := n) (p := likeAt k bt p n) (n := n) (by omega) (fun m hm => by rw [(hs m).1, h3 m hm]) (look_likeB hf (Look.refl k n _))
    rw [look_at hf (Look.refl k n (likeAt k bt p n)), if_pos hn] at g
    exact g
  · rw [if_neg hn] at e
    rw [e]
    exact e
theorem norm_same {k : Knd} (hv : k.valid = true) (hf : k.Fine) {a b : Nat} (ha : a < 24) (hb : b < 24) {p q : Pt} (hp : Pt.in_ 900 p) (hq : Pt.in_ 900 q) : normQ k a p = normQ k b q ↔ Look k a p b q := by
  have near : ∀ {c : Nat} {r : Pt}, r.in_ 900 → ∀ n, nearB (likeAt k c r n) (-1000) 1000 = true := fun {c r} hr n => by
    have := likeAt_in hf c n hr
    unfold Pt.in_ at this
    rw [nearB_iff]
    omega
  constructor
  · intro h
    have near' : ∀ {r : Pt}, r.in_ 900 → nearB r (-1000) 1000 = true := fun {r} hr => by
      unfold Pt.in_ at hr
      rw [nearB_iff]
      omega
    have o1 := norm_ok hf ha (near' hp)
    have o2 := norm_ok hf hb (near' hq)
    rw [← h] at o2
    exact (o1.look.symm hv hf (by have := o1.le; omega)).trans o2.look
  · intro h
    have hs := fun m => like_same hv hf ha h m
    obtain ⟨n, h1, h2, h3⟩ := first_turn hf ha p
    rw [normQ_hit (by omega) h3 h2, if_pos (near hp n), normQ_hit (k := k) (bt := b) (p := q) (n := n) (by omega) (fun m hm => by rw [← (hs m).1, h3 m hm]) (by rw [← (hs n).1]; exact h2), if_pos (near hq n), (hs n).2 h2]
end Go.Proofs.YtenigkngmdofiaaGreat
namespace Go.Proofs.YtenigkngmdofiaaGreat
open Go.RowKit

theorem great_nl {qs : List (Knd × KAt)} {A : Option Addr} {cap : Nat} {B : Option Addr} {n cb : Nat} {r : Bool} (h : greatB (qs.map (·.1)) n = r) {w : World} (hk : Kinds w A cap qs) (hn : n ≤ maxLen) :
    Calls Tryz.prog 14 #[.slice A qs.length cap, .agg #[.slice B n cb]] w fun e w' => e = .returned (.bool r) ∧ Ext w w' := by
  subst h
  exact great_c _ _ _ _ _ _ _ hk hn
def qEq (a b : Pt × Nat) : Bool := a.1.eqB b.1 && decide (a.2 = b.2)
theorem qEq_iff {a b : Pt × Nat} : qEq a b = true ↔ a = b := by
  obtain ⟨a1, a2⟩ := a
  obtain ⟨b1, b2⟩ := b
  unfold qEq
  rw [Bool.and_eq_true, Pt.eqB_iff, decide_eq_true_eq, Prod.mk.injEq]
theorem brk_eql (i c : Int) (a b : Pt × Nat) (w : World) : (binOp .eql 63 (.agg #[.int .i64 i, .int .i64 a.1.x, .int .i64 a.1.y, .int .i64 a.1.z, .int .u8 a.2, .int .u8 c]) (.agg #[.int .i64 i, .int .i64 b.1.x, .int .i64 b.1.y, .int .i64 b.1.z, .int .u8 b.2, .int .u8 c])).run Tryz.prog w = .ok (.bool (qEq a b)) w := by
  obtain ⟨⟨a1, a2, a3⟩, a4⟩ := a
  obtain ⟨⟨b1, b2, b3⟩, b4⟩ := b
  unfold qEq Pt.eqB
  simp only
  by_cases h4 : a4 = b4
  · subst h4
    by_cases h1 : a1 = b1 <;> by_cases h2 : a2 = b2 <;> by_cases h3 : a3 = b3 <;> simp [go_sem, h1, h2, h3]
  · have h5 : ¬ ((a4 : Int) = b4) := by omega
    by_cases h1 : a1 = b1 <;> by_cases h2 : a2 = b2 <;> by_cases h3 : a3 = b3 <;> simp [go_sem, h1, h2, h3, h4, h5]
/-- The contract of Alike at a kind of the list. -/
theorem alike_c {qs : List (Knd × KAt)} {QA : Option Addr} {qc i : Nat} {k : Knd} {p : KAt} (hi : qs[i]? = some (k, p)) (hf : k.Fine) {w : World} (hk : Kinds w QA qc qs) (ta tb : Nat) (pa pb : Pt) (c : Int) (ha : ta < 24) (hb : tb < 24) (hpa : Pt.in_ 1000 pa) (hpb : Pt.in_ 1000 pb) :
    Calls Tryz.prog 32 #[.slice QA qs.length qc, .agg #[.int .i64 i, .int .i64 pa.x, .int .i64 pa.y, .int .i64 pa.z, .int .u8 ta, .int .u8 c], .agg #[.int .i64 i, .int .i64 pb.x, .int .i64 pb.y, .int .i64 pb.z, .int .u8 tb, .int .u8 c]] w fun e w' => e = .returned (.bool (lookB k ta pa tb pb)) ∧ Ext w w' := by
  obtain ⟨cells, knobs, wt⟩ := k
  obtain ⟨A, ca, B, cb⟩ := p
  have hcp : 0 < cells.length := hf.pos
  have hcl : cells.length ≤ 24 := hf.len
  have hkl : knobs.length ≤ 48 := hf.klen
  have hcok : ∀ q ∈ cells, q.ok := hf.cok
  have hkok : ∀ q ∈ knobs, q.fine := hf.kok
  exact alike_w QA qs.length qc i pa.x pa.y pa.z pb.x pb.y pb.z c ta tb cells.length knobs.length (sortP (placeP cells ta pa)) (sortP (placeP cells tb pb)) (placeK knobs ta pa) (placeK knobs tb pb) _ _ w (by rw [sortP_len, placeP_len]) (by rw [sortP_len, placeP_len]) (placeK_len ..) (placeK_len ..) rfl rfl
    (fun W EW => rPlaced_c qs QA qc i cells knobs wt A ca B cb hi ta pa.x pa.y pa.z c W (hk.ext EW) hcp (by omega) hcok ha (hpa.ok (by omega)))
    (fun W EW => rPlaced_c qs QA qc i cells knobs wt A ca B cb hi tb pb.x pb.y pb.z c W (hk.ext EW) hcp (by omega) hcok hb (hpb.ok (by omega)))
    (fun W EW => rKnobbed_c qs QA qc i cells knobs wt A ca B cb hi ta pa.x pa.y pa.z c W (hk.ext EW) (by omega) hkok ha (hpa.ok (by omega)))
    (fun W EW => rKnobbed_c qs QA qc i cells knobs wt A ca B cb hi tb pb.x pb.y pb.z c W (hk.ext EW) (by omega) hkok hb (hpb.ok (by omega)))
structure Nl10 (W0 : World) (X : Nat) (bi bx by_ bz ax ay az bt n2 bc : Int) (L : Nat → Bool) (us : Nat → Value) (w : World) : Prop where
  x : Ext W0 w
  g0 : L 3 = false → Blk w X 63 #[.int .i64 bi, .int .i64 bx, .int .i64 by_, .int .i64 bz, .int .u8 bt, .int .u8 bc]
  g1 : L 3 = true → L 5 = false → Blk w X 63 #[.int .i64 bi, .int .i64 bx, .int .i64 by_, .int .i64 bz, .int .u8 n2, .int .u8 bc]
  g2 : L 5 = true → Blk w X 63 #[.int .i64 bi, .int .i64 ax, .int .i64 ay, .int .i64 az, .int .u8 n2, .int .u8 bc]
  f0 : L 0 = true → us 0 = .int .u8 n2
  f1 : L 1 = true → us 1 = .agg #[.int .i64 ax, .int .i64 ay, .int .i64 az]
  f2 : L 2 = true → us 2 = .pointer (some ⟨X, 4, none⟩)
  f4 : L 4 = true → us 4 = .pointer (some ⟨X, 1, none⟩)
set_option maxRecDepth 100000 in
set_option maxHeartbeats 16000000 in
theorem normal_walk (qs : List (Knd × KAt)) (QA : Option Addr) (qc : Nat) (kd x y z t c n2 x3 y3 z3 : Int) (w : World) (hk : Kinds w QA qc qs) (hby : Brk.byte ⟨kd, ⟨x, y, z⟩, t, c⟩) (hu : 0 ≤ n2 ∧ n2 ≤ 255) :
    Calls Tryz.prog 6 #[.slice QA qs.length qc, .agg #[.int .i64 kd, .int .i64 x, .int .i64 y, .int .i64 z, .int .u8 t, .int .u8 c], .int .u8 n2, .agg #[.int .i64 x3, .int .i64 y3, .int .i64 z3]] w fun e w' => e = .returned (.bool true) ∧ Ext w w' := by
  obtain ⟨W1, hW1, E1, B1, hz1⟩ := mk_ w #[.int .i64 kd, .int .i64 x, .int .i64 y, .int .i64 z, .int .u8 t, .int .u8 c] 63
  obtain ⟨W2, hW2, E2, B2, hz2⟩ := mk_ W1 #[.int .i64 x3, .int .i64 y3, .int .i64 z3] 50
  have B12 := B1.ext E2
  have E12 := E1.trans E2
  obtain ⟨SB, hSB⟩ : ∃ S, w.heap.size = S := ⟨_, rfl⟩
  obtain ⟨SC, hSC⟩ : ∃ S, W1.heap.size = S := ⟨_, rfl⟩
  rw [hSB] at B12
  rw [hSC] at B2
  have HSB := Lib.hid hSB
  have HSC := Lib.hid hSC
  obtain ⟨gr, hg⟩ : ∃ r, greatB (qs.map (·.1)) 0 = r := ⟨_, rfl⟩
  have GR := Lib.hid (fun W (E : Ext w W) => great_nl (B := none) (cb := 0) hg (hk.ext E) (Nat.zero_le _))
  have HK := Lib.hid hk
  have RV := Lib.hid (fun (a b c d e f : Int) W => rValidBrick_c qs.length qc QA a b c d e f W hk.len)
  clear hz1 hz2 hSB hSC hg E1 E2 B1
  cases gr
  rotate_left
  · clear hk
    go_enter Tryz.func6, Tryz.ntmps6
    go_upto_region 1 with (fail)
    rw [HSB.out, HSC.out]
    clear hW1 hW2
    go_wp2_with fail
    refine (alive_c _).mono ?_
    rintro e W3 ⟨rfl, E3⟩
    go_wp2_with fail
    refine (GR.out W3 (E12.trans E3)).mono ?_
    rintro e W4 ⟨rfl, E4⟩
    have E := (E12.trans E3).trans E4
    have BB := B12.ext (E3.trans E4)
    have BC := B2.ext (E3.trans E4)
    clear E3 E4 E12 B12 B2 GR
    have b1 := BB.cell
    go_wp2_with fail
    go_ret
    exact ⟨rfl, E⟩
  by_cases he : askedErr (qs.map (·.1)) [⟨kd, ⟨x, y, z⟩, t, c⟩] = 0
  rotate_left
  · obtain ⟨er, her⟩ : ∃ er, askedErr (qs.map (·.1)) [⟨kd, ⟨x, y, z⟩, t, c⟩] = er := ⟨_, rfl⟩
    rw [her] at he
    have NB := Lib.hid (fun W (E : Ext w W) => Normal_bad qs QA qc W (hk.ext E) kd x y z t c er hby her he)
    have h1 : (er != 0) = true := by simpa using he
    clear hk her
    go_enter Tryz.func6, Tryz.ntmps6
    go_upto_region 1 with (fail)
    rw [HSB.out, HSC.out]
    clear hW1 hW2
    go_wp2_with fail
    refine (alive_c _).mono ?_
    rintro e W3 ⟨rfl, E3⟩
    go_wp2_with fail
    refine (GR.out W3 (E12.trans E3)).mono ?_
    rintro e W4 ⟨rfl, E4⟩
    have E := (E12.trans E3).trans E4
    have BB := B12.ext (E3.trans E4)
    have BC := B2.ext (E3.trans E4)
    clear E3 E4 E12 B12 B2 GR
    have b1 := BB.cell
    go_wp2_with fail
    refine (NB.out _ E).mono ?_
    rintro e W5 ⟨rfl, E5⟩
    have EZ := (Ext.refl W5).alloc (.cells #[.int .i64 0, .int .i64 0, .int .i64 0, .int .i64 0, .int .u8 0, .int .u8 0] 63)
    go_wp2_with fail
    go_ret
    exact ⟨by first | rfl | simp, (E.trans E5).trans EZ⟩
  obtain ⟨i, k, p, e1, hi, hf, hnear, ht⟩ := asked_kind hk he
  obtain ⟨hke, -⟩ := asked_zero he
  have hv : k.valid = true := kindsErr_valid hke (List.mem_map.2 ⟨_, List.mem_of_getElem? hi, rfl⟩)
  simp only at e1 hnear ht
  obtain ⟨tn, rfl⟩ : ∃ tn : Nat, t = tn := ⟨t.toNat, by have := hby.1.1; simp only at this; omega⟩
  subst e1
  have htn : tn < 24 := by omega
  have hin := near_in' hnear
  have NO := norm_ok hf htn hnear
  have NA := norm_again hv hf htn (p := ⟨x, y, z⟩)
  have NS := fun (m : Nat) (hm : m < 24) (h1 : Pt.in_ 900 ⟨x, y, z⟩) (h2 : Pt.in_ 900 ⟨x3, y3, z3⟩) => norm_same hv hf htn hm (p := ⟨x, y, z⟩) (q := ⟨x3, y3, z3⟩) h1 h2
  have K1 := Lib.hid (fun W (E : Ext w W) => Normal_ok qs QA qc W (hk.ext E) i k p hi hf x y z c tn hby he htn hin)
  obtain ⟨q, hq⟩ : ∃ q, normQ k tn ⟨x, y, z⟩ = q := ⟨_, rfl⟩
  rw [hq] at NO NA K1
  simp only [hq] at NS
  obtain ⟨⟨qx, qy, qz⟩, qn⟩ := q
  simp only at NA K1
  have hqn : qn < 24 := by have := NO.le; simp only at this; omega
  have hqin := near_in' NO.near
  have hok := (asked_zero he).2
  rw [Brk.ok_iff, List.length_map] at hok
  have hbyx : Brk.byte ⟨i, ⟨qx, qy, qz⟩, qn, c⟩ := ⟨⟨by simp only; omega, by simp only; omega⟩, hby.2⟩
  have hokx : Brk.ok qs.length ⟨i, ⟨qx, qy, qz⟩, qn, c⟩ = true := Brk.ok_iff.2 ⟨hok.1, hok.2.1, NO.near, by simp only; omega, hok.2.2.2.2⟩
  have hex : askedErr (qs.map (·.1)) [⟨i, ⟨qx, qy, qz⟩, qn, c⟩] = 0 := askedErr_good hke (fun j hj => by
    have : j = 0 := by simp only [List.length_cons, List.length_nil] at hj; omega
    subst this
    rw [List.length_map]
    exact hokx)
  have K2 := Lib.hid (fun W (E : Ext w W) => Normal_ok qs QA qc W (hk.ext E) i k p hi hf qx qy qz c qn hbyx hex hqn hqin)
  rw [NA] at K2
  simp only at K2
  have A1 := Lib.hid (fun W (E : Ext w W) => alike_c hi hf (hk.ext E) qn tn ⟨qx, qy, qz⟩ ⟨x, y, z⟩ c hqn htn hqin hin)
  rw [lookB_iff.2 NO.look] at A1
  have V1 := Lib.hid (RV.out i qx qy qz qn c)
  rw [hokx] at V1
  have hle : ¬ (qn : Int) > tn := by have := NO.le; simp only at this; omega
  have hle' : ¬ (tn : Int) < qn := by omega
  have hle2 : decide (tn < qn) = false := by simp; omega
  by_cases hc : Brk.ok qs.length ⟨i, ⟨x3, y3, z3⟩, n2, c⟩ = true
  rotate_left
  · have hb2 : Brk.byte ⟨i, ⟨x3, y3, z3⟩, n2, c⟩ := ⟨hu, hby.2⟩
    have he2 : askedErr (qs.map (·.1)) [⟨i, ⟨x3, y3, z3⟩, n2, c⟩] = 11 := askedErr_bad hke (j := 0) (by simp) (by rw [List.length_map, ← Bool.not_eq_true]; exact hc)
    have NB := Lib.hid (fun W (E : Ext w W) => Normal_bad qs QA qc W (hk.ext E) i x3 y3 z3 n2 c 11 hb2 he2 (by omega))
    clear hk hby hu he hi hf hnear ht hke hv htn hin NO NA NS hqn hqin hok hbyx hokx hex hc hb2 he2 HK RV K2
    go_enter Tryz.func6, Tryz.ntmps6
    go_upto_region 1 with (fail)
    rw [HSB.out, HSC.out]
    clear hW1 hW2
    go_wp2_with fail
    refine (alive_c _).mono ?_
    rintro e W3 ⟨rfl, E3⟩
    go_wp2_with fail
    refine (GR.out W3 (E12.trans E3)).mono ?_
    rintro e W4 ⟨rfl, E4⟩
    have E := (E12.trans E3).trans E4
    have BB := B12.ext (E3.trans E4)
    have BC := B2.ext (E3.trans E4)
    clear E3 E4 E12 B12 B2 GR
    have b1 := BB.cell
    go_wp2_with fail
    refine (K1.out _ E).mono ?_
    rintro e W5 ⟨rfl, E5⟩
    obtain ⟨W6, hW6, E6, BX, -⟩ := mk_ W5 #[.int .i64 i, .int .i64 qx, .int .i64 qy, .int .i64 qz, .int .u8 qn, .int .u8 c] 63
    replace E := (E.trans E5).trans E6
    replace BB := BB.ext (E5.trans E6)
    replace BC := BC.ext (E5.trans E6)
    clear b1 E5 E6
    have b1 := BB.cell
    have bx := BX.cell
    go_wp2_with fail
    refine (V1.out _).mono ?_
    rintro e W7 ⟨rfl, E7⟩
    replace E := E.trans E7
    replace BB := BB.ext E7
    replace BC := BC.ext E7
    replace BX := BX.ext E7
    clear b1 bx E7 hW6
    have b1 := BB.cell
    have bx := BX.cell
    go_wp2_with fail
    refine (A1.out _ E).mono ?_
    rintro e W8 ⟨rfl, E8⟩
    replace E := E.trans E8
    replace BB := BB.ext E8
    replace BC := BC.ext E8
    replace BX := BX.ext E8
    clear b1 bx E8
    have b1 := BB.cell
    obtain ⟨W9, hW9, E9, BY, -⟩ := mk_ W8 #[.int .i64 i, .int .i64 x, .int .i64 y, .int .i64 z, .int .u8 tn, .int .u8 c] 63
    go_upto_region 10 with (fail)
    obtain ⟨X, hX⟩ : ∃ X, W8.heap.size = X := ⟨_, rfl⟩
    have hXw : W8.heap.size ≤ X := by omega
    rw [hX] at BY ⊢
    have HBC := Lib.hid BC
    clear b1 hW9 hX
    refine wp_region_by (Nl10 W8 X i x y z x3 y3 z3 tn n2 c) (by kernel_rfl) (by kernel_rfl) (by kernel_rfl) (fun us => ⟨E9.drew, (fun _ => BY.drew), (nofun), (nofun), (nofun), (nofun), (nofun), (nofun)⟩) ⟨?_, ?_, ?_, ?_, ?_, ?_, trivial⟩ ?_
    all_goals clear BY E9
    · intro L us wx K a ha hp hd hun hI hK
      have HX := hI.x
      clear hp HX
      replace hd := Lib.hid hd
      simp only [putAll, Act.put, List.setIfInBounds_toArray, List.set_cons_succ, List.set_cons_zero, Nat.reduceAdd] at ha
      subst ha
      simp only [Act.put, List.setIfInBounds_toArray, List.set_cons_succ, List.set_cons_zero] at hK
      go_simp
      refine hK _ _ ?_
      first
      | (refine ⟨hI.x, hI.g0, hI.g1, hI.g2, ?_, hI.f1, hI.f2, hI.f4⟩ <;> (first | exact fun _ => rfl | skip))
      | (refine ⟨?_, ?_, ?_, ?_, ?_, ?_, ?_, ?_⟩ <;> (first | exact hI.x | exact hI.g0 | exact hI.g1 | exact hI.g2 | exact hI.f0 | exact hI.f1 | exact hI.f2 | exact hI.f4 | exact fun _ => rfl | skip))
    · intro L us wx K a ha hp hd hun hI hK
      have HX := hI.x
      have bb := (HBC.out.ext HX).cell
      clear hp HX
      replace hd := Lib.hid hd
      simp only [putAll, Act.put, List.setIfInBounds_toArray, List.set_cons_succ, List.set_cons_zero, Nat.reduceAdd] at ha
      subst ha
      simp only [Act.put, List.setIfInBounds_toArray, List.set_cons_succ, List.set_cons_zero] at hK
      go_simp
      refine hK _ _ ?_
      first
      | (refine ⟨hI.x, hI.g0, hI.g1, hI.g2, hI.f0, ?_, hI.f2, hI.f4⟩ <;> (first | exact fun _ => rfl | skip))
      | (refine ⟨?_, ?_, ?_, ?_, ?_, ?_, ?_, ?_⟩ <;> (first | exact hI.x | exact hI.g0 | exact hI.g1 | exact hI.g2 | exact hI.f0 | exact hI.f1 | exact hI.f2 | exact hI.f4 | exact fun _ => rfl | skip))
    · intro L us wx K a ha hp hd hun hI hK
      have HX := hI.x
      clear hp HX
      replace hd := Lib.hid hd
      simp only [putAll, Act.put, List.setIfInBounds_toArray, List.set_cons_succ, List.set_cons_zero, Nat.reduceAdd] at ha
      subst ha
      simp only [Act.put, List.setIfInBounds_toArray, List.set_cons_succ, List.set_cons_zero] at hK
      go_simp
      refine hK _ _ ?_
      first
      | (refine ⟨hI.x, hI.g0, hI.g1, hI.g2, hI.f0, hI.f1, ?_, hI.f4⟩ <;> (first | exact fun _ => rfl | skip))
      | (refine ⟨?_, ?_, ?_, ?_, ?_, ?_, ?_, ?_⟩ <;> (first | exact hI.x | exact hI.g0 | exact hI.g1 | exact hI.g2 | exact hI.f0 | exact hI.f1 | exact hI.f2 | exact hI.f4 | exact fun _ => rfl | skip))
    · intro L us wx K a ha hp hd hun hI hK
      have u0 := hI.f0 (hp 0 (by kernel_rfl))
      have u2 := hI.f2 (hp 2 (by kernel_rfl))
      have h5 : L 5 = false := Bool.eq_false_iff.2 fun hl => absurd (hd 5 3 hl (by kernel_rfl)) (by rw [hun]; decide)
      have hb := hI.g0 hun
      have cb := hb.cell
      have fb := hb.frozen
      obtain ⟨V, hV⟩ : ∃ V, wx.setCell ⟨X, 4, none⟩ (.int .u8 n2) = V := ⟨_, rfl⟩
      have BV := hb.set_ 4 (.int .u8 n2)
      rw [hV] at BV
      have EV := hI.x.setCell (p := ⟨X, 4, none⟩) hXw (.int .u8 n2)
      rw [hV] at EV
      replace hd := Lib.hid hd
      simp only [putAll, Act.put, List.setIfInBounds_toArray, List.set_cons_succ, List.set_cons_zero, Nat.reduceAdd, u0, u2] at ha
      subst ha
      simp only [Act.put] at hK
      go_simp
      exact hK undef _ ⟨EV, (fun h => nomatch (show true = false from h)), (fun _ _ => BV), (fun h => absurd (show L 5 = true from h) (by rw [h5]; decide)), hI.f0, hI.f1, hI.f2, hI.f4⟩
    · intro L us wx K a ha hp hd hun hI hK
      have HX := hI.x
      clear hp HX
      replace hd := Lib.hid hd
      simp only [putAll, Act.put, List.setIfInBounds_toArray, List.set_cons_succ, List.set_cons_zero, Nat.reduceAdd] at ha
      subst ha
      simp only [Act.put, List.setIfInBounds_toArray, List.set_cons_succ, List.set_cons_zero] at hK
      go_simp
      refine hK _ _ ?_
      first
      | (refine ⟨hI.x, hI.g0, hI.g1, hI.g2, hI.f0, hI.f1, hI.f2, ?_⟩ <;> (first | exact fun _ => rfl | skip))
      | (refine ⟨?_, ?_, ?_, ?_, ?_, ?_, ?_, ?_⟩ <;> (first | exact hI.x | exact hI.g0 | exact hI.g1 | exact hI.g2 | exact hI.f0 | exact hI.f1 | exact hI.f2 | exact hI.f4 | exact fun _ => rfl | skip))
    · intro L us wx K a ha hp hd hun hI hK
      have u1 := hI.f1 (hp 1 (by kernel_rfl))
      have u4 := hI.f4 (hp 4 (by kernel_rfl))
      have h3 := hp 3 (by kernel_rfl)
      have hb := hI.g1 h3 hun
      have cb := hb.cell
      have fb := hb.frozen
      obtain ⟨V, hV⟩ : ∃ V, ((wx.setCell ⟨X, 1, none⟩ (.int .i64 x3)).setCell ⟨X, 2, none⟩ (.int .i64 y3)).setCell ⟨X, 3, none⟩ (.int .i64 z3) = V := ⟨_, rfl⟩
      have BV := ((hb.set_ 1 (.int .i64 x3)).set_ 2 (.int .i64 y3)).set_ 3 (.int .i64 z3)
      rw [hV] at BV
      have EV := ((hI.x.setCell (p := ⟨X, 1, none⟩) hXw (.int .i64 x3)).setCell (p := ⟨X, 2, none⟩) hXw (.int .i64 y3)).setCell (p := ⟨X, 3, none⟩) hXw (.int .i64 z3)
      rw [hV] at EV
      replace hd := Lib.hid hd
      simp only [putAll, Act.put, List.setIfInBounds_toArray, List.set_cons_succ, List.set_cons_zero, Nat.reduceAdd, u1, u4] at ha
      subst ha
      simp only [Act.put] at hK
      go_simp
      exact hK undef _ ⟨EV, (fun h => absurd (show L 3 = false from h) (by rw [h3]; decide)), (fun _ h => nomatch (show true = false from h)), (fun _ => BV), hI.f0, hI.f1, hI.f2, hI.f4⟩
    intro L us wx hall hI
    have BY := hI.g2 (hall 5 (by simp))
    have EX := hI.x
    simp only [putAll, Act.put, List.setIfInBounds_toArray, List.set_cons_succ, List.set_cons_zero, Nat.reduceAdd]
    clear hall hI
    replace E := E.trans EX
    replace BB := BB.ext EX
    replace BC := BC.ext EX
    replace BX := BX.ext EX
    clear EX HBC hXw
    have by_ := BY.cell
    go_wp2_with fail
    refine (NB.out _ E).mono ?_
    rintro e WA ⟨rfl, EA⟩
    have EZ := (Ext.refl WA).alloc (.cells #[.int .i64 0, .int .i64 0, .int .i64 0, .int .i64 0, .int .u8 0, .int .u8 0] 63)
    go_wp2_with fail
    go_ret
    exact ⟨by first | rfl | simp, (E.trans EA).trans EZ⟩
  rw [Brk.ok_iff] at hc
  obtain ⟨-, -, hn3, hm, -⟩ := hc
  simp only at hn3 hm
  obtain ⟨m, rfl⟩ : ∃ m : Nat, n2 = m := ⟨n2.toNat, by omega⟩
  have hm24 : m < 24 := by omega
  have hin3 := near_in' hn3
  have hb2 : Brk.byte ⟨i, ⟨x3, y3, z3⟩, m, c⟩ := ⟨hu, hby.2⟩
  have he2 : askedErr (qs.map (·.1)) [⟨i, ⟨x3, y3, z3⟩, m, c⟩] = 0 := askedErr_good hke (fun j hj => by
    have : j = 0 := by simp only [List.length_cons, List.length_nil] at hj; omega
    subst this
    rw [List.length_map]
    exact Brk.ok_iff.2 ⟨hok.1, hok.2.1, hn3, hm, hok.2.2.2.2⟩)
  have K3 := Lib.hid (fun W (E : Ext w W) => Normal_ok qs QA qc W (hk.ext E) i k p hi hf x3 y3 z3 c m hb2 he2 hm24 hin3)
  have A2 := Lib.hid (fun W (E : Ext w W) => alike_c hi hf (hk.ext E) tn m ⟨x, y, z⟩ ⟨x3, y3, z3⟩ c htn hm24 hin hin3)
  have NS' := NS m hm24
  obtain ⟨q', hq'⟩ : ∃ q, normQ k m ⟨x3, y3, z3⟩ = q := ⟨_, rfl⟩
  rw [hq'] at K3 NS'
  have R1 := Lib.hid (fun w => rnear_c x y z (-900) 900 w)
  have R2 := Lib.hid (fun w => rnear_c x3 y3 z3 (-900) 900 w)
  obtain ⟨r1, hr1⟩ : ∃ r, nearB ⟨x, y, z⟩ (-900) 900 = r := ⟨_, rfl⟩
  obtain ⟨r2, hr2⟩ : ∃ r, nearB ⟨x3, y3, z3⟩ (-900) 900 = r := ⟨_, rfl⟩
  rw [hr1] at R1
  rw [hr2] at R2
  have NQ : r1 = true → r2 = true → qEq ((⟨qx, qy, qz⟩ : Pt), qn) q' = lookB k tn ⟨x, y, z⟩ m ⟨x3, y3, z3⟩ := fun h1 h2 => by
    rw [← hr1, nearB_iff] at h1
    rw [← hr2, nearB_iff] at h2
    rw [Bool.eq_iff_iff, qEq_iff, lookB_iff]
    exact NS' (by unfold Pt.in_; omega) (by unfold Pt.in_; omega)
  obtain ⟨⟨q1, q2, q3⟩, q4⟩ := q'
  simp only at K3
  have hbe := brk_eql i c (⟨qx, qy, qz⟩, qn) (⟨q1, q2, q3⟩, q4)
  simp only at hbe
  obtain ⟨re, hre⟩ : ∃ r, qEq ((⟨qx, qy, qz⟩ : Pt), qn) (⟨q1, q2, q3⟩, q4) = r := ⟨_, rfl⟩
  obtain ⟨rl, hrl⟩ : ∃ r, lookB k tn ⟨x, y, z⟩ m ⟨x3, y3, z3⟩ = r := ⟨_, rfl⟩
  simp only [hre] at hbe
  rw [hre, hrl] at NQ
  rw [hrl] at A2
  have hbs := brk_eql i c (⟨qx, qy, qz⟩, qn) (⟨qx, qy, qz⟩, qn)
  rw [qEq_iff.2 rfl] at hbs
  simp only at hbs
  clear hk hby hu he hi hf hnear ht hke hv htn hin NO NA NS NS' hqn hqin hok hbyx hokx hex hn3 hm hm24 hin3 hb2 he2 HK RV hq' hr1 hr2 hre hrl
  cases r1
  · clear NQ
    go_enter Tryz.func6, Tryz.ntmps6
    go_upto_region 1 with (fail)
    rw [HSB.out, HSC.out]
    clear hW1 hW2
    go_wp2_with fail
    refine (alive_c _).mono ?_
    rintro e W3 ⟨rfl, E3⟩
    go_wp2_with fail
    refine (GR.out W3 (E12.trans E3)).mono ?_
    rintro e W4 ⟨rfl, E4⟩
    have E := (E12.trans E3).trans E4
    have BB := B12.ext (E3.trans E4)
    have BC := B2.ext (E3.trans E4)
    clear E3 E4 E12 B12 B2 GR
    have b1 := BB.cell
    go_wp2_with fail
    refine (K1.out _ E).mono ?_
    rintro e W5 ⟨rfl, E5⟩
    obtain ⟨W6, hW6, E6, BX, -⟩ := mk_ W5 #[.int .i64 i, .int .i64 qx, .int .i64 qy, .int .i64 qz, .int .u8 qn, .int .u8 c] 63
    replace E := (E.trans E5).trans E6
    replace BB := BB.ext (E5.trans E6)
    replace BC := BC.ext (E5.trans E6)
    clear b1 E5 E6
    have b1 := BB.cell
    have bx := BX.cell
    go_wp2_with fail
    refine (V1.out _).mono ?_
    rintro e W7 ⟨rfl, E7⟩
    replace E := E.trans E7
    replace BB := BB.ext E7
    replace BC := BC.ext E7
    replace BX := BX.ext E7
    clear b1 bx E7 hW6
    have b1 := BB.cell
    have bx := BX.cell
    go_wp2_with fail
    refine (A1.out _ E).mono ?_
    rintro e W8 ⟨rfl, E8⟩
    replace E := E.trans E8
    replace BB := BB.ext E8
    replace BC := BC.ext E8
    replace BX := BX.ext E8
    clear b1 bx E8
    have b1 := BB.cell
    obtain ⟨W9, hW9, E9, BY, -⟩ := mk_ W8 #[.int .i64 i, .int .i64 x, .int .i64 y, .int .i64 z, .int .u8 tn, .int .u8 c] 63
    go_upto_region 10 with (fail)
    obtain ⟨X, hX⟩ : ∃ X, W8.heap.size = X := ⟨_, rfl⟩
    have hXw : W8.heap.size ≤ X := by omega
    rw [hX] at BY ⊢
    have HBC := Lib.hid BC
    clear b1 hW9 hX
    refine wp_region_by (Nl10 W8 X i x y z x3 y3 z3 tn (m : Int) c) (by kernel_rfl) (by kernel_rfl) (by kernel_rfl) (fun us => ⟨E9.drew, (fun _ => BY.drew), (nofun), (nofun), (nofun), (nofun), (nofun), (nofun)⟩) ⟨?_, ?_, ?_, ?_, ?_, ?_, trivial⟩ ?_
    all_goals clear BY E9
    · intro L us wx K a ha hp hd hun hI hK
      have HX := hI.x
      clear hp HX
      replace hd := Lib.hid hd
      simp only [putAll, Act.put, List.setIfInBounds_toArray, List.set_cons_succ, List.set_cons_zero, Nat.reduceAdd] at ha
      subst ha
      simp only [Act.put, List.setIfInBounds_toArray, List.set_cons_succ, List.set_cons_zero] at hK
      go_simp
      refine hK _ _ ?_
      first
      | (refine ⟨hI.x, hI.g0, hI.g1, hI.g2, ?_, hI.f1, hI.f2, hI.f4⟩ <;> (first | exact fun _ => rfl | skip))
      | (refine ⟨?_, ?_, ?_, ?_, ?_, ?_, ?_, ?_⟩ <;> (first | exact hI.x | exact hI.g0 | exact hI.g1 | exact hI.g2 | exact hI.f0 | exact hI.f1 | exact hI.f2 | exact hI.f4 | exact fun _ => rfl | skip))
    · intro L us wx K a ha hp hd hun hI hK
      have HX := hI.x
      have bb := (HBC.out.ext HX).cell
      clear hp HX
      replace hd := Lib.hid hd
      simp only [putAll, Act.put, List.setIfInBounds_toArray, List.set_cons_succ, List.set_cons_zero, Nat.reduceAdd] at ha
      subst ha
      simp only [Act.put, List.setIfInBounds_toArray, List.set_cons_succ, List.set_cons_zero] at hK
      go_simp
      refine hK _ _ ?_
      first
      | (refine ⟨hI.x, hI.g0, hI.g1, hI.g2, hI.f0, ?_, hI.f2, hI.f4⟩ <;> (first | exact fun _ => rfl | skip))
      | (refine ⟨?_, ?_, ?_, ?_, ?_, ?_, ?_, ?_⟩ <;> (first | exact hI.x | exact hI.g0 | exact hI.g1 | exact hI.g2 | exact hI.f0 | exact hI.f1 | exact hI.f2 | exact hI.f4 | exact fun _ => rfl | skip))
    · intro L us wx K a ha hp hd hun hI hK
      have HX := hI.x
      clear hp HX
      replace hd := Lib.hid hd
      simp only [putAll, Act.put, List.setIfInBounds_toArray, List.set_cons_succ, List.set_cons_zero, Nat.reduceAdd] at ha
      subst ha
      simp only [Act.put, List.setIfInBounds_toArray, List.set_cons_succ, List.set_cons_zero] at hK
      go_simp
      refine hK _ _ ?_
      first
      | (refine ⟨hI.x, hI.g0, hI.g1, hI.g2, hI.f0, hI.f1, ?_, hI.f4⟩ <;> (first | exact fun _ => rfl | skip))
      | (refine ⟨?_, ?_, ?_, ?_, ?_, ?_, ?_, ?_⟩ <;> (first | exact hI.x | exact hI.g0 | exact hI.g1 | exact hI.g2 | exact hI.f0 | exact hI.f1 | exact hI.f2 | exact hI.f4 | exact fun _ => rfl | skip))
    · intro L us wx K a ha hp hd hun hI hK
      have u0 := hI.f0 (hp 0 (by kernel_rfl))
      have u2 := hI.f2 (hp 2 (by kernel_rfl))
      have h5 : L 5 = false := Bool.eq_false_iff.2 fun hl => absurd (hd 5 3 hl (by kernel_rfl)) (by rw [hun]; decide)
      have hb := hI.g0 hun
      have cb := hb.cell
      have fb := hb.frozen
      obtain ⟨V, hV⟩ : ∃ V, wx.setCell ⟨X, 4, none⟩ (.int .u8 (m : Int)) = V := ⟨_, rfl⟩
      have BV := hb.set_ 4 (.int .u8 (m : Int))
      rw [hV] at BV
      have EV := hI.x.setCell (p := ⟨X, 4, none⟩) hXw (.int .u8 (m : Int))
      rw [hV] at EV
      replace hd := Lib.hid hd
      simp only [putAll, Act.put, List.setIfInBounds_toArray, List.set_cons_succ, List.set_cons_zero, Nat.reduceAdd, u0, u2] at ha
      subst ha
      simp only [Act.put] at hK
      go_simp
      exact hK undef _ ⟨EV, (fun h => nomatch (show true = false from h)), (fun _ _ => BV), (fun h => absurd (show L 5 = true from h) (by rw [h5]; decide)), hI.f0, hI.f1, hI.f2, hI.f4⟩
    · intro L us wx K a ha hp hd hun hI hK
      have HX := hI.x
      clear hp HX
      replace hd := Lib.hid hd
      simp only [putAll, Act.put, List.setIfInBounds_toArray, List.set_cons_succ, List.set_cons_zero, Nat.reduceAdd] at ha
      subst ha
      simp only [Act.put, List.setIfInBounds_toArray, List.set_cons_succ, List.set_cons_zero] at hK
      go_simp
      refine hK _ _ ?_
      first
      | (refine ⟨hI.x, hI.g0, hI.g1, hI.g2, hI.f0, hI.f1, hI.f2, ?_⟩ <;> (first | exact fun _ => rfl | skip))
      | (refine ⟨?_, ?_, ?_, ?_, ?_, ?_, ?_, ?_⟩ <;> (first | exact hI.x | exact hI.g0 | exact hI.g1 | exact hI.g2 | exact hI.f0 | exact hI.f1 | exact hI.f2 | exact hI.f4 | exact fun _ => rfl | skip))
    · intro L us wx K a ha hp hd hun hI hK
      have u1 := hI.f1 (hp 1 (by kernel_rfl))
      have u4 := hI.f4 (hp 4 (by kernel_rfl))
      have h3 := hp 3 (by kernel_rfl)
      have hb := hI.g1 h3 hun
      have cb := hb.cell
      have fb := hb.frozen
      obtain ⟨V, hV⟩ : ∃ V, ((wx.setCell ⟨X, 1, none⟩ (.int .i64 x3)).setCell ⟨X, 2, none⟩ (.int .i64 y3)).setCell ⟨X, 3, none⟩ (.int .i64 z3) = V := ⟨_, rfl⟩
      have BV := ((hb.set_ 1 (.int .i64 x3)).set_ 2 (.int .i64 y3)).set_ 3 (.int .i64 z3)
      rw [hV] at BV
      have EV := ((hI.x.setCell (p := ⟨X, 1, none⟩) hXw (.int .i64 x3)).setCell (p := ⟨X, 2, none⟩) hXw (.int .i64 y3)).setCell (p := ⟨X, 3, none⟩) hXw (.int .i64 z3)
      rw [hV] at EV
      replace hd := Lib.hid hd
      simp only [putAll, Act.put, List.setIfInBounds_toArray, List.set_cons_succ, List.set_cons_zero, Nat.reduceAdd, u1, u4] at ha
      subst ha
      simp only [Act.put] at hK
      go_simp
      exact hK undef _ ⟨EV, (fun h => absurd (show L 3 = false from h) (by rw [h3]; decide)), (fun _ h => nomatch (show true = false from h)), (fun _ => BV), hI.f0, hI.f1, hI.f2, hI.f4⟩
    intro L us wx hall hI
    have BY := hI.g2 (hall 5 (by simp))
    have EX := hI.x
    simp only [putAll, Act.put, List.setIfInBounds_toArray, List.set_cons_succ, List.set_cons_zero, Nat.reduceAdd]
    clear hall hI
    replace E := E.trans EX
    replace BB := BB.ext EX
    replace BC := BC.ext EX
    replace BX := BX.ext EX
    clear EX HBC hXw
    have by_ := BY.cell
    go_wp2_with fail
    refine (K3.out _ E).mono ?_
    rintro e WA ⟨rfl, EA⟩
    obtain ⟨WB, hWB, EB, BZ, -⟩ := mk_ WA #[.int .i64 i, .int .i64 q1, .int .i64 q2, .int .i64 q3, .int .u8 q4, .int .u8 c] 63
    replace E := E.trans (EA.trans EB)
    replace BB := BB.ext (EA.trans EB)
    replace BC := BC.ext (EA.trans EB)
    replace BX := BX.ext (EA.trans EB)
    replace BY := BY.ext (EA.trans EB)
    clear by_ EA EB
    have b1 := BB.cell
    have b2 := BC.cell
    go_wp2_with fail
    refine (R1.out _).mono ?_
    rintro e WC ⟨rfl, EC⟩
    replace E := E.trans EC
    replace BB := BB.ext EC
    replace BC := BC.ext EC
    replace BX := BX.ext EC
    replace BY := BY.ext EC
    replace BZ := BZ.ext EC
    clear b1 b2 EC hWB
    have b2 := BC.cell
    go_wp2_with fail
    go_ret
    exact ⟨rfl, E⟩
  cases r2
  · clear NQ
    go_enter Tryz.func6, Tryz.ntmps6
    go_upto_region 1 with (fail)
    rw [HSB.out, HSC.out]
    clear hW1 hW2
    go_wp2_with fail
    refine (alive_c _).mono ?_
    rintro e W3 ⟨rfl, E3⟩
    go_wp2_with fail
    refine (GR.out W3 (E12.trans E3)).mono ?_
    rintro e W4 ⟨rfl, E4⟩
    have E := (E12.trans E3).trans E4
    have BB := B12.ext (E3.trans E4)
    have BC := B2.ext (E3.trans E4)
    clear E3 E4 E12 B12 B2 GR
    have b1 := BB.cell
    go_wp2_with fail
    refine (K1.out _ E).mono ?_
    rintro e W5 ⟨rfl, E5⟩
    obtain ⟨W6, hW6, E6, BX, -⟩ := mk_ W5 #[.int .i64 i, .int .i64 qx, .int .i64 qy, .int .i64 qz, .int .u8 qn, .int .u8 c] 63
    replace E := (E.trans E5).trans E6
    replace BB := BB.ext (E5.trans E6)
    replace BC := BC.ext (E5.trans E6)
    clear b1 E5 E6
    have b1 := BB.cell
    have bx := BX.cell
    go_wp2_with fail
    refine (V1.out _).mono ?_
    rintro e W7 ⟨rfl, E7⟩
    replace E := E.trans E7
    replace BB := BB.ext E7
    replace BC := BC.ext E7
    replace BX := BX.ext E7
    clear b1 bx E7 hW6
    have b1 := BB.cell
    have bx := BX.cell
    go_wp2_with fail
    refine (A1.out _ E).mono ?_
    rintro e W8 ⟨rfl, E8⟩
    replace E := E.trans E8
    replace BB := BB.ext E8
    replace BC := BC.ext E8
    replace BX := BX.ext E8
    clear b1 bx E8
    have b1 := BB.cell
    obtain ⟨W9, hW9, E9, BY, -⟩ := mk_ W8 #[.int .i64 i, .int .i64 x, .int .i64 y, .int .i64 z, .int .u8 tn, .int .u8 c] 63
    go_upto_region 10 with (fail)
    obtain ⟨X, hX⟩ : ∃ X, W8.heap.size = X := ⟨_, rfl⟩
    have hXw : W8.heap.size ≤ X := by omega
    rw [hX] at BY ⊢
    have HBC := Lib.hid BC
    clear b1 hW9 hX
    refine wp_region_by (Nl10 W8 X i x y z x3 y3 z3 tn (m : Int) c) (by kernel_rfl) (by kernel_rfl) (by kernel_rfl) (fun us => ⟨E9.drew, (fun _ => BY.drew), (nofun), (nofun), (nofun), (nofun), (nofun), (nofun)⟩) ⟨?_, ?_, ?_, ?_, ?_, ?_, trivial⟩ ?_
    all_goals clear BY E9
    · intro L us wx K a ha hp hd hun hI hK
      have HX := hI.x
      clear hp HX
      replace hd := Lib.hid hd
      simp only [putAll, Act.put, List.setIfInBounds_toArray, List.set_cons_succ, List.set_cons_zero, Nat.reduceAdd] at ha
      subst ha
      simp only [Act.put, List.setIfInBounds_toArray, List.set_cons_succ, List.set_cons_zero] at hK
      go_simp
      refine hK _ _ ?_
      first
      | (refine ⟨hI.x, hI.g0, hI.g1, hI.g2, ?_, hI.f1, hI.f2, hI.f4⟩ <;> (first | exact fun _ => rfl | skip))
      | (refine ⟨?_, ?_, ?_, ?_, ?_, ?_, ?_, ?_⟩ <;> (first | exact hI.x | exact hI.g0 | exact hI.g1 | exact hI.g2 | exact hI.f0 | exact hI.f1 | exact hI.f2 | exact hI.f4 | exact fun _ => rfl | skip))
    · intro L us wx K a ha hp hd hun hI hK
      have HX := hI.x
      have bb := (HBC.out.ext HX).cell
      clear hp HX
      replace hd := Lib.hid hd
      simp only [putAll, Act.put, List.setIfInBounds_toArray, List.set_cons_succ, List.set_cons_zero, Nat.reduceAdd] at ha
      subst ha
      simp only [Act.put, List.setIfInBounds_toArray, List.set_cons_succ, List.set_cons_zero] at hK
      go_simp
      refine hK _ _ ?_
      first
      | (refine ⟨hI.x, hI.g0, hI.g1, hI.g2, hI.f0, ?_, hI.f2, hI.f4⟩ <;> (first | exact fun _ => rfl | skip))
      | (refine ⟨?_, ?_, ?_, ?_, ?_, ?_, ?_, ?_⟩ <;> (first | exact hI.x | exact hI.g0 | exact hI.g1 | exact hI.g2 | exact hI.f0 | exact hI.f1 | exact hI.f2 | exact hI.f4 | exact fun _ => rfl | skip))
    · intro L us wx K a ha hp hd hun hI hK
      have HX := hI.x
      clear hp HX
      replace hd := Lib.hid hd
      simp only [putAll, Act.put, List.setIfInBounds_toArray, List.set_cons_succ, List.set_cons_zero, Nat.reduceAdd] at ha
      subst ha
      simp only [Act.put, List.setIfInBounds_toArray, List.set_cons_succ, List.set_cons_zero] at hK
      go_simp
      refine hK _ _ ?_
      first
      | (refine ⟨hI.x, hI.g0, hI.g1, hI.g2, hI.f0, hI.f1, ?_, hI.f4⟩ <;> (first | exact fun _ => rfl | skip))
      | (refine ⟨?_, ?_, ?_, ?_, ?_, ?_, ?_, ?_⟩ <;> (first | exact hI.x | exact hI.g0 | exact hI.g1 | exact hI.g2 | exact hI.f0 | exact hI.f1 | exact hI.f2 | exact hI.f4 | exact fun _ => rfl | skip))
    · intro L us wx K a ha hp hd hun hI hK
      have u0 := hI.f0 (hp 0 (by kernel_rfl))
      have u2 := hI.f2 (hp 2 (by kernel_rfl))
      have h5 : L 5 = false := Bool.eq_false_iff.2 fun hl => absurd (hd 5 3 hl (by kernel_rfl)) (by rw [hun]; decide)
      have hb := hI.g0 hun
      have cb := hb.cell
      have fb := hb.frozen
      obtain ⟨V, hV⟩ : ∃ V, wx.setCell ⟨X, 4, none⟩ (.int .u8 (m : Int)) = V := ⟨_, rfl⟩
      have BV := hb.set_ 4 (.int .u8 (m : Int))
      rw [hV] at BV
      have EV := hI.x.setCell (p := ⟨X, 4, none⟩) hXw (.int .u8 (m : Int))
      rw [hV] at EV
      replace hd := Lib.hid hd
      simp only [putAll, Act.put, List.setIfInBounds_toArray, List.set_cons_succ, List.set_cons_zero, Nat.reduceAdd, u0, u2] at ha
      subst ha
      simp only [Act.put] at hK
      go_simp
      exact hK undef _ ⟨EV, (fun h => nomatch (show true = false from h)), (fun _ _ => BV), (fun h => absurd (show L 5 = true from h) (by rw [h5]; decide)), hI.f0, hI.f1, hI.f2, hI.f4⟩
    · intro L us wx K a ha hp hd hun hI hK
      have HX := hI.x
      clear hp HX
      replace hd := Lib.hid hd
      simp only [putAll, Act.put, List.setIfInBounds_toArray, List.set_cons_succ, List.set_cons_zero, Nat.reduceAdd] at ha
      subst ha
      simp only [Act.put, List.setIfInBounds_toArray, List.set_cons_succ, List.set_cons_zero] at hK
      go_simp
      refine hK _ _ ?_
      first
      | (refine ⟨hI.x, hI.g0, hI.g1, hI.g2, hI.f0, hI.f1, hI.f2, ?_⟩ <;> (first | exact fun _ => rfl | skip))
      | (refine ⟨?_, ?_, ?_, ?_, ?_, ?_, ?_, ?_⟩ <;> (first | exact hI.x | exact hI.g0 | exact hI.g1 | exact hI.g2 | exact hI.f0 | exact hI.f1 | exact hI.f2 | exact hI.f4 | exact fun _ => rfl | skip))
    · intro L us wx K a ha hp hd hun hI hK
      have u1 := hI.f1 (hp 1 (by kernel_rfl))
      have u4 := hI.f4 (hp 4 (by kernel_rfl))
      have h3 := hp 3 (by kernel_rfl)
      have hb := hI.g1 h3 hun
      have cb := hb.cell
      have fb := hb.frozen
      obtain ⟨V, hV⟩ : ∃ V, ((wx.setCell ⟨X, 1, none⟩ (.int .i64 x3)).setCell ⟨X, 2, none⟩ (.int .i64 y3)).setCell ⟨X, 3, none⟩ (.int .i64 z3) = V := ⟨_, rfl⟩
      have BV := ((hb.set_ 1 (.int .i64 x3)).set_ 2 (.int .i64 y3)).set_ 3 (.int .i64 z3)
      rw [hV] at BV
      have EV := ((hI.x.setCell (p := ⟨X, 1, none⟩) hXw (.int .i64 x3)).setCell (p := ⟨X, 2, none⟩) hXw (.int .i64 y3)).setCell (p := ⟨X, 3, none⟩) hXw (.int .i64 z3)
      rw [hV] at EV
      replace hd := Lib.hid hd
      simp only [putAll, Act.put, List.setIfInBounds_toArray, List.set_cons_succ, List.set_cons_zero, Nat.reduceAdd, u1, u4] at ha
      subst ha
      simp only [Act.put] at hK
      go_simp
      exact hK undef _ ⟨EV, (fun h => absurd (show L 3 = false from h) (by rw [h3]; decide)), (fun _ h => nomatch (show true = false from h)), (fun _ => BV), hI.f0, hI.f1, hI.f2, hI.f4⟩
    intro L us wx hall hI
    have BY := hI.g2 (hall 5 (by simp))
    have EX := hI.x
    simp only [putAll, Act.put, List.setIfInBounds_toArray, List.set_cons_succ, List.set_cons_zero, Nat.reduceAdd]
    clear hall hI
    replace E := E.trans EX
    replace BB := BB.ext EX
    replace BC := BC.ext EX
    replace BX := BX.ext EX
    clear EX HBC hXw
    have by_ := BY.cell
    go_wp2_with fail
    refine (K3.out _ E).mono ?_
    rintro e WA ⟨rfl, EA⟩
    obtain ⟨WB, hWB, EB, BZ, -⟩ := mk_ WA #[.int .i64 i, .int .i64 q1, .int .i64 q2, .int .i64 q3, .int .u8 q4, .int .u8 c] 63
    replace E := E.trans (EA.trans EB)
    replace BB := BB.ext (EA.trans EB)
    replace BC := BC.ext (EA.trans EB)
    replace BX := BX.ext (EA.trans EB)
    replace BY := BY.ext (EA.trans EB)
    clear by_ EA EB
    have b1 := BB.cell
    have b2 := BC.cell
    go_wp2_with fail
    refine (R1.out _).mono ?_
    rintro e WC ⟨rfl, EC⟩
    replace E := E.trans EC
    replace BB := BB.ext EC
    replace BC := BC.ext EC
    replace BX := BX.ext EC
    replace BY := BY.ext EC
    replace BZ := BZ.ext EC
    clear b1 b2 EC hWB
    have b2 := BC.cell
    go_wp2_with fail
    refine (R2.out _).mono ?_
    rintro e WD ⟨rfl, ED⟩
    replace E := E.trans ED
    replace BB := BB.ext ED
    replace BC := BC.ext ED
    replace BX := BX.ext ED
    replace BY := BY.ext ED
    replace BZ := BZ.ext ED
    clear b2 ED
    go_wp2_with fail
    go_ret
    exact ⟨rfl, E⟩
  obtain rfl := NQ rfl rfl
  go_enter Tryz.func6, Tryz.ntmps6
  go_upto_region 1 with (fail)
  rw [HSB.out, HSC.out]
  clear hW1 hW2
  go_wp2_with fail
  refine (alive_c _).mono ?_
  rintro e W3 ⟨rfl, E3⟩
  go_wp2_with fail
  refine (GR.out W3 (E12.trans E3)).mono ?_
  rintro e W4 ⟨rfl, E4⟩
  have E := (E12.trans E3).trans E4
  have BB := B12.ext (E3.trans E4)
  have BC := B2.ext (E3.trans E4)
  clear E3 E4 E12 B12 B2 GR
  have b1 := BB.cell
  go_wp2_with fail
  refine (K1.out _ E).mono ?_
  rintro e W5 ⟨rfl, E5⟩
  obtain ⟨W6, hW6, E6, BX, -⟩ := mk_ W5 #[.int .i64 i, .int .i64 qx, .int .i64 qy, .int .i64 qz, .int .u8 qn, .int .u8 c] 63
  replace E := (E.trans E5).trans E6
  replace BB := BB.ext (E5.trans E6)
  replace BC := BC.ext (E5.trans E6)
  clear b1 E5 E6
  have b1 := BB.cell
  have bx := BX.cell
  go_wp2_with fail
  refine (V1.out _).mono ?_
  rintro e W7 ⟨rfl, E7⟩
  replace E := E.trans E7
  replace BB := BB.ext E7
  replace BC := BC.ext E7
  replace BX := BX.ext E7
  clear b1 bx E7 hW6
  have b1 := BB.cell
  have bx := BX.cell
  go_wp2_with fail
  refine (A1.out _ E).mono ?_
  rintro e W8 ⟨rfl, E8⟩
  replace E := E.trans E8
  replace BB := BB.ext E8
  replace BC := BC.ext E8
  replace BX := BX.ext E8
  clear b1 bx E8
  have b1 := BB.cell
  obtain ⟨W9, hW9, E9, BY, -⟩ := mk_ W8 #[.int .i64 i, .int .i64 x, .int .i64 y, .int .i64 z, .int .u8 tn, .int .u8 c] 63
  go_upto_region 10 with (fail)
  obtain ⟨X, hX⟩ : ∃ X, W8.heap.size = X := ⟨_, rfl⟩
  have hXw : W8.heap.size ≤ X := by omega
  rw [hX] at BY ⊢
  have HBC := Lib.hid BC
  clear b1 hW9 hX
  refine wp_region_by (Nl10 W8 X i x y z x3 y3 z3 tn (m : Int) c) (by kernel_rfl) (by kernel_rfl) (by kernel_rfl) (fun us => ⟨E9.drew, (fun _ => BY.drew), (nofun), (nofun), (nofun), (nofun), (nofun), (nofun)⟩) ⟨?_, ?_, ?_, ?_, ?_, ?_, trivial⟩ ?_
  all_goals clear BY E9
  · intro L us wx K a ha hp hd hun hI hK
    have HX := hI.x
    clear hp HX
    replace hd := Lib.hid hd
    simp only [putAll, Act.put, List.setIfInBounds_toArray, List.set_cons_succ, List.set_cons_zero, Nat.reduceAdd] at ha
    subst ha
    simp only [Act.put, List.setIfInBounds_toArray, List.set_cons_succ, List.set_cons_zero] at hK
    go_simp
    refine hK _ _ ?_
    first
    | (refine ⟨hI.x, hI.g0, hI.g1, hI.g2, ?_, hI.f1, hI.f2, hI.f4⟩ <;> (first | exact fun _ => rfl | skip))
    | (refine ⟨?_, ?_, ?_, ?_, ?_, ?_, ?_, ?_⟩ <;> (first | exact hI.x | exact hI.g0 | exact hI.g1 | exact hI.g2 | exact hI.f0 | exact hI.f1 | exact hI.f2 | exact hI.f4 | exact fun _ => rfl | skip))
  · intro L us wx K a ha hp hd hun hI hK
    have HX := hI.x
    have bb := (HBC.out.ext HX).cell
    clear hp HX
    replace hd := Lib.hid hd
    simp only [putAll, Act.put, List.setIfInBounds_toArray, List.set_cons_succ, List.set_cons_zero, Nat.reduceAdd] at ha
    subst ha
    simp only [Act.put, List.setIfInBounds_toArray, List.set_cons_succ, List.set_cons_zero] at hK
    go_simp
    refine hK _ _ ?_
    first
    | (refine ⟨hI.x, hI.g0, hI.g1, hI.g2, hI.f0, ?_, hI.f2, hI.f4⟩ <;> (first | exact fun _ => rfl | skip))
    | (refine ⟨?_, ?_, ?_, ?_, ?_, ?_, ?_, ?_⟩ <;> (first | exact hI.x | exact hI.g0 | exact hI.g1 | exact hI.g2 | exact hI.f0 | exact hI.f1 | exact hI.f2 | exact hI.f4 | exact fun _ => rfl | skip))
  · intro L us wx K a ha hp hd hun hI hK
    have HX := hI.x
    clear hp HX
    replace hd := Lib.hid hd
    simp only [putAll, Act.put, List.setIfInBounds_toArray, List.set_cons_succ, List.set_cons_zero, Nat.reduceAdd] at ha
    subst ha
    simp only [Act.put, List.setIfInBounds_toArray, List.set_cons_succ, List.set_cons_zero] at hK
    go_simp
    refine hK _ _ ?_
    first
    | (refine ⟨hI.x, hI.g0, hI.g1, hI.g2, hI.f0, hI.f1, ?_, hI.f4⟩ <;> (first | exact fun _ => rfl | skip))
    | (refine ⟨?_, ?_, ?_, ?_, ?_, ?_, ?_, ?_⟩ <;> (first | exact hI.x | exact hI.g0 | exact hI.g1 | exact hI.g2 | exact hI.f0 | exact hI.f1 | exact hI.f2 | exact hI.f4 | exact fun _ => rfl | skip))
  · intro L us wx K a ha hp hd hun hI hK
    have u0 := hI.f0 (hp 0 (by kernel_rfl))
    have u2 := hI.f2 (hp 2 (by kernel_rfl))
    have h5 : L 5 = false := Bool.eq_false_iff.2 fun hl => absurd (hd 5 3 hl (by kernel_rfl)) (by rw [hun]; decide)
    have hb := hI.g0 hun
    have cb := hb.cell
    have fb := hb.frozen
    obtain ⟨V, hV⟩ : ∃ V, wx.setCell ⟨X, 4, none⟩ (.int .u8 (m : Int)) = V := ⟨_, rfl⟩
    have BV := hb.set_ 4 (.int .u8 (m : Int))
    rw [hV] at BV
    have EV := hI.x.setCell (p := ⟨X, 4, none⟩) hXw (.int .u8 (m : Int))
    rw [hV] at EV
    replace hd := Lib.hid hd
    simp only [putAll, Act.put, List.setIfInBounds_toArray, List.set_cons_succ, List.set_cons_zero, Nat.reduceAdd, u0, u2] at ha
    subst ha
    simp only [Act.put] at hK
    go_simp
    exact hK undef _ ⟨EV, (fun h => nomatch (show true = false from h)), (fun _ _ => BV), (fun h => absurd (show L 5 = true from h) (by rw [h5]; decide)), hI.f0, hI.f1, hI.f2, hI.f4⟩
  · intro L us wx K a ha hp hd hun hI hK
    have HX := hI.x
    clear hp HX
    replace hd := Lib.hid hd
    simp only [putAll, Act.put, List.setIfInBounds_toArray, List.set_cons_succ, List.set_cons_zero, Nat.reduceAdd] at ha
    subst ha
    simp only [Act.put, List.setIfInBounds_toArray, List.set_cons_succ, List.set_cons_zero] at hK
    go_simp
    refine hK _ _ ?_
    first
    | (refine ⟨hI.x, hI.g0, hI.g1, hI.g2, hI.f0, hI.f1, hI.f2, ?_⟩ <;> (first | exact fun _ => rfl | skip))
    | (refine ⟨?_, ?_, ?_, ?_, ?_, ?_, ?_, ?_⟩ <;> (first | exact hI.x | exact hI.g0 | exact hI.g1 | exact hI.g2 | exact hI.f0 | exact hI.f1 | exact hI.f2 | exact hI.f4 | exact fun _ => rfl | skip))
  · intro L us wx K a ha hp hd hun hI hK
    have u1 := hI.f1 (hp 1 (by kernel_rfl))
    have u4 := hI.f4 (hp 4 (by kernel_rfl))
    have h3 := hp 3 (by kernel_rfl)
    have hb := hI.g1 h3 hun
    have cb := hb.cell
    have fb := hb.frozen
    obtain ⟨V, hV⟩ : ∃ V, ((wx.setCell ⟨X, 1, none⟩ (.int .i64 x3)).setCell ⟨X, 2, none⟩ (.int .i64 y3)).setCell ⟨X, 3, none⟩ (.int .i64 z3) = V := ⟨_, rfl⟩
    have BV := ((hb.set_ 1 (.int .i64 x3)).set_ 2 (.int .i64 y3)).set_ 3 (.int .i64 z3)
    rw [hV] at BV
    have EV := ((hI.x.setCell (p := ⟨X, 1, none⟩) hXw (.int .i64 x3)).setCell (p := ⟨X, 2, none⟩) hXw (.int .i64 y3)).setCell (p := ⟨X, 3, none⟩) hXw (.int .i64 z3)
    rw [hV] at EV
    replace hd := Lib.hid hd
    simp only [putAll, Act.put, List.setIfInBounds_toArray, List.set_cons_succ, List.set_cons_zero, Nat.reduceAdd, u1, u4] at ha
    subst ha
    simp only [Act.put] at hK
    go_simp
    exact hK undef _ ⟨EV, (fun h => absurd (show L 3 = false from h) (by rw [h3]; decide)), (fun _ h => nomatch (show true = false from h)), (fun _ => BV), hI.f0, hI.f1, hI.f2, hI.f4⟩
  intro L us wx hall hI
  have BY := hI.g2 (hall 5 (by simp))
  have EX := hI.x
  simp only [putAll, Act.put, List.setIfInBounds_toArray, List.set_cons_succ, List.set_cons_zero, Nat.reduceAdd]
  clear hall hI
  replace E := E.trans EX
  replace BB := BB.ext EX
  replace BC := BC.ext EX
  replace BX := BX.ext EX
  clear EX HBC hXw
  have by_ := BY.cell
  go_wp2_with fail
  refine (K3.out _ E).mono ?_
  rintro e WA ⟨rfl, EA⟩
  obtain ⟨WB, hWB, EB, BZ, -⟩ := mk_ WA #[.int .i64 i, .int .i64 q1, .int .i64 q2, .int .i64 q3, .int .u8 q4, .int .u8 c] 63
  replace E := E.trans (EA.trans EB)
  replace BB := BB.ext (EA.trans EB)
  replace BC := BC.ext (EA.trans EB)
  replace BX := BX.ext (EA.trans EB)
  replace BY := BY.ext (EA.trans EB)
  clear by_ EA EB
  have b1 := BB.cell
  have b2 := BC.cell
  go_wp2_with fail
  refine (R1.out _).mono ?_
  rintro e WC ⟨rfl, EC⟩
  replace E := E.trans EC
  replace BB := BB.ext EC
  replace BC := BC.ext EC
  replace BX := BX.ext EC
  replace BY := BY.ext EC
  replace BZ := BZ.ext EC
  clear b1 b2 EC hWB
  have b2 := BC.cell
  go_wp2_with fail
  refine (R2.out _).mono ?_
  rintro e WD ⟨rfl, ED⟩
  replace E := E.trans ED
  replace BB := BB.ext ED
  replace BC := BC.ext ED
  replace BX := BX.ext ED
  replace BY := BY.ext ED
  replace BZ := BZ.ext ED
  clear b2 ED
  have bx := BX.cell
  go_wp2_with fail
  refine (K2.out _ E).mono ?_
  rintro e WE ⟨rfl, EE⟩
  obtain ⟨WF, hWF, EF, BG, -⟩ := mk_ WE #[.int .i64 i, .int .i64 qx, .int .i64 qy, .int .i64 qz, .int .u8 qn, .int .u8 c] 63
  replace E := E.trans (EE.trans EF)
  replace BB := BB.ext (EE.trans EF)
  replace BX := BX.ext (EE.trans EF)
  replace BY := BY.ext (EE.trans EF)
  replace BZ := BZ.ext (EE.trans EF)
  have A2' := Lib.hid (fun y => A2.out (grow WF y) (E.grow y))
  clear bx EE EF
  have b1 := BB.cell
  have bx := BX.cell
  have by_ := BY.cell
  have bz := BZ.cell
  have bg := BG.cell
  go_upto_region 15 with (fail)
  refine wp_region_grow (by kernel_rfl) (by kernel_rfl) ?_
  repeat (go_big_quiet_step ((go_at_call 32; exact quiet_ext (A2'.out _))))
  refine wpQuiet_nil ?_
  intro WR hWR
  have ER : Ext WF WR := by
    obtain ⟨x, rfl⟩ := hWR
    exact (Ext.refl _).grow x
  clear hWR
  obtain ⟨hcWR, hfWR, hzWR⟩ := ext_facts ER
  go_wp2_with fail
  go_ret
  exact ⟨by simp, E.trans ER⟩
end Go.Proofs.YtenigkngmdofiaaGreat
namespace Go.Proofs.YtenigkngmdofiaaGreat
open Go.RowKit Go.ChangeShapes Go.WideShapes Go.ChangeAt Go.Deep Go.Joins

set_option maxRecDepth 100000 in
theorem latticeNormal_lifted (os : Os) (started : os.Started) (H : Type) (enc : TypeId × Value → H) :
    ReturnsInHanded {} Tryz.checked os 6 .any (Rows.latticeNormalSpec.pre6 enc Tryz.prog Tryz.f6 Rows.latticeNormalRow.domain false) (Rows.latticeNormalSpec.post enc Tryz.prog Tryz.f6 false true false false) := by
  refine returnsInHanded_of_change (C := Tryz.checked) Tryz.own started (by kernel_rfl) Tryz.func6
    (ChangeSpec.witness6 (enc := enc) (C := Tryz.checked) false ⟨#[], #[.slice none 0 0, .agg #[.int .i64 0, .int .i64 0, .int .i64 0, .int .i64 0, .int .u8 0, .int .u8 0], .int .u8 0, .agg #[.int .i64 0, .int .i64 0, .int .i64 0]], []⟩ 8 (by kernel_rfl) (by kernel_rfl) (by kernel_rfl) (by kernel_rfl)) ?_
  intro W base args ds gs before hval0 hW hcnd _
  have hval : ∀ (j : Nat) t v, Tryz.f6.params[j]? = some t → args[j]? = some v → Value.okWide Tryz.prog W .any base t v := hval0
  have hW' := hW
  obtain ⟨p, q, hA0, hV, rfl, hfz, hnd⟩ := hW
  have hA : DataW.TrodAll enc Tryz.prog W 0 (fun _ => true) true Tryz.f6.params.toList args.toList ds p := hA0
  rw [Tryz.params6] at hA hval
  have hAll := hA
  obtain ⟨v0, v1, v2, v3, d0, d1, d2, d3, p0, p1, p2, p3, rfl, rfl, rfl, h0, h1, h2, h3⟩ := trodAll_four hA
  obtain ⟨rfl, rfl⟩ := trodVars_none hV
  obtain ⟨C, n1, cc, rfl⟩ := okWide_slice Tryz.underlying22 (hval 0 22 v0 rfl rfl)
  obtain ⟨fu0, hf0⟩ := h0
  obtain ⟨qs, rfl, hk, -⟩ := kinds_of_trod (by simpa [Value.cells] using hf0)
  obtain ⟨b0, b1, b2, b3, b4, b5, fu1, rfl, hf1⟩ := open_six Tryz.underlying63 cells_brick (hval 1 63 v1 rfl rfl) h1
  obtain ⟨⟨kd, ⟨x, y, z⟩, t, c⟩, hb1, hby⟩ := brick_of_trod hf1
  unfold Brk.cs at hb1
  simp only [List.cons.injEq, and_true] at hb1
  obtain ⟨rfl, rfl, rfl, rfl, rfl, rfl⟩ := hb1
  obtain ⟨n2, rfl, hu2⟩ := u8_open (hval 2 5 v2 rfl rfl) h2
  obtain ⟨x3, y3, z3, rfl⟩ := cell_open (hval 3 50 v3 rfl rfl) h3
  clear hA0 hval0
  simp only [List.append_nil] at hW' hAll
  have hlt : ∀ q ∈ p0 ++ p1 ++ p2 ++ p3, q.block < W.heap.size := fun q hq => hW'.lt q hq
  refine (normal_walk qs C cc kd x y z t c n2 x3 y3 z3 W hk hby hu2).mono fun e W' ⟨he, hE⟩ => ?_
  subst he
  refine ⟨_, rfl, ?_⟩
  refine ⟨_, _, _, [], p0 ++ p1 ++ p2 ++ p3, [], hW', ?_, ?_, rfl, hE.frame _, fun h => by cases h⟩
  · exact trodAll_mk1 (shut_bool Tryz.underlying4 true)
  · exact trodAll_ext (ts := [22, 63, 5, 50]) Tryz.laidOut hE (by
      intro t ht
      simp only [List.mem_cons, List.not_mem_nil, or_false] at ht
      rcases ht with rfl | rfl | rfl | rfl <;> exact ⟨by kernel_rfl, of_decide_eq_true (by kernel_rfl)⟩) hAll hlt

theorem latticeNormal_holds : Rows.LatticeNormalSaid :=
  OpenClaim.holds_of_wide 6 Tryz.f6 rfl rfl rfl rfl rfl rfl rfl ⟨rfl, rfl, rfl, rfl, rfl⟩ rfl rfl rfl rfl rfl (by kernel_rfl) Tryz.func6 (by kernel_rfl)
    (of_decide_eq_true (by kernel_rfl)) (by unfold Func.isWrapper; rw [if_neg (of_decide_eq_false (by kernel_rfl))]; exact ⟨rfl, rfl⟩)
    (fun os started H enc _ => latticeNormal_lifted os started H enc)
#print axioms latticeNormal_holds
end Go.Proofs.YtenigkngmdofiaaGreat
